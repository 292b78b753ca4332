/- A part of the proof: Of of chapter 4: a state for the program: walked. -/
import Derived.Test.YtfakfgblaakgdaaGreatPkActs3
import Derived.Test.YtfakfgblaakgdaaGreatPkActs2
import Derived.Deep.RegionLaw
import Derived.Test.YtfakfgblaakgdaaGreatWZeros
import Derived.Test.YtfakfgblaakgdaaGreatProg
import Derived.WalkKit
import Derived.WalkLawsBesides
import Derived.KernelRfl
import Derived.Deep.QuietTactic
import Derived.BigQuiet
import Derived.Deep.LoopGhost
import Derived.Lib.SliceRun
import Derived.Shelf.Spec.SlicesInsertGrow

/- Of of chapter 4: a state for the program: walked. -/
namespace Go.Proofs.YtfakfgblaakgdaaGreat.Files
set_option linter.unusedVariables false
set_option linter.unusedSimpArgs false
open Go.RowKit Go.Proofs.YtfakfgblaakgdaaGreatW.PrintWords Go.Proofs.YtfakfgblaakgdaaGreatW.PrintLast Go.Proofs.YtfakfgblaakgdaaGreat.Base Go.Proofs.YtfakfgblaakgdaaGreat.Cells Go.Proofs.YtfakfgblaakgdaaGreat.Ints Go.Proofs.YtfakfgblaakgdaaGreat.Var

theorem Rset5 {α : Type} {k : Kd α} {e : TypeId} {base g : Nat} {w : World} {v : Value} {l : List α} (h : k.R e w base (fun _ => True) v l) (hp : ∀ b, (∃ q ∈ e :: k.E, ∃ cells, w.heap[b]? = some (.cells cells q (0, 0))) → b ≠ g) (x y z u t : Value) : k.R e (((((w.setCell ⟨g, 0, none⟩ x).setCell ⟨g, 1, none⟩ y).setCell ⟨g, 2, none⟩ z).setCell ⟨g, 3, none⟩ u).setCell ⟨g, 4, none⟩ t) base (fun _ => True) v l := by
  have h0 : k.R e w base (fun b => b ≠ g) v l := Kd.R_mono (Kd.R_bound h) (fun b hb => hp b hb.2.2.2)
  exact Kd.R_mono (Kd.R_far (p := ⟨g, 4, none⟩) (Kd.R_far (p := ⟨g, 3, none⟩) (Kd.R_far (p := ⟨g, 2, none⟩) (Kd.R_far (p := ⟨g, 1, none⟩) (Kd.R_far (p := ⟨g, 0, none⟩) h0 (fun _ h => h) _) (fun _ h => h) _) (fun _ h => h) _) (fun _ h => h) _) (fun _ h => h) _) (fun _ _ => trivial)
theorem apart_of {w : World} {g : Nat} {t : TypeId} {cells : Array Value} {E : List Nat} (hg : w.heap[g]? = some (.cells cells t (0, 0))) (ht : ∀ q ∈ E, q ≠ t) : ∀ b, (∃ q ∈ E, ∃ cells, w.heap[b]? = some (.cells cells q (0, 0))) → b ≠ g := by
  rintro b ⟨q, hq, cs, hc⟩ rfl
  rw [hc] at hg
  injection hg with hg
  injection hg with _ hg
  exact ht q hq hg
theorem RF_types : ∀ q ∈ (113 :: kFl.E : List Nat), q ≠ 35 := by decide
theorem RN_types : ∀ q ∈ (146 :: kNm.E : List Nat), q ≠ 35 := by decide

structure SrcN (w : World) (A : Option Addr) (n c : Nat) (l : List Nm) : Prop where
  len : l.length = n
  row : kNm.C w A l.length l
  few : l.length ≤ 1048576

set_option maxRecDepth 100000 in
set_option maxHeartbeats 4000000 in
theorem of_any (s : St) (F N S : Option Addr) (fc nc sc : Nat) (w : World) (h : Hd w s F fc N nc S sc) (hs : Small s) :
    Calls Tryz.prog 7 #[.agg #[.int .i64 s.cap, .slice F s.files.length fc, .slice N s.names.length nc, .slice S s.safe.length sc, .int .i64 s.next]] w fun e w' => ∃ vF vN vS, e = .returned (.agg #[.int .i64 s.cap, vF, vN, vS, .int .i64 s.next]) ∧ RF w' w.heap.size vF s.files ∧ RN w' w.heap.size vN s.names ∧ RN w' w.heap.size vS s.safe ∧ Below w.heap.size w w' := by
  have HH := Aside0.mk h
  have HS := Aside0.mk hs
  obtain ⟨cap, files, names, safe, next⟩ := s
  obtain ⟨lf, hlf⟩ : ∃ n, files.length = n := ⟨_, rfl⟩
  obtain ⟨ln, hln⟩ : ∃ n, names.length = n := ⟨_, rfl⟩
  obtain ⟨ls, hls⟩ : ∃ n, safe.length = n := ⟨_, rfl⟩
  simp only [hlf, hln, hls]
  have CF : Aside0 (∀ W, Below w.heap.size w W → Calls Tryz.prog 29 #[.slice F lf fc] W fun e w' => ∃ A c, e = .returned (.slice A lf c) ∧ RF w' w.heap.size (.slice A lf c) files ∧ Below W.heap.size W w') := ⟨by
    subst hlf
    intro W hW
    refine (some_any F fc files W (Kd.C_below HH.out.hF hW) HS.out.lf HS.out.ld).mono ?_
    rintro e w' ⟨v, rfl, hv, hb⟩
    obtain ⟨A, c, rfl, _⟩ := Kd.R_reads hv
    exact ⟨A, c, rfl, Kd.R_lower hv hW.size, hb⟩⟩
  have CN : Aside0 (∀ W A n c l, SrcN w A n c l → Below w.heap.size w W → Calls Tryz.prog 30 #[.slice A n c] W fun e w' => ∃ A c, e = .returned (.slice A n c) ∧ RN w' w.heap.size (.slice A n c) l ∧ Below W.heap.size W w') := ⟨by
    rintro W A n c l ⟨hn, hC, hl⟩ hW
    subst hn
    refine (names_any A c l W (Kd.C_below hC hW) hl).mono ?_
    rintro e w' ⟨v, rfl, hv, hb⟩
    obtain ⟨A, c, rfl, _⟩ := Kd.R_reads hv
    exact ⟨A, c, rfl, Kd.R_lower hv hW.size, hb⟩⟩
  have XN : SrcN w N ln nc names := ⟨hln, HH.out.hN, HS.out.ln⟩
  have XS : SrcN w S ls sc safe := ⟨hls, HH.out.hS, HS.out.ls⟩
  clear h hs HH HS hlf hln hls
  go_enter Tryz.func7, Tryz.ntmps7
  go_upto_region 1 with (fail)
  obtain ⟨W, hW⟩ : ∃ W, W = ((w.alloc (Obj.cells #[.int .i64 cap, .slice F lf fc, .slice N ln nc, .slice S ls sc, .int .i64 next] 25)).alloc
      (Obj.cells #[.int .i64 0, .slice none 0 0, .slice none 0 0, .slice none 0 0, .int .i64 0] 35)) := ⟨_, rfl⟩
  have hj : W.heap[w.heap.size]? = some (.cells #[.int .i64 cap, .slice F lf fc, .slice N ln nc, .slice S ls sc, .int .i64 next] 25 (0, 0)) := by rw [hW]; exact blk_alloc (blk_new _ _) _
  have hk : W.heap[w.heap.size + 1]? = some (.cells #[.int .i64 0, .slice none 0 0, .slice none 0 0, .slice none 0 0, .int .i64 0] 35 (0, 0)) := by rw [hW]; exact blk_new1 _ _ _ _
  have HB : Aside0 (Below w.heap.size w W) := ⟨by rw [hW]; exact below_alloc (below_alloc (Below.refl _ _) _) _⟩
  rw [← hW]
  clear hW
  have FJ := Aside0.mk (fun (w' : World) (b : Below W.heap.size W w') => all5 (blk_keep hj b))
  have FK := Aside0.mk (fun (w' : World) (b : Below W.heap.size W w') => all5 (blk_keep hk b))
  obtain ⟨d0, d1, d2, d3, d4, _, _, _, _, _⟩ := FJ.out W.drew (below_drew (Below.refl _ _))
  have HK := Aside0.mk hk
  have HD : Aside0 (Below W.heap.size W W.drew) := ⟨below_drew (Below.refl _ _)⟩
  clear hj hk
  go_region_held3 (fun w' => w'.cell? ⟨w.heap.size, 0, none⟩ = some (.int .i64 cap) ∧ w'.cell? ⟨w.heap.size, 1, none⟩ = some (.slice F lf fc) ∧ w'.cell? ⟨w.heap.size, 2, none⟩ = some (.slice N ln nc) ∧ w'.cell? ⟨w.heap.size, 3, none⟩ = some (.slice S ls sc) ∧ w'.cell? ⟨w.heap.size, 4, none⟩ = some (.int .i64 next)) (first | with_reducible exact ⟨d0, d1, d2, d3, d4⟩ | with_reducible exact ⟨i0, i1, i2, i3, i4⟩ | with_reducible exact ⟨m0, m1, m2, m3, m4⟩ | with_reducible exact ⟨n0, n1, n2, n3, n4⟩ | go_keep) (first
    | (go_at_call 29; refine (CF.out _ (bthen HB.out (by first | with_reducible exact hwn | with_reducible exact hwm | with_reducible exact HD.out))).mono ?_; rintro e wi ⟨Ai, ci, rfl, hi, bi⟩; (have hwi : Below W.heap.size W wi := bthen (by first | with_reducible exact hwn | with_reducible exact hwm | with_reducible exact HD.out) bi); obtain ⟨i0, i1, i2, i3, i4, _, _, _, _, _⟩ := FJ.out _ hwi; obtain ⟨zi0, zi1, zi2, zi3, zi4, fi0, fi1, fi2, fi3, fi4⟩ := FK.out _ hwi)
    | (go_at_call 30; refine Calls.mono (CN.out _ _ _ _ names ?src ?bel) ?_; (case src => exact XN); (case bel => exact bthen HB.out (by first | with_reducible exact hwn | with_reducible exact hwi | with_reducible exact HD.out)); rintro e wm ⟨Am, cm, rfl, hm, bm⟩; (have hwm : Below W.heap.size W wm := bthen (by first | with_reducible exact hwn | with_reducible exact hwi | with_reducible exact HD.out) bm); obtain ⟨m0, m1, m2, m3, m4, _, _, _, _, _⟩ := FJ.out _ hwm; obtain ⟨zm0, zm1, zm2, zm3, zm4, fm0, fm1, fm2, fm3, fm4⟩ := FK.out _ hwm)
    | (go_at_call 30; refine Calls.mono (CN.out _ _ _ _ safe ?src ?bel) ?_; (case src => exact XS); (case bel => exact bthen HB.out (by first | with_reducible exact hwm | with_reducible exact hwi | with_reducible exact HD.out)); rintro e wn ⟨An, cn, rfl, hn, bn⟩; (have hwn : Below W.heap.size W wn := bthen (by first | with_reducible exact hwm | with_reducible exact hwi | with_reducible exact HD.out) bn); obtain ⟨n0, n1, n2, n3, n4, _, _, _, _, _⟩ := FJ.out _ hwn; obtain ⟨zn0, zn1, zn2, zn3, zn4, fn0, fn1, fn2, fn3, fn4⟩ := FK.out _ hwn))
  all_goals go_wp2
  all_goals first
    | refine bodyPost_ret (results_cell_row rfl _ _ (w.heap.size + 1) 35 #[.int .i64 cap, .slice Ai lf ci, .slice Am ln cm, .slice An ls cn, .int .i64 next] (0, 0) _ rfl (blk5 (blk_keep HK.out hwi)) Tryz.underlying35 rfl (by kernel_rfl)) rfl ?_
    | refine bodyPost_ret (results_cell_row rfl _ _ (w.heap.size + 1) 35 #[.int .i64 cap, .slice Ai lf ci, .slice Am ln cm, .slice An ls cn, .int .i64 next] (0, 0) _ rfl (blk5 (blk_keep HK.out hwm)) Tryz.underlying35 rfl (by kernel_rfl)) rfl ?_
    | refine bodyPost_ret (results_cell_row rfl _ _ (w.heap.size + 1) 35 #[.int .i64 cap, .slice Ai lf ci, .slice Am ln cm, .slice An ls cn, .int .i64 next] (0, 0) _ rfl (blk5 (blk_keep HK.out hwn)) Tryz.underlying35 rfl (by kernel_rfl)) rfl ?_
  all_goals refine ⟨_, _, _, rfl, Rset5 ?_ (apart_of (blk_keep HK.out ?_) RF_types) _ _ _ _ _, Rset5 ?_ (apart_of (blk_keep HK.out ?_) RN_types) _ _ _ _ _, Rset5 ?_ (apart_of (blk_keep HK.out ?_) RN_types) _ _ _ _ _, below_set5 (bthen HB.out ?_) (Nat.le_succ _) _ _ _ _ _⟩
  all_goals first
    | with_reducible exact hwi
    | with_reducible exact hwm
    | with_reducible exact hwn
    | (repeat (first | with_reducible exact hi | with_reducible exact hm | with_reducible exact hn | with_reducible refine Kd.R_below ?_ bi | with_reducible refine Kd.R_below ?_ bm | with_reducible refine Kd.R_below ?_ bn))
end Go.Proofs.YtfakfgblaakgdaaGreat.Files

/- (files.State).clone: walked. -/
namespace Go.Proofs.YtfakfgblaakgdaaGreat.Files
set_option linter.unusedVariables false
set_option linter.unusedSimpArgs false
open Go.RowKit Go.Proofs.YtfakfgblaakgdaaGreatW.PrintWords Go.Proofs.YtfakfgblaakgdaaGreatW.PrintLast Go.Proofs.YtfakfgblaakgdaaGreat.Base Go.Proofs.YtfakfgblaakgdaaGreat.Cells Go.Proofs.YtfakfgblaakgdaaGreat.Ints Go.Proofs.YtfakfgblaakgdaaGreat.Var Go.Proofs.YtfakfgblaakgdaaGreat.EditPure Go.Proofs.YtfakfgblaakgdaaGreat.Edit Go.Proofs.YtfakfgblaakgdaaGreat.RowsC

/-- what a clone's first assignment leaves -/
structure Cl1 (w0 : World) (g : Nat) (s : St) (L : List (Fl × Value)) (w : World) (vF vN vS : Value) : Prop where
  blk : w.heap[g]? = some (.cells #[.int .i64 s.cap, vF, vN, vS, .int .i64 s.next] 35 (0, 0))
  rF : CR 113 3 w w0.heap.size vF (L.map rowF)
  rN : CR 146 2 w w0.heap.size vN (s.names.map Nm.cs)
  rS : CR 146 2 w w0.heap.size vS (s.safe.map Nm.cs)
  ap : ∀ k, vN.ownBlock = some k → vS.ownBlock ≠ some k
  bel : Below w0.heap.size w0 w
theorem CR_of_RN {w : World} {base : Nat} {v : Value} {l : List Nm} (h : RN w base v l) : CR 146 2 w base v (l.map Nm.cs) := CR_of_R (d := kNm) (fun h => kNm_openM h) (fun _ => rfl) h
theorem RN_of_CR {w : World} {base : Nat} {v : Value} {l : List Nm} (h : CR 146 2 w base v (l.map Nm.cs)) : RN w base v l := R_of_CR (d := kNm) (fun x _ => kNm_mkM _ _ _ x) (fun _ => rfl) h
theorem CR_of_RFd {w : World} {base : Nat} {v : Value} {L : List (Fl × Value)} (h : RFd w base v L) : CR 113 3 w base v (L.map rowF) := CR_of_R (d := kFd) (fun h => h.1) (fun _ => rfl) h
/-- three stores into a state's block -/
theorem blk_put3 {w : World} {g : Nat} {t : TypeId} {a b c d e x y z : Value} (h : w.heap[g]? = some (.cells #[a, b, c, d, e] t (0, 0))) : (((w.setCell ⟨g, 1, none⟩ x).setCell ⟨g, 2, none⟩ y).setCell ⟨g, 3, none⟩ z).heap[g]? = some (.cells #[a, x, y, z, e] t (0, 0)) :=
  blk_put (blk_put (blk_put h 1 x rfl) 2 y rfl) 3 z rfl
theorem keep3 {w : World} {g k : Nat} (x y z : Value) (h : k ≠ g) : (((w.setCell ⟨g, 1, none⟩ x).setCell ⟨g, 2, none⟩ y).setCell ⟨g, 3, none⟩ z).heap[k]? = w.heap[k]? := by
  rw [Below.heap_setCell _ _ _ _ h, Below.heap_setCell _ _ _ _ h, Below.heap_setCell _ _ _ _ h]
theorem CR_keep3 {e sz base g : Nat} {w : World} {v x y z : Value} {rows : List (List Value)} {t : TypeId} {cs : Array Value} (h : CR e sz w base v rows) (hg : w.heap[g]? = some (.cells cs t (0, 0))) (hne : e ≠ t) : CR e sz (((w.setCell ⟨g, 1, none⟩ x).setCell ⟨g, 2, none⟩ y).setCell ⟨g, 3, none⟩ z) base v rows := by
  refine h.step (fun k hk => keep3 _ _ _ ?_)
  rintro rfl
  obtain ⟨_, _, cs', h2⟩ := h.block k hk
  rw [h2] at hg
  injection hg with hg
  injection hg with _ hg
  exact hne hg
theorem below_put3 {B : Nat} {w0 w : World} {g : Nat} (h : Below B w0 w) (hg : B ≤ g) (x y z : Value) : Below B w0 (((w.setCell ⟨g, 1, none⟩ x).setCell ⟨g, 2, none⟩ y).setCell ⟨g, 3, none⟩ z) :=
  ((h.setCell (p := ⟨g, 1, none⟩) hg x).setCell (p := ⟨g, 2, none⟩) hg y).setCell (p := ⟨g, 3, none⟩) hg z

theorem type_ne {w : World} {k g : Nat} {q t : TypeId} {cs ds : Array Value} (hk : w.heap[k]? = some (.cells cs q (0, 0))) (hg : w.heap[g]? = some (.cells ds t (0, 0))) (hne : q ≠ t) : k ≠ g := by
  rintro rfl
  rw [hk] at hg
  injection hg with hg
  injection hg with _ hg
  exact hne hg
theorem keep5 {w : World} {g k : Nat} (a b c d e : Value) (h : k ≠ g) : (((((w.setCell ⟨g, 0, none⟩ a).setCell ⟨g, 1, none⟩ b).setCell ⟨g, 2, none⟩ c).setCell ⟨g, 3, none⟩ d).setCell ⟨g, 4, none⟩ e).heap[k]? = w.heap[k]? := by
  rw [Below.heap_setCell _ _ _ _ h, Below.heap_setCell _ _ _ _ h, Below.heap_setCell _ _ _ _ h, Below.heap_setCell _ _ _ _ h, Below.heap_setCell _ _ _ _ h]
theorem OF.far5 {e t : TypeId} {w : World} {base g : Nat} {v : Value} {L : List (Fl × Value)} {cs : Array Value} (h : OF e w base v L) (hg : w.heap[g]? = some (.cells cs t (0, 0))) (h1 : e ≠ t) (h2 : 5 ≠ t) (a b c d f : Value) :
    OF e (((((w.setCell ⟨g, 0, none⟩ a).setCell ⟨g, 1, none⟩ b).setCell ⟨g, 2, none⟩ c).setCell ⟨g, 3, none⟩ d).setCell ⟨g, 4, none⟩ f) base v L :=
  h.step (fun k hk => keep5 _ _ _ _ _ (by obtain ⟨_, _, cs', h3⟩ := h.row.block k hk; exact type_ne h3 hg h1))
    (fun x hx k hk => keep5 _ _ _ _ _ (by obtain ⟨cs', h3⟩ := own_typed (h.own x hx) k hk; exact type_ne h3 hg h2))
theorem RB_set {w : World} {base g o t : Nat} {v u : Value} {l : List Int} {cs : Array Value} (h : RB w base v l) (hg : w.heap[g]? = some (.cells cs t (0, 0))) (hne : 5 ≠ t) : RB (w.setCell ⟨g, o, none⟩ u) base v l :=
  RB_step h (fun k hk => Below.heap_setCell _ _ _ _ (by obtain ⟨cs', h2⟩ := own_typed h k hk; exact type_ne h2 hg hne))
theorem map_fst_set {L : List (Fl × Value)} {i : Nat} {x : Fl × Value} (v : Value) (h : L[i]? = some x) : (L.set i (x.1, v)).map (·.1) = L.map (·.1) := by
  apply List.ext_getElem?
  intro j
  rw [List.getElem?_map, List.getElem?_map, List.getElem?_set]
  split
  · rename_i e
    subst e
    rw [h]
    split
    · rfl
    · rename_i hn; exact absurd (List.getElem?_eq_some_iff.1 h).1 hn
  · rfl
theorem row_set {L : List (Fl × Value)} {i : Nat} {x : Fl × Value} (v : Value) : (L.set i (x.1, v)).map rowF = (L.map rowF).set i ((rowF x).set 1 v) := by
  rw [List.map_set]; rfl

set_option maxRecDepth 100000 in
set_option maxHeartbeats 4000000 in
theorem clone_any (s : St) (F N S : Option Addr) (fc nc sc : Nat) (w : World) (h : Hd w s F fc N nc S sc) (hs : Small s) :
    Calls Tryz.prog 110 #[.agg #[.int .i64 s.cap, .slice F s.files.length fc, .slice N s.names.length nc, .slice S s.safe.length sc, .int .i64 s.next]] w fun e w' => ∃ vF vN vS L, e = .returned (.agg #[.int .i64 s.cap, vF, vN, vS, .int .i64 s.next]) ∧ OF 113 w' w.heap.size vF L ∧ L.map (·.1) = s.files ∧ RN w' w.heap.size vN s.names ∧ RN w' w.heap.size vS s.safe ∧ (∀ k, vN.ownBlock = some k → vS.ownBlock ≠ some k) ∧ Below w.heap.size w w' := by
  obtain ⟨L, hL, hC, hD⟩ := fd_of h.hF
  have hll : L.length = s.files.length := by rw [← hL, List.length_map]
  have HH := Aside0.mk h
  have HS := Aside0.mk hs
  have HLL := Aside0.mk hll
  have HCL := Aside0.mk hC
  have HDL := Aside0.mk hD
  have HLM := Aside0.mk hL
  obtain ⟨cap, files, names, safe, next⟩ := s
  obtain ⟨lf, hlf⟩ : ∃ n, files.length = n := ⟨_, rfl⟩
  obtain ⟨ln, hln⟩ : ∃ n, names.length = n := ⟨_, rfl⟩
  obtain ⟨ls, hls⟩ : ∃ n, safe.length = n := ⟨_, rfl⟩
  have hsf : files.length ≤ 1048576 := hs.lf
  have hlL : L.length = lf := hll.trans hlf
  have HLF : Aside0 (lf ≤ 1048576) := ⟨by omega⟩
  have HLn := Aside0.mk hlL
  simp only [hlf, hln, hls]
  have CF : Aside0 (∀ W, Below w.heap.size w W → Calls Tryz.prog 144 #[.slice F lf fc] W fun e w' => ∃ A c, e = .returned (.slice A lf c) ∧ RFd w' W.heap.size (.slice A lf c) L ∧ Below W.heap.size W w') := ⟨by
    intro W hW
    have hc : kFd.C W F L.length L := by have := Kd.C_below HCL.out hW; rwa [← hll] at this
    refine ((hlL ▸ cloneF_any F fc L W hc (by omega)) : Calls Tryz.prog 144 #[.slice F lf fc] W _).mono ?_
    rintro e w' ⟨v, rfl, hv, hb⟩
    obtain ⟨A, c, rfl⟩ := Kd.R_slice hv
    rw [hlL] at hv
    exact ⟨A, c, by rw [hlL], hv, hb⟩⟩
  have CN : Aside0 (∀ W A n c l, SrcN w A n c l → Below w.heap.size w W → Calls Tryz.prog 113 #[.slice A n c] W fun e w' => ∃ A c, e = .returned (.slice A n c) ∧ RN w' W.heap.size (.slice A n c) l ∧ Below W.heap.size W w') := ⟨by
    rintro W A n c l ⟨hn, hC, hl⟩ hW
    subst hn
    refine (cloneN_any A c l W (Kd.C_below hC hW) hl).mono ?_
    rintro e w' ⟨v, rfl, hv, hb⟩
    obtain ⟨A, c, rfl, _⟩ := Kd.R_reads hv
    exact ⟨A, c, rfl, hv, hb⟩⟩
  have XN : SrcN w N ln nc names := ⟨hln, HH.out.hN, HS.out.ln⟩
  have XS : SrcN w S ls sc safe := ⟨hls, HH.out.hS, HS.out.ls⟩
  clear h hs hL hC hD hll hlL hsf hlf
  go_enter Tryz.func110, Tryz.ntmps110
  go_upto_region 1 with (fail)
  obtain ⟨W, hW⟩ : ∃ W, W = ((w.alloc (Obj.cells #[.int .i64 cap, .slice F lf fc, .slice N ln nc, .slice S ls sc, .int .i64 next] 35)).alloc
      (Obj.cells #[.int .i64 0, .slice none 0 0, .slice none 0 0, .slice none 0 0, .int .i64 0] 35)) := ⟨_, rfl⟩
  have hj : W.heap[w.heap.size]? = some (.cells #[.int .i64 cap, .slice F lf fc, .slice N ln nc, .slice S ls sc, .int .i64 next] 35 (0, 0)) := by rw [hW]; exact blk_alloc (blk_new _ _) _
  have hk : W.heap[w.heap.size + 1]? = some (.cells #[.int .i64 0, .slice none 0 0, .slice none 0 0, .slice none 0 0, .int .i64 0] 35 (0, 0)) := by rw [hW]; exact blk_new1 _ _ _ _
  have HB : Aside0 (Below w.heap.size w W) := ⟨by rw [hW]; exact below_alloc (below_alloc (Below.refl _ _) _) _⟩
  have HZ : Aside0 (w.heap.size + 2 = W.heap.size) := ⟨by rw [hW]; simp⟩
  rw [← hW]
  clear hW
  have HJ := Aside0.mk hj
  have HK := Aside0.mk hk
  have FJ := Aside0.mk (fun (w' : World) (b : Below W.heap.size W w') => all5 (blk_keep hj b))
  clear hj hk
  go_cut [2] (fun v2 wc => v2 = .pointer (some ⟨w.heap.size + 1, 0, none⟩) ∧ ∃ A1 c1 A2 c2 A3 c3, Aside0 (Cl1 w w.heap.size ⟨cap, files, names, safe, next⟩ L wc (.slice A1 lf c1) (.slice A2 ln c2) (.slice A3 ls c3) ∧ wc.heap[w.heap.size + 1]? = some (.cells #[.int .i64 0, .slice none 0 0, .slice none 0 0, .slice none 0 0, .int .i64 0] 35 (0, 0))))
  case first =>
    have HD : Aside0 (Below W.heap.size W W.drew) := ⟨below_drew (Below.refl _ _)⟩
    have sd : W.drew.heap.size = W.heap.size := rfl
    obtain ⟨_, d1, d2, d3, _, _, fd1, fd2, fd3, _⟩ := FJ.out W.drew HD.out
    go_region_law (go_simp; go_wp2_with (first
      | (go_at_call 144; refine (CF.out _ (bthen HB.out (by first | with_reducible exact hwn | with_reducible exact hwm | with_reducible exact HD.out))).mono ?_; rintro e wi ⟨Ai, ci, rfl, hi, bi⟩; (have si := bi.size); (have hwi : Below W.heap.size W wi := bthen (by first | with_reducible exact hwn | with_reducible exact hwm | with_reducible exact HD.out) bi); obtain ⟨_, i1, i2, i3, _, _, fi1, fi2, fi3, _⟩ := FJ.out _ hwi)
      | (go_at_call 113; refine Calls.mono (CN.out _ _ _ _ names ?src ?bel) ?_; (case src => exact XN); (case bel => exact bthen HB.out (by first | with_reducible exact hwn | with_reducible exact hwi | with_reducible exact HD.out)); rintro e wm ⟨Am, cm, rfl, hm, bm⟩; (have sm := bm.size); (have hwm : Below W.heap.size W wm := bthen (by first | with_reducible exact hwn | with_reducible exact hwi | with_reducible exact HD.out) bm); obtain ⟨_, m1, m2, m3, _, _, fm1, fm2, fm3, _⟩ := FJ.out _ hwm)
      | (go_at_call 113; refine Calls.mono (CN.out _ _ _ _ safe ?src ?bel) ?_; (case src => exact XS); (case bel => exact bthen HB.out (by first | with_reducible exact hwm | with_reducible exact hwi | with_reducible exact HD.out)); rintro e wn ⟨An, cn, rfl, hn, bn⟩; (have sn := bn.size); (have hwn : Below W.heap.size W wn := bthen (by first | with_reducible exact hwm | with_reducible exact hwi | with_reducible exact HD.out) bn); obtain ⟨_, n1, n2, n3, _, _, fn1, fn2, fn3, _⟩ := FJ.out _ hwn)))
    all_goals go_wp2_with fail
    all_goals go_meet
    all_goals exact ⟨rfl, Ai, ci, Am, cm, An, cn, ⟨⟨blk_put3 (blk_keep HJ.out hwn), CR_keep3 ((((CR_of_RFd hi).below bm).below bn).lower (by have := HB.out.size; omega)) (blk_keep HJ.out hwn) (by decide), CR_keep3 (((CR_of_RN hm).below bn).lower (by have := HB.out.size; omega)) (blk_keep HJ.out hwn) (by decide), CR_keep3 ((CR_of_RN hn).lower (by have := HB.out.size; omega)) (blk_keep HJ.out hwn) (by decide), fun k h1 h2 => (by have := Kd.R_lt hm k h1; have := Kd.R_base hn k h2; omega), below_put3 (bthen HB.out hwn) (Nat.le_refl _) _ _ _⟩, (keep3 _ _ _ (by omega)).trans (blk_keep HK.out hwn)⟩⟩
  case rest =>
    obtain ⟨rfl, A1, c1, A2, c2, A3, c3, HC1⟩ := hcut
    obtain ⟨_, x1, _, _, _, _, _, _, _, _⟩ := all5 HC1.out.1.blk
    clear CF CN XN XS
    go_wp2
    go_loopg [20] lf (fun gk v20 wr => ∃ (i : Nat) (L' : List (Fl × Value)), v20 = .int .i64 i ∧ gk + i = lf ∧ Aside0 (CR 113 3 wr w.heap.size (.slice A1 lf c1) (L'.map rowF) ∧ L'.map (·.1) = files ∧ L'.drop i = L.drop i ∧ (∀ x ∈ L'.take i, RB wr w.heap.size x.2 x.1.data) ∧ ((L'.take i).filterMap fun x => x.2.ownBlock).Nodup) ∧ Aside0 (wc.grownBy wr (Value.slice A1 lf c1).ownBlock ∧ Below w.heap.size w wr))
    case atStart => exact ⟨0, L, rfl, by omega, ⟨HC1.out.1.rF, HLM.out, rfl, by simp, by simp⟩, ⟨grown_refl _ _, HC1.out.1.bel⟩⟩
    case round =>
      clear x1
      obtain ⟨i, L', rfl, hg, HR', HG⟩ := hrel
      have hL'l : L'.length = lf := by have := congrArg List.length HR'.out.2.1; have := congrArg List.length HLM.out; rw [List.length_map] at *; have := HLn.out; omega
      by_cases hlt : i < lf
      · obtain ⟨x, hx'⟩ : ∃ x, L'[i]? = some x := ⟨_, List.getElem?_eq_getElem (by omega)⟩
        have hx : L[i]? = some x := by have := congrArg (fun l => l[0]?) HR'.out.2.2.1; simp only [List.getElem?_drop, Nat.add_zero] at this; rw [← this]; exact hx'
        obtain ⟨D, dc, hxv, hdl, hrd⟩ := HDL.out x (List.mem_of_getElem? hx)
        have hxm : x.1 ∈ files := by rw [← HLM.out]; exact List.mem_map.2 ⟨x, List.mem_of_getElem? hx, rfl⟩
        have hdm := HS.out.ld x.1 hxm
        obtain ⟨gF, cap', hA, hbg, hcm, hrow⟩ : ∃ g cap, Value.slice A1 lf c1 = .slice (some ⟨g, 0, none⟩) (L'.map rowF).length cap ∧ w.heap.size ≤ g ∧ cap ≤ 9223372036854775807 ∧ CRow 113 3 wr g cap (L'.map rowF) := by
          rcases HR'.out.1 with ⟨_, h2⟩ | h
          · rw [List.map_eq_nil_iff] at h2; rw [h2] at hL'l; simp at hL'l; omega
          · exact h
        injection hA with hA1 hA2 hA3
        subst hA1 hA3
        have hrx : (L'.map rowF)[i]? = some (rowF x) := by rw [List.getElem?_map, hx']; rfl
        have d0 : wr.cell? ⟨gF, i * 3, none⟩ = some (.int .i64 x.1.id) := hrow.cell i _ hrx 0 (by omega)
        have d1 : wr.cell? ⟨gF, i * 3 + 1, none⟩ = some (.slice D x.1.data.length dc) := by have := hrow.cell i _ hrx 1 (by omega); rw [rowF, hxv] at this; exact this
        have d2 : wr.cell? ⟨gF, i * 3 + 2, none⟩ = some (.int .i64 x.1.sync) := hrow.cell i _ hrx 2 (by omega)
        have hfr := hrow.froz (i * 3 + 1)
        have hgt : ∃ cs, wr.heap[gF]? = some (.cells cs 113 (0, 0)) := by obtain ⟨cs, h1, _⟩ := hrow; exact ⟨cs, h1⟩
        have hlg : gF < wr.heap.size := hrow.lt
        have hgc : gF < wc.heap.size ∧ ∃ cs, wc.heap[gF]? = some (.cells cs 113 (0, 0)) := by
          obtain ⟨_, h2, cs, h3⟩ := HC1.out.1.rF.block gF (by simp [Value.ownBlock])
          exact ⟨h2, cs, h3⟩
        obtain ⟨csF, hcF⟩ := hgc.2
        have hgw : w.heap.size ≠ gF := fun e => type_ne HC1.out.1.blk hcF (by decide) e
        have hst : wr.heap[w.heap.size]? = some (.cells #[.int .i64 cap, .slice (some ⟨gF, 0, none⟩) lf c1, .slice A2 ln c2, .slice A3 ls c3, .int .i64 next] 35 (0, 0)) :=
          (HG.out.1.block w.heap.size (blk_lt HC1.out.1.blk) (by simpa [Value.ownBlock] using hgw)).trans HC1.out.1.blk
        have y1 := (all5 hst).2.1
        have HX' := Aside0.mk hx'
        have HRow := Aside0.mk hrow
        have HRD := Aside0.mk (hrd.below HG.out.2)
        have HDM := Aside0.mk hdm
        have HST := Aside0.mk hst
        have hlt' : (i : Int) < lf := by omega
        have hlf2 := HLF.out
        have HLl := Aside0.mk hL'l
        clear hx' hx hrow hxv hxm hrd hdm hrx hcF hst hA2 hL'l hgt hgc
        go_upto_region 5 with (fail)
        obtain ⟨W5, hW5⟩ : ∃ W5, W5 = wr.alloc (.cells #[.int .i64 x.1.id, .slice D x.1.data.length dc, .int .i64 x.1.sync] 113) := ⟨_, rfl⟩
        have HB5 : Aside0 (Below wr.heap.size wr W5) := ⟨by rw [hW5]; exact below_alloc (Below.refl _ _) _⟩
        have HZ5 : Aside0 (W5.heap.size = wr.heap.size + 1) := ⟨by rw [hW5]; simp⟩
        have k1 : W5.cell? ⟨wr.heap.size, 1, none⟩ = some (.slice D x.1.data.length dc) := by rw [hW5]; exact new_cell _ _ _ 1 _ rfl
        rw [← hW5]
        clear hW5
        have z1 := pw_cell_below HB5.out y1
        have q1 := pw_cell_below HB5.out d1
        have qf := (bcell HB5.out).2 gF (i * 3 + 1) hlg
        rw [hfr] at qf
        have Z1 : Aside0 (W5.cell? ⟨w.heap.size, 1, none⟩ = _) := ⟨z1⟩
        have Q1 : Aside0 (W5.cell? ⟨gF, i * 3 + 1, none⟩ = _) := ⟨q1⟩
        have K1 := Aside0.mk k1
        have QF := Aside0.mk qf
        have hl5 : gF < W5.heap.size := by have := HZ5.out; omega
        clear d0 d1 d2 y1 z1 q1 k1 qf hfr
        have e1 : W5.drew.cell? ⟨w.heap.size, 1, none⟩ = some (.slice (some ⟨gF, 0, none⟩) lf c1) := Z1.out
        have e2 : W5.drew.cell? ⟨wr.heap.size, 1, none⟩ = some (.slice D x.1.data.length dc) := K1.out
        have CO : Aside0 (Calls Tryz.prog 85 #[.slice D x.1.data.length dc] W5.drew fun e w' => ∃ A c, e = .returned (.slice A x.1.data.length c) ∧ RB w' W5.heap.size (.slice A x.1.data.length c) x.1.data ∧ Below W5.heap.size W5 w') := ⟨by
          refine (cloneO_any D dc x.1.data W5.drew (HRD.out.below (bthen HB5.out (below_drew (Below.refl _ _)))) HDM.out).mono ?_
          rintro e w' ⟨v, rfl, hv, hb⟩
          obtain ⟨A, c, rfl, _⟩ := RB_reads hv
          exact ⟨A, c, rfl, hv, bthen (below_drew (Below.refl _ _)) hb⟩⟩
        go_region_law (go_simp; go_wp2_with (go_at_call 85; refine CO.out.mono ?_; rintro e w6 ⟨A6, c6, rfl, ho6, hb6⟩; have HO6 := Aside0.mk ho6; have HB6 := Aside0.mk hb6; have e3 := pw_cell_below hb6 Z1.out; have e4 := pw_cell_below hb6 Q1.out; have e5 := ((bcell hb6).2 gF (i * 3 + 1) hl5).trans QF.out; clear ho6 hb6))
        all_goals go_wp2
        all_goals go_roundg (lf - (i + 1))
        all_goals first
          | (guard_target =~ (_ : Nat) < _; omega)
          | skip
        all_goals
          have HW6 := bthen HB5.out HB6.out
          have hrw := HRow.out.keep HW6
          obtain ⟨cs6, hg6, _⟩ := hrw
          have hx' := HX'.out
          refine ⟨i + 1, L'.set i (x.1, .slice A6 x.1.data.length c6), by go_num, by omega, ⟨.inr ⟨gF, c1, by rw [List.length_map, List.length_set, HLl.out], hbg, hcm, ?_⟩, by rw [map_fst_set _ hx']; exact HR'.out.2.1, ?_, ?_, ?_⟩, ⟨?_, ?_⟩⟩
          · rw [row_set]
            exact (HRow.out.keep HW6).put i 1 (rowF x) _ (by rw [List.getElem?_map, hx']; rfl) (by omega)
          · have h1 := congrArg (List.drop 1) HR'.out.2.2.1
            rw [List.drop_drop, List.drop_drop] at h1
            rw [List.drop_set_of_lt (Nat.lt_succ_self i)]
            exact h1
          · intro y hy
            rw [List.take_add_one, List.getElem?_set_self (by have := HLl.out; omega), List.take_set_of_le (Nat.le_refl _)] at hy
            rcases List.mem_append.1 hy with hy | hy
            · exact RB_set (RB_below (HR'.out.2.2.2.1 y hy) HW6) hg6 (by decide)
            · rw [Option.toList_some, List.mem_singleton] at hy
              subst hy
              exact RB_set (own_weaken HO6.out (by have := HG.out.2.size; have := HB5.out.size; omega)) hg6 (by decide)
          · rw [List.take_add_one, List.getElem?_set_self (by have := HLl.out; omega), List.take_set_of_le (Nat.le_refl _), Option.toList_some, List.filterMap_append]
            refine List.nodup_append.2 ⟨HR'.out.2.2.2.2, ?_, fun a ha b hb hab => ?_⟩
            · rw [List.filterMap_cons, List.filterMap_nil]
              split <;> simp
            · subst hab
              obtain ⟨y, hy, hya⟩ := List.mem_filterMap.1 ha
              obtain ⟨z, hz, hza⟩ := List.mem_filterMap.1 hb
              rw [List.mem_singleton] at hz
              subst hz
              have h1 := own_lt (HR'.out.2.2.2.1 y hy) a hya
              have h2 := own_base HO6.out a hza
              have := HB5.out.size
              omega
          · exact grown_trans HG.out.1 (grown_trans (grown_of_below HW6 _) (show World.grownBy _ _ (some gF) from setCells_grown _ gF (i * 3 + 1) [Value.slice A6 x.1.data.length c6]))
          · exact (bthen HG.out.2 HW6).setCell hbg _
      · have hie : i = lf := by omega
        have hst : wr.heap[w.heap.size]? = some (.cells #[.int .i64 cap, .slice A1 lf c1, .slice A2 ln c2, .slice A3 ls c3, .int .i64 next] 35 (0, 0)) :=
          (HG.out.1.block w.heap.size (blk_lt HC1.out.1.blk) (fun e => by
            obtain ⟨_, _, cs, h3⟩ := HC1.out.1.rF.block w.heap.size e.symm
            exact type_ne HC1.out.1.blk h3 (by decide) rfl)).trans HC1.out.1.blk
        obtain ⟨y0, y1, y2, y3, y4, _, _, _, _, _⟩ := all5 hst
        have hst2 : wr.heap[w.heap.size + 1]? = some (.cells #[.int .i64 0, .slice none 0 0, .slice none 0 0, .slice none 0 0, .int .i64 0] 35 (0, 0)) :=
          (HG.out.1.block (w.heap.size + 1) (blk_lt HC1.out.2) (fun e => by
            obtain ⟨_, _, cs, h3⟩ := HC1.out.1.rF.block (w.heap.size + 1) e.symm
            exact type_ne HC1.out.2 h3 (by decide) rfl)).trans HC1.out.2
        have HT2 := Aside0.mk hst2
        obtain ⟨z0, z1, z2, z3, z4, f0, f1, f2, f3, f4⟩ := all5 hst2
        have hfull : L'.take i = L' := List.take_of_length_le (by omega)
        have HOF : Aside0 (OF 113 wr w.heap.size (.slice A1 lf c1) L') := ⟨⟨HR'.out.1, by have := HR'.out.2.2.2.1; rwa [hfull] at this, by have := HR'.out.2.2.2.2; rwa [hfull] at this⟩⟩
        have HNr : Aside0 (CR 146 2 wr w.heap.size (.slice A2 ln c2) (names.map Nm.cs)) := ⟨HC1.out.1.rN.other HG.out.1 (fun k hk e => by
          obtain ⟨_, _, cs, h3⟩ := HC1.out.1.rN.block k hk
          obtain ⟨_, _, cs', h4⟩ := HC1.out.1.rF.block k e.symm
          exact type_ne h3 h4 (by decide) rfl)⟩
        have HSr : Aside0 (CR 146 2 wr w.heap.size (.slice A3 ls c3) (safe.map Nm.cs)) := ⟨HC1.out.1.rS.other HG.out.1 (fun k hk e => by
          obtain ⟨_, _, cs, h3⟩ := HC1.out.1.rS.block k hk
          obtain ⟨_, _, cs', h4⟩ := HC1.out.1.rF.block k e.symm
          exact type_ne h3 h4 (by decide) rfl)⟩
        clear hst hst2 hL'l hfull
        go_wp2
        refine bodyPost_ret (results_cell_row rfl _ _ (w.heap.size + 1) 35 #[.int .i64 cap, .slice A1 lf c1, .slice A2 ln c2, .slice A3 ls c3, .int .i64 next] (0, 0) _ rfl (blk5 HT2.out) Tryz.underlying35 rfl (by kernel_rfl)) rfl ?_
        exact ⟨_, _, _, L', rfl, HOF.out.far5 HT2.out (by decide) (by decide) _ _ _ _ _, HR'.out.2.1, Rset5 (RN_of_CR HNr.out) (apart_of HT2.out RN_types) _ _ _ _ _, Rset5 (RN_of_CR HSr.out) (apart_of HT2.out RN_types) _ _ _ _ _, HC1.out.1.ap, below_set5 HG.out.2 (Nat.le_succ _) _ _ _ _ _⟩
end Go.Proofs.YtfakfgblaakgdaaGreat.Files

/- slices.Grow and slices.Concat of names: walked. -/
namespace Go.Proofs.YtfakfgblaakgdaaGreat.Files
set_option linter.unusedVariables false
set_option linter.unusedSimpArgs false
open Go.RowKit Go.Proofs.YtfakfgblaakgdaaGreatW.PrintWords Go.Proofs.YtfakfgblaakgdaaGreatW.PrintLast Go.Proofs.YtfakfgblaakgdaaGreat.Base Go.Proofs.YtfakfgblaakgdaaGreat.Cells Go.Proofs.YtfakfgblaakgdaaGreat.Ints Go.Proofs.YtfakfgblaakgdaaGreat.Var Go.Proofs.YtfakfgblaakgdaaGreat.EditPure Go.Proofs.YtfakfgblaakgdaaGreat.Edit Go.Proofs.YtfakfgblaakgdaaGreat.RowsC

end Go.Proofs.YtfakfgblaakgdaaGreat.Files

/- slices.DeleteFunc of texts: walked. -/
namespace Go.Proofs.YtfakfgblaakgdaaGreat.StrRows
set_option linter.unusedVariables false
set_option linter.unusedSimpArgs false
open Go.RowKit Go.Proofs.YtfakfgblaakgdaaGreatW.PrintWords Go.Proofs.YtfakfgblaakgdaaGreatW.PrintLast Go.Proofs.YtfakfgblaakgdaaGreat.Base Go.Proofs.YtfakfgblaakgdaaGreat.Cells Go.Proofs.YtfakfgblaakgdaaGreat.RowsC

def encS (s : ByteArray) : List Value := [.string s]
/-- a row of texts of one's own -/
abbrev RS (w : World) (base : Nat) (v : Value) (l : List ByteArray) : Prop := Kd.string.R 9 w base (fun _ => True) v l
abbrev SRow (w : World) (g cap : Nat) (l : List ByteArray) : Prop := CRow 9 1 w g cap (l.map encS)
theorem SRow.at {w : World} {g cap : Nat} {l : List ByteArray} (h : SRow w g cap l) (i : Nat) (m : ByteArray) (hi : l[i]? = some m) : w.cell? ⟨g, i, none⟩ = some (.string m) := by
  have := h.cell i (encS m) (by rw [List.getElem?_map, hi]; rfl) 0 (by omega)
  rwa [Nat.mul_one, Nat.add_zero] at this
/-- the cells that clear writes -/
def zs (n : Nat) : List Value := (Builtin.zeroCells (Value.string ⟨#[]⟩).cells n).toList
end Go.Proofs.YtfakfgblaakgdaaGreat.StrRows

/- slices.DeleteFunc of files, and what sweep keeps: walked (printed by wip/gen_delf.py from StrRows). -/
namespace Go.Proofs.YtfakfgblaakgdaaGreat.Files
set_option linter.unusedVariables false
set_option linter.unusedSimpArgs false
open Go.RowKit Go.Proofs.YtfakfgblaakgdaaGreatW.PrintWords Go.Proofs.YtfakfgblaakgdaaGreatW.PrintLast Go.Proofs.YtfakfgblaakgdaaGreat.Base Go.Proofs.YtfakfgblaakgdaaGreat.Cells Go.Proofs.YtfakfgblaakgdaaGreat.Ints Go.Proofs.YtfakfgblaakgdaaGreat.Var Go.Proofs.YtfakfgblaakgdaaGreat.EditPure Go.Proofs.YtfakfgblaakgdaaGreat.Edit Go.Proofs.YtfakfgblaakgdaaGreat.RowsC

/-- the cells that clear writes -/
def zf (n : Nat) : List Value := (Builtin.zeroCells (Value.agg #[.int .i64 0, .slice none 0 0, .int .i64 0]).cells n).toList
end Go.Proofs.YtfakfgblaakgdaaGreat.Files

/- (*files.State).sweep: walked. -/
namespace Go.Proofs.YtfakfgblaakgdaaGreat.Files
set_option linter.unusedVariables false
set_option linter.unusedSimpArgs false
open Go.RowKit Go.Proofs.YtfakfgblaakgdaaGreatW.PrintWords Go.Proofs.YtfakfgblaakgdaaGreatW.PrintLast Go.Proofs.YtfakfgblaakgdaaGreat.Base Go.Proofs.YtfakfgblaakgdaaGreat.Cells Go.Proofs.YtfakfgblaakgdaaGreat.Ints Go.Proofs.YtfakfgblaakgdaaGreat.Var Go.Proofs.YtfakfgblaakgdaaGreat.EditPure Go.Proofs.YtfakfgblaakgdaaGreat.Edit Go.Proofs.YtfakfgblaakgdaaGreat.Sets Go.Proofs.YtfakfgblaakgdaaGreat.Wide Go.Proofs.YtfakfgblaakgdaaGreat.RowsC

/-- nothing below B has turned, but block g -/
structure Bel (g B : Nat) (w w' : World) : Prop where
  os : w'.os = w.os
  tape : w'.tape = w.tape
  output : w'.output = w.output
  size : w.heap.size ≤ w'.heap.size
  block : ∀ k, k < B → k ≠ g → w'.heap[k]? = w.heap[k]?
theorem bel {g B B' : Nat} {w w' : World} (h : Below B' w w') (hb : B ≤ B') : Bel g B w w' := ⟨h.os, h.tape, h.output, h.size, fun k hk _ => h.block k (Nat.lt_of_lt_of_le hk hb)⟩
theorem Bel.trans {g B : Nat} {a b c : World} (h : Bel g B a b) (k : Bel g B b c) : Bel g B a c := ⟨k.os.trans h.os, k.tape.trans h.tape, k.output.trans h.output, Nat.le_trans h.size k.size, fun i hi hg => (k.block i hi hg).trans (h.block i hi hg)⟩
theorem Bel.grown {g B : Nat} {a w w' : World} {row : Option Nat} (h : Bel g B a w) (hg : w.grownBy w' row) (hB : B ≤ w.heap.size) (hr : ∀ k, row = some k → B ≤ k) : Bel g B a w' :=
  ⟨hg.os.trans h.os, hg.tape.trans h.tape, hg.output.trans h.output, Nat.le_trans h.size hg.size, fun k hk hkg => (hg.block k (Nat.lt_of_lt_of_le hk hB) (fun e => by have := hr k e.symm; omega)).trans (h.block k hk hkg)⟩
/-- a state of one's own, behind pointer g -/
structure Own (w : World) (base g : Nat) (s : St) (vF vN vS : Value) (L : List (Fl × Value)) : Prop where
  blk : w.heap[g]? = some (.cells #[.int .i64 s.cap, vF, vN, vS, .int .i64 s.next] 35 (0, 0))
  oF : OF 113 w base vF L
  fs : L.map (·.1) = s.files
  rN : RN w base vN s.names
  rS : RN w base vS s.safe
  ap : ∀ k, vN.ownBlock = some k → vS.ownBlock ≠ some k
def Mine (w : World) (base g : Nat) (s : St) : Prop := ∃ vF vN vS L, Own w base g s vF vN vS L
theorem RN_block {w : World} {base : Nat} {v : Value} {l : List Nm} (h : RN w base v l) : ∀ k, v.ownBlock = some k → base ≤ k ∧ k < w.heap.size ∧ ∃ cs, w.heap[k]? = some (.cells cs 146 (0, 0)) := (CR_of_RN h).block
theorem RN_step {w w1 : World} {base : Nat} {v : Value} {l : List Nm} (h : RN w base v l) (hm : ∀ k, v.ownBlock = some k → w1.heap[k]? = w.heap[k]?) : RN w1 base v l := RN_of_CR ((CR_of_RN h).step hm)
theorem Own.below {w w1 : World} {base g : Nat} {s : St} {vF vN vS : Value} {L : List (Fl × Value)} (h : Own w base g s vF vN vS L) (hb : Below w.heap.size w w1) : Own w1 base g s vF vN vS L :=
  ⟨blk_keep h.blk hb, h.oF.below hb, h.fs, Kd.R_below h.rN hb, Kd.R_below h.rS hb, h.ap⟩
/-- what is not of the types of a state may be written -/
theorem Own.other {w w1 : World} {base g : Nat} {s : St} {vF vN vS : Value} {L : List (Fl × Value)} (h : Own w base g s vF vN vS L) {row : Option Nat} (hg : w.grownBy w1 row)
    (hne : ∀ k, row = some k → ∀ q cs, (q = 113 ∨ q = 5 ∨ q = 146 ∨ q = 35) → w.heap[k]? ≠ some (.cells cs q (0, 0))) : Own w1 base g s vF vN vS L :=
  ⟨(hg.block g (blk_lt h.blk) (fun e => hne g e.symm _ _ (.inr (.inr (.inr rfl))) h.blk)).trans h.blk, h.oF.other hg (fun k hk q cs hq => hne k hk q cs (hq.elim .inl (fun h => .inr (.inl h)))), h.fs,
    RN_step h.rN (fun k hk => by obtain ⟨_, h2, cs, h3⟩ := RN_block h.rN k hk; exact hg.block k h2 (fun e => hne k e.symm _ cs (.inr (.inr (.inl rfl))) h3)),
    RN_step h.rS (fun k hk => by obtain ⟨_, h2, cs, h3⟩ := RN_block h.rS k hk; exact hg.block k h2 (fun e => hne k e.symm _ cs (.inr (.inr (.inl rfl))) h3)), h.ap⟩
theorem Own.lower {w : World} {base base' g : Nat} {s : St} {vF vN vS : Value} {L : List (Fl × Value)} (h : Own w base g s vF vN vS L) (hb : base' ≤ base) : Own w base' g s vF vN vS L :=
  ⟨h.blk, h.oF.lower hb, h.fs, Kd.R_lower h.rN hb, Kd.R_lower h.rS hb, h.ap⟩
/-- where its rows lie -/
theorem Own.forms {w : World} {base g : Nat} {s : St} {vF vN vS : Value} {L : List (Fl × Value)} (h : Own w base g s vF vN vS L) :
    ∃ F fc N nc S sc, vF = .slice F s.files.length fc ∧ vN = .slice N s.names.length nc ∧ vS = .slice S s.safe.length sc ∧ Hd w s F fc N nc S sc := by
  obtain ⟨F, fc, h1, h2, h3⟩ := h.oF.reads
  obtain ⟨N, nc, h4, h5, h6⟩ := Kd.R_reads h.rN
  obtain ⟨S, sc, h7, h8, h9⟩ := Kd.R_reads h.rS
  have hl : L.length = s.files.length := by rw [← h.fs, List.length_map]
  rw [hl] at h1 h2 h3
  rw [h.fs] at h3
  exact ⟨F, fc, N, nc, S, sc, h1, h4, h7, ⟨h3, h6, h9, h2, h5, h8⟩⟩
end Go.Proofs.YtfakfgblaakgdaaGreat.Files

/- (*files.State).sweep: walked. -/
namespace Go.Proofs.YtfakfgblaakgdaaGreat.Files
set_option linter.unusedVariables false
set_option linter.unusedSimpArgs false
open Go.RowKit Go.Proofs.YtfakfgblaakgdaaGreatW.PrintWords Go.Proofs.YtfakfgblaakgdaaGreatW.PrintLast Go.Proofs.YtfakfgblaakgdaaGreat.Base Go.Proofs.YtfakfgblaakgdaaGreat.Cells Go.Proofs.YtfakfgblaakgdaaGreat.Ints Go.Proofs.YtfakfgblaakgdaaGreat.Var Go.Proofs.YtfakfgblaakgdaaGreat.EditPure Go.Proofs.YtfakfgblaakgdaaGreat.Edit Go.Proofs.YtfakfgblaakgdaaGreat.Sets Go.Proofs.YtfakfgblaakgdaaGreat.Wide Go.Proofs.YtfakfgblaakgdaaGreat.RowsC

end Go.Proofs.YtfakfgblaakgdaaGreat.Files

/- slices.Delete of one name: walked (printed by wip/gen_deln.py from ApplyB). -/
namespace Go.Proofs.YtfakfgblaakgdaaGreat.Files
set_option linter.unusedVariables false
set_option linter.unusedSimpArgs false
open Go.RowKit Go.Proofs.YtfakfgblaakgdaaGreatW.PrintWords Go.Proofs.YtfakfgblaakgdaaGreatW.PrintLast Go.Proofs.YtfakfgblaakgdaaGreat.Base Go.Proofs.YtfakfgblaakgdaaGreat.Cells Go.Proofs.YtfakfgblaakgdaaGreat.Ints Go.Proofs.YtfakfgblaakgdaaGreat.Var Go.Proofs.YtfakfgblaakgdaaGreat.EditPure Go.Proofs.YtfakfgblaakgdaaGreat.Edit Go.Proofs.YtfakfgblaakgdaaGreat.RowsC

theorem CRow_flat {e sz : Nat} {w : World} {g cap : Nat} {A B : List (List Value)} (h : CRow e sz w g cap (A ++ B)) (j : Nat) (u : Value) (hj : B.flatten[j]? = some u) : w.cell? ⟨g, A.length * sz + j, none⟩ = some u := by
  obtain ⟨cur, h1, h2, h3, h4, h6⟩ := h
  have hA : ∀ r ∈ A, r.length = sz := fun r hr => h6 r (List.mem_append_left _ hr)
  have hB : ∀ r ∈ B, r.length = sz := fun r hr => h6 r (List.mem_append_right _ hr)
  have hjl : j < B.length * sz := by have := (List.getElem?_eq_some_iff.1 hj).1; rwa [flatten_len B hB] at this
  have h5 := congrArg (fun l => l[A.length * sz + j]?) h4
  simp only [List.flatten_append] at h5
  rw [List.getElem?_append_right (by rw [flatten_len A hA]; omega), flatten_len A hA, Nat.add_sub_cancel_left, hj, List.getElem?_take, if_pos (by rw [List.length_append, Nat.add_mul]; omega), Array.getElem?_toList] at h5
  rw [blk_cell h1]; exact h5
end Go.Proofs.YtfakfgblaakgdaaGreat.Files

/- slices.Insert of one name: walked. -/
namespace Go.Proofs.YtfakfgblaakgdaaGreat.Files
set_option linter.unusedVariables false
set_option linter.unusedSimpArgs false
open Go.RowKit Go.Proofs.YtfakfgblaakgdaaGreatW.PrintWords Go.Proofs.YtfakfgblaakgdaaGreatW.PrintLast Go.Proofs.YtfakfgblaakgdaaGreat.Base Go.Proofs.YtfakfgblaakgdaaGreat.Cells Go.Proofs.YtfakfgblaakgdaaGreat.Ints Go.Proofs.YtfakfgblaakgdaaGreat.Var Go.Proofs.YtfakfgblaakgdaaGreat.EditPure Go.Proofs.YtfakfgblaakgdaaGreat.Edit Go.Proofs.YtfakfgblaakgdaaGreat.RowsC

/-- copy, of elements of any size -/
theorem run_copy_sz {P : Program} (w : World) (dT sT ty elem : TypeId) (b o dLen dCap : Nat) (a : Addr) (sLen sCap m sz : Nat) (cs : List Value)
    (hu : P.underlying dT = some (.slice elem)) (hs : (P.info? elem).map (·.size) = some sz) (hm : Nat.min sLen dLen = m) (hn : cs.length = m * sz)
    (hsrc : ∀ j v, cs[j]? = some v → w.cell? (a.add j) = some v) (hc : ∀ j, j < cs.length → (w.cell? ⟨b, o + j, none⟩).isSome = true) (hf : ∀ j, j < cs.length → w.frozen? ⟨b, o + j, none⟩ = false) (h1 : ∀ v ∈ cs, v.oneCell' = true) :
    (Builtin.copy_ #[dT, sT] ty #[.slice (some ⟨b, o, none⟩) dLen dCap, .slice (some a) sLen sCap]).run P w = .ok (goInt m) (w.setCells b o cs) := by
  have hl := run_loadCells_list (P := P) w a cs hsrc
  have hst := run_storeCells_cells (P := P) b o cs 0 w (by simpa using hc) (by simpa using hf) h1
  rw [hn] at hl
  cases hq : P.info? elem with
  | none => simp [hq] at hs
  | some i =>
    have hi : i.size = sz := by simpa [hq] using hs
    simp [Builtin.copy_, run_underlying hu, Builtin.lenOf, Builtin.firstCells, sizeOf, typeInfo, hq, hi, hm, hl, hst]

end Go.Proofs.YtfakfgblaakgdaaGreat.Files
