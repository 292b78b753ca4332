/- Of of chapter 4: a state for the program: walked. -/
import Derived.Test.YtfakfgblaakgdaaFilesB
namespace Go.Proofs.Ytfakfgblaakgdaa.Files
set_option linter.unusedVariables false
set_option linter.unusedSimpArgs false
open Go.RowKit Go.Proofs.YtfakfgblaakgdaaW.PrintWords Go.Proofs.YtfakfgblaakgdaaW.PrintLast Go.Proofs.Ytfakfgblaakgdaa.Base Go.Proofs.Ytfakfgblaakgdaa.Cells Go.Proofs.Ytfakfgblaakgdaa.Ints Go.Proofs.Ytfakfgblaakgdaa.Var

theorem Rset5 {α : Type} {k : Kd α} {e : TypeId} {base g : Nat} {w : World} {v : Value} {l : List α} (h : k.R e w base (fun _ => True) v l) (hp : ∀ b, (∃ q ∈ e :: k.E, ∃ cells, w.heap[b]? = some (.cells cells q (0, 0))) → b ≠ g) (x y z u t : Value) : k.R e (((((w.setCell ⟨g, 0, none⟩ x).setCell ⟨g, 1, none⟩ y).setCell ⟨g, 2, none⟩ z).setCell ⟨g, 3, none⟩ u).setCell ⟨g, 4, none⟩ t) base (fun _ => True) v l := by
  have h0 : k.R e w base (fun b => b ≠ g) v l := Kd.R_mono (Kd.R_bound h) (fun b hb => hp b hb.2.2.2)
  exact Kd.R_mono (Kd.R_far (p := ⟨g, 4, none⟩) (Kd.R_far (p := ⟨g, 3, none⟩) (Kd.R_far (p := ⟨g, 2, none⟩) (Kd.R_far (p := ⟨g, 1, none⟩) (Kd.R_far (p := ⟨g, 0, none⟩) h0 (fun _ h => h) _) (fun _ h => h) _) (fun _ h => h) _) (fun _ h => h) _) (fun _ h => h) _) (fun _ _ => trivial)
theorem apart_of {w : World} {g : Nat} {t : TypeId} {cells : Array Value} {E : List Nat} (hg : w.heap[g]? = some (.cells cells t (0, 0))) (ht : ∀ q ∈ E, q ≠ t) : ∀ b, (∃ q ∈ E, ∃ cells, w.heap[b]? = some (.cells cells q (0, 0))) → b ≠ g := by
  rintro b ⟨q, hq, cs, hc⟩ rfl
  rw [hc] at hg
  injection hg with hg
  injection hg with _ hg
  exact ht q hq hg
theorem RF_types : ∀ q ∈ (79 :: kFl.E : List Nat), q ≠ 33 := by decide
theorem RN_types : ∀ q ∈ (81 :: kNm.E : List Nat), q ≠ 33 := by decide

structure SrcN (w : World) (A : Option Addr) (n c : Nat) (l : List Nm) : Prop where
  len : l.length = n
  row : kNm.C w A l.length l
  few : l.length ≤ 1048576

set_option maxRecDepth 100000 in
set_option maxHeartbeats 4000000 in
theorem of_any (s : St) (F N S : Option Addr) (fc nc sc : Nat) (w : World) (h : Hd w s F fc N nc S sc) (hs : Small s) :
    Calls Try.prog 11 #[.agg #[.int .i64 s.cap, .slice F s.files.length fc, .slice N s.names.length nc, .slice S s.safe.length sc, .int .i64 s.next]] w fun e w' => ∃ vF vN vS, e = .returned (.agg #[.int .i64 s.cap, vF, vN, vS, .int .i64 s.next]) ∧ RF w' w.heap.size vF s.files ∧ RN w' w.heap.size vN s.names ∧ RN w' w.heap.size vS s.safe ∧ Below w.heap.size w w' := by
  have HH := Aside0.mk h
  have HS := Aside0.mk hs
  obtain ⟨cap, files, names, safe, next⟩ := s
  obtain ⟨lf, hlf⟩ : ∃ n, files.length = n := ⟨_, rfl⟩
  obtain ⟨ln, hln⟩ : ∃ n, names.length = n := ⟨_, rfl⟩
  obtain ⟨ls, hls⟩ : ∃ n, safe.length = n := ⟨_, rfl⟩
  simp only [hlf, hln, hls]
  have CF : Aside0 (∀ W, Below w.heap.size w W → Calls Try.prog 38 #[.slice F lf fc] W fun e w' => ∃ A c, e = .returned (.slice A lf c) ∧ RF w' w.heap.size (.slice A lf c) files ∧ Below W.heap.size W w') := ⟨by
    subst hlf
    intro W hW
    refine (some_any F fc files W (Kd.C_below HH.out.hF hW) HS.out.lf HS.out.ld).mono ?_
    rintro e w' ⟨v, rfl, hv, hb⟩
    obtain ⟨A, c, rfl, _⟩ := Kd.R_reads hv
    exact ⟨A, c, rfl, Kd.R_lower hv hW.size, hb⟩⟩
  have CN : Aside0 (∀ W A n c l, SrcN w A n c l → Below w.heap.size w W → Calls Try.prog 39 #[.slice A n c] W fun e w' => ∃ A c, e = .returned (.slice A n c) ∧ RN w' w.heap.size (.slice A n c) l ∧ Below W.heap.size W w') := ⟨by
    rintro W A n c l ⟨hn, hC, hl⟩ hW
    subst hn
    refine (names_any A c l W (Kd.C_below hC hW) hl).mono ?_
    rintro e w' ⟨v, rfl, hv, hb⟩
    obtain ⟨A, c, rfl, _⟩ := Kd.R_reads hv
    exact ⟨A, c, rfl, Kd.R_lower hv hW.size, hb⟩⟩
  have XN : SrcN w N ln nc names := ⟨hln, HH.out.hN, HS.out.ln⟩
  have XS : SrcN w S ls sc safe := ⟨hls, HH.out.hS, HS.out.ls⟩
  clear h hs HH HS hlf hln hls
  go_enter Try.func11, Try.ntmps11
  go_upto_region 1 with (fail)
  obtain ⟨W, hW⟩ : ∃ W, W = ((w.alloc (Obj.cells #[.int .i64 cap, .slice F lf fc, .slice N ln nc, .slice S ls sc, .int .i64 next] 25)).alloc
      (Obj.cells #[.int .i64 0, .slice none 0 0, .slice none 0 0, .slice none 0 0, .int .i64 0] 33)) := ⟨_, rfl⟩
  have hj : W.heap[w.heap.size]? = some (.cells #[.int .i64 cap, .slice F lf fc, .slice N ln nc, .slice S ls sc, .int .i64 next] 25 (0, 0)) := by rw [hW]; exact blk_alloc (blk_new _ _) _
  have hk : W.heap[w.heap.size + 1]? = some (.cells #[.int .i64 0, .slice none 0 0, .slice none 0 0, .slice none 0 0, .int .i64 0] 33 (0, 0)) := by rw [hW]; exact blk_new1 _ _ _ _
  have HB : Aside0 (Below w.heap.size w W) := ⟨by rw [hW]; exact below_alloc (below_alloc (Below.refl _ _) _) _⟩
  rw [← hW]
  clear hW
  have FJ := Aside0.mk (fun (w' : World) (b : Below W.heap.size W w') => all5 (blk_keep hj b))
  have FK := Aside0.mk (fun (w' : World) (b : Below W.heap.size W w') => all5 (blk_keep hk b))
  obtain ⟨d0, d1, d2, d3, d4, _, _, _, _, _⟩ := FJ.out W.drew (below_drew (Below.refl _ _))
  have HK := Aside0.mk hk
  have HD : Aside0 (Below W.heap.size W W.drew) := ⟨below_drew (Below.refl _ _)⟩
  clear hj hk
  go_region_held3 (fun w' => w'.cell? ⟨w.heap.size, 0, none⟩ = some (.int .i64 cap) ∧ w'.cell? ⟨w.heap.size, 1, none⟩ = some (.slice F lf fc) ∧ w'.cell? ⟨w.heap.size, 2, none⟩ = some (.slice N ln nc) ∧ w'.cell? ⟨w.heap.size, 3, none⟩ = some (.slice S ls sc) ∧ w'.cell? ⟨w.heap.size, 4, none⟩ = some (.int .i64 next)) (first | with_reducible exact ⟨d0, d1, d2, d3, d4⟩ | with_reducible exact ⟨i0, i1, i2, i3, i4⟩ | with_reducible exact ⟨m0, m1, m2, m3, m4⟩ | with_reducible exact ⟨n0, n1, n2, n3, n4⟩ | go_keep) (first
    | (go_at_call 38; refine (CF.out _ (bthen HB.out (by first | with_reducible exact hwn | with_reducible exact hwm | with_reducible exact HD.out))).mono ?_; rintro e wi ⟨Ai, ci, rfl, hi, bi⟩; (have hwi : Below W.heap.size W wi := bthen (by first | with_reducible exact hwn | with_reducible exact hwm | with_reducible exact HD.out) bi); obtain ⟨i0, i1, i2, i3, i4, _, _, _, _, _⟩ := FJ.out _ hwi; obtain ⟨zi0, zi1, zi2, zi3, zi4, fi0, fi1, fi2, fi3, fi4⟩ := FK.out _ hwi)
    | (go_at_call 39; refine Calls.mono (CN.out _ _ _ _ names ?src ?bel) ?_; (case src => exact XN); (case bel => exact bthen HB.out (by first | with_reducible exact hwn | with_reducible exact hwi | with_reducible exact HD.out)); rintro e wm ⟨Am, cm, rfl, hm, bm⟩; (have hwm : Below W.heap.size W wm := bthen (by first | with_reducible exact hwn | with_reducible exact hwi | with_reducible exact HD.out) bm); obtain ⟨m0, m1, m2, m3, m4, _, _, _, _, _⟩ := FJ.out _ hwm; obtain ⟨zm0, zm1, zm2, zm3, zm4, fm0, fm1, fm2, fm3, fm4⟩ := FK.out _ hwm)
    | (go_at_call 39; refine Calls.mono (CN.out _ _ _ _ safe ?src ?bel) ?_; (case src => exact XS); (case bel => exact bthen HB.out (by first | with_reducible exact hwm | with_reducible exact hwi | with_reducible exact HD.out)); rintro e wn ⟨An, cn, rfl, hn, bn⟩; (have hwn : Below W.heap.size W wn := bthen (by first | with_reducible exact hwm | with_reducible exact hwi | with_reducible exact HD.out) bn); obtain ⟨n0, n1, n2, n3, n4, _, _, _, _, _⟩ := FJ.out _ hwn; obtain ⟨zn0, zn1, zn2, zn3, zn4, fn0, fn1, fn2, fn3, fn4⟩ := FK.out _ hwn))
  all_goals go_wp2
  all_goals first
    | refine bodyPost_ret (results_cell_row rfl _ _ (w.heap.size + 1) 33 #[.int .i64 cap, .slice Ai lf ci, .slice Am ln cm, .slice An ls cn, .int .i64 next] (0, 0) _ rfl (blk5 (blk_keep HK.out hwi)) Try.underlying33 rfl (by kernel_rfl)) rfl ?_
    | refine bodyPost_ret (results_cell_row rfl _ _ (w.heap.size + 1) 33 #[.int .i64 cap, .slice Ai lf ci, .slice Am ln cm, .slice An ls cn, .int .i64 next] (0, 0) _ rfl (blk5 (blk_keep HK.out hwm)) Try.underlying33 rfl (by kernel_rfl)) rfl ?_
    | refine bodyPost_ret (results_cell_row rfl _ _ (w.heap.size + 1) 33 #[.int .i64 cap, .slice Ai lf ci, .slice Am ln cm, .slice An ls cn, .int .i64 next] (0, 0) _ rfl (blk5 (blk_keep HK.out hwn)) Try.underlying33 rfl (by kernel_rfl)) rfl ?_
  all_goals refine ⟨_, _, _, rfl, Rset5 ?_ (apart_of (blk_keep HK.out ?_) RF_types) _ _ _ _ _, Rset5 ?_ (apart_of (blk_keep HK.out ?_) RN_types) _ _ _ _ _, Rset5 ?_ (apart_of (blk_keep HK.out ?_) RN_types) _ _ _ _ _, below_set5 (bthen HB.out ?_) (Nat.le_succ _) _ _ _ _ _⟩
  all_goals first
    | with_reducible exact hwi
    | with_reducible exact hwm
    | with_reducible exact hwn
    | (repeat (first | with_reducible exact hi | with_reducible exact hm | with_reducible exact hn | with_reducible refine Kd.R_below ?_ bi | with_reducible refine Kd.R_below ?_ bm | with_reducible refine Kd.R_below ?_ bn))
end Go.Proofs.Ytfakfgblaakgdaa.Files
