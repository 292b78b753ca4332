/- The document's Apply, walked. -/
import Derived.Test.YtelnhecpcjoonaaRefApplyA
import Derived.Test.YtelnhecpcjoonaaApplyOut
namespace Go.Proofs.Ytelnhecpcjoonaa.Edit
set_option linter.unusedVariables false
set_option linter.unusedSimpArgs false
open Go.RowKit Go.Proofs.YtelnhecpcjoonaaW.PrintWords Go.Proofs.YtelnhecpcjoonaaW.PrintLast Go.Proofs.Ytelnhecpcjoonaa.Base Go.Proofs.Ytelnhecpcjoonaa.EditPure Go.Proofs.Ytelnhecpcjoonaa.Sets Go.Proofs.Ytelnhecpcjoonaa.Wide Go.Proofs.Ytelnhecpcjoonaa.Cells

/-- what the document's Apply returns -/
def RefPost (E : Int) (L : List Meta) (seq' next' : Int) (w : World) (e : Ending) (w' : World) : Prop :=
  (∃ A' n c' a b, e = .returned (.tuple #[.agg #[.slice A' n c', .int .i64 a, .int .i64 b], .int .i64 E]) ∧ Out 53 E L seq' next' w.heap.size w' A' n c' a b) ∧ Below w.heap.size w w'
theorem refNo_post {E : Int} {L : List Meta} {seq' next' : Int} {w w' : World} (hE : E ≠ 0) (hB : Below w.heap.size w w') : RefPost E L seq' next' w (.returned (noVer E)) w' := ⟨⟨none, 0, 0, 0, 0, rfl, fun h => absurd h hE, fun _ => ⟨rfl, rfl, rfl, rfl, rfl⟩⟩, hB⟩

theorem refMetas_take (A : Option Addr) (c p : Nat) (Z : List Meta) (w : World) (hp : p ≤ Z.length) (hr : Kd.C kMeta w A Z.length Z) (hb : Z.length ≤ 1048576) :
    Calls Try.prog 56 #[.slice A p c] w fun e w' => ∃ v, e = .returned v ∧ RM 53 w' w.heap.size v (Z.take p) ∧ Below w.heap.size w w' := by
  have hl : (Z.take p).length = p := by rw [List.length_take]; omega
  have := refMetas_any A c (Z.take p) w (Kd.C_take hr hp) (by omega)
  rwa [hl] at this
theorem infoRx : ∃ i0, Try.prog.info? 53 = some i0 ∧ i0.size = 5 := by
  have h := infoMr
  obtain ⟨i0, h1, h2⟩ := Option.map_eq_some_iff.1 h
  exact ⟨i0, h1, congrArg (fun x => x.2.1) h2⟩

set_option maxRecDepth 100000 in
set_option maxHeartbeats 4000000 in
theorem refApply_no (A B D : Option Addr) (c bc dc : Nat) (l add : List Meta) (drop : List Int) (seq next seq' next' : Int) (L : List Meta) (w : World)
    (hr : Kd.C kMeta w A l.length l) (hc : l.length ≤ c) (hv : verOk l seq next = false) :
    Calls Try.prog 25 #[.agg #[.slice A l.length c, .int .i64 seq, .int .i64 next], .agg #[.slice D drop.length dc, .slice B add.length bc, .int .i64 seq', .int .i64 next']] w (RefPost 9 L seq' next' w) := by
  have HR := Aside0.mk hr
  have he : Aside0 (verE l seq next = 9) := ⟨by rw [verE, if_neg (by simp [hv])]⟩
  clear hr hv
  go_enter Try.func25, Try.ntmps25
  go_wp2_with fail
  obtain ⟨W, hW⟩ : ∃ W, W = (((w.alloc (Obj.cells #[Value.slice A l.length c, Value.int IntKind.i64 seq, Value.int IntKind.i64 next] 38)).alloc (Obj.cells #[Value.slice D drop.length dc, Value.slice B add.length bc, Value.int IntKind.i64 seq', Value.int IntKind.i64 next'] 57)).alloc (Obj.cells #[Value.slice none 0 0, Value.int IntKind.i64 0, Value.int IntKind.i64 0] 38)) := ⟨_, rfl⟩
  have hb0 : Below w.heap.size w W := by rw [hW]; exact below_alloc (below_alloc (below_alloc (Below.refl _ _) _) _) _
  have hk : W.heap[w.heap.size + 1 + 1]? = some (.cells #[.slice none 0 0, .int .i64 0, .int .i64 0] 38 (0, 0)) := by
    have := blk_new1 (w.alloc (Obj.cells #[Value.slice A l.length c, Value.int IntKind.i64 seq, Value.int IntKind.i64 next] 38)) (Obj.cells #[Value.slice D drop.length dc, Value.slice B add.length bc, Value.int IntKind.i64 seq', Value.int IntKind.i64 next'] 57) #[Value.slice none 0 0, Value.int IntKind.i64 0, Value.int IntKind.i64 0] 38
    rw [hW]; simpa using this
  rw [← hW]
  clear hW
  refine (refCheck_any A c l seq next _ (Kd.C_below HR.out hb0) hc).mono ?_
  rintro e w1 ⟨rfl, hb1⟩
  have HK := Aside0.mk (blk_keep hk hb1)
  have HB := Aside0.mk (bthen hb0 hb1)
  rw [he.out]
  obtain ⟨z0, z1, z2, f0, f1, f2⟩ := all3 HK.out
  clear hk hb0 hb1
  go_wp2
  refine bodyPost_ret (results_ct rfl _ _ (w.heap.size + 1 + 1) 38 #[.slice none 0 0, .int .i64 0, .int .i64 0] (0, 0) _ rfl (blk3 HK.out) Try.underlying38 rfl (by kernel_rfl)) rfl ?_
  exact refNo_post (by decide) (below_set3 HB.out (by omega) _ _ _)

set_option maxRecDepth 100000 in
set_option maxHeartbeats 16000000 in
theorem refApply_yes (A B D : Option Addr) (c bc dc : Nat) (l add : List Meta) (drop : List Int) (seq next seq' next' E : Int) (LL : List Meta) (w : World) (hEE0 : E = applyE l seq next drop add seq' next') (hLL0 : LL = applyL l drop add)
    (hr : Kd.C kMeta w A l.length l) (hc : l.length ≤ c) (hra : Kd.C kMeta w B add.length add) (hd : ReadsInt w .i64 D drop.length drop) (hb : l.length + add.length ≤ 1048576) (hdl : drop.length ≤ 1048576) (hv : verOk l seq next = true) :
    Calls Try.prog 25 #[.agg #[.slice A l.length c, .int .i64 seq, .int .i64 next], .agg #[.slice D drop.length dc, .slice B add.length bc, .int .i64 seq', .int .i64 next']] w (RefPost E LL seq' next' w) := by
  have HR := Aside0.mk hr
  have HRA := Aside0.mk hra
  have HDr := Aside0.mk hd
  have HV := Aside0.mk hv
  have hE : Aside0 (verE l seq next = 0) := ⟨by rw [verE, if_pos hv]⟩
  have HBL := Aside0.mk hb
  have HCl := Aside0.mk hc
  have hEE := Aside0.mk hEE0
  have hLL := Aside0.mk hLL0
  have hbl : l.length ≤ 1048576 := by omega
  clear hr hra hd hv hb hc hEE0 hLL0
  go_enter Try.func25, Try.ntmps25
  go_wp2_with fail
  obtain ⟨W, hW⟩ : ∃ W, W = (((w.alloc (Obj.cells #[Value.slice A l.length c, Value.int IntKind.i64 seq, Value.int IntKind.i64 next] 38)).alloc (Obj.cells #[Value.slice D drop.length dc, Value.slice B add.length bc, Value.int IntKind.i64 seq', Value.int IntKind.i64 next'] 57)).alloc (Obj.cells #[Value.slice none 0 0, Value.int IntKind.i64 0, Value.int IntKind.i64 0] 38)) := ⟨_, rfl⟩
  have hb0 : Below w.heap.size w W := by rw [hW]; exact below_alloc (below_alloc (below_alloc (Below.refl _ _) _) _) _
  have hk1 : W.heap[w.heap.size]? = some (.cells #[.slice A l.length c, .int .i64 seq, .int .i64 next] 38 (0, 0)) := by
    rw [hW]; exact blk_alloc (blk_alloc (blk_new w _) _) _
  have hk2 : W.heap[w.heap.size + 1]? = some (.cells #[.slice D drop.length dc, .slice B add.length bc, .int .i64 seq', .int .i64 next'] 57 (0, 0)) := by
    rw [hW]; exact blk_alloc (blk_new1 _ _ _ _) _
  have hk3 : W.heap[w.heap.size + 1 + 1]? = some (.cells #[.slice none 0 0, .int .i64 0, .int .i64 0] 38 (0, 0)) := by
    have := blk_new1 (w.alloc (Obj.cells #[Value.slice A l.length c, Value.int IntKind.i64 seq, Value.int IntKind.i64 next] 38)) (Obj.cells #[Value.slice D drop.length dc, Value.slice B add.length bc, Value.int IntKind.i64 seq', Value.int IntKind.i64 next'] 57) #[Value.slice none 0 0, Value.int IntKind.i64 0, Value.int IntKind.i64 0] 38
    rw [hW]; simpa using this
  rw [← hW]
  clear hW
  refine (refCheck_any A c l seq next _ (Kd.C_below HR.out hb0) HCl.out).mono ?_
  rintro e w1 ⟨rfl, hb1⟩
  have K1 := Aside0.mk (blk_keep hk1 hb1)
  have K2 := Aside0.mk (blk_keep hk2 hb1)
  have K3 := Aside0.mk (blk_keep hk3 hb1)
  have HB := Aside0.mk (bthen hb0 hb1)
  rw [hE.out]
  have x0 := blk_cell K1.out 0
  clear hk1 hk2 hk3 hb0 hb1
  go_wp2_with fail
  refine (refMetas_any A c l _ (Kd.C_below HR.out HB.out) hbl).mono ?_
  rintro e w2 ⟨v2, rfl, ho, hb2⟩
  have HO := Aside0.mk ho
  have HB2 := Aside0.mk hb2
  have y0 := (all4 (blk_keep K2.out HB2.out)).1
  have HL1 := Aside0.mk (blk_lt K3.out)
  clear ho hb2 x0
  go_wp2
  go_loopg [6, 7] drop.length (fun g0 v6 v7 wr => ∃ (i : Nat) (k : List Meta), v7 = .int .i64 i ∧ g0 + i = drop.length ∧ Aside0 (dropIds l (drop.take i) = some k ∧ Srt k ∧ k.length ≤ l.length) ∧ Aside0 (RM 53 wr w1.heap.size v6 k) ∧ Aside0 (Below w1.heap.size w1 wr))
  case atStart => exact ⟨0, l, rfl, by omega, ⟨rfl, strict_srt (verOk_list HV.out).2.1, Nat.le_refl _⟩, HO, HB2⟩
  case round =>
    clear HO HB2 y0
    obtain ⟨i, k, rfl, hg, HD, HO, HBr⟩ := hrel
    obtain ⟨A', c', rfl, hcc, hCC⟩ := RM_reads HO.out
    have HC' := Aside0.mk hCC
    clear hCC
    have hkl : k.length ≤ 1048576 := by have := HD.out.2.2; omega
    by_cases hlt : i < drop.length
    · have hid0 := (HDr.out.below (bthen HB.out HBr.out)).at_ i (by omega) (by omega)
      obtain ⟨id, hidn⟩ : ∃ id, Aside0 (drop[i]? = some id ∧ rd drop i = id) := ⟨drop[i], ⟨List.getElem?_eq_getElem hlt, by simp [rd, List.getD_eq_getElem?_getD, List.getElem?_eq_getElem hlt]⟩⟩
      have hts : Aside0 (drop.take (i + 1) = drop.take i ++ [id]) := ⟨by rw [List.take_add_one, hidn.out.1]; rfl⟩
      have y0 := (all4 (blk_keep K2.out HBr.out)).1
      clear hid0
      rename World => wo
      go_wp2
      go_loopg [8, 9] k.length (fun g9 v8 v9 wv => ∃ p : Nat, v9 = .int .i64 p ∧ g9 + p = k.length ∧ Aside0 (RM 53 wv wo.heap.size v8 ((k.take p).filter (fun x => x.id != id))) ∧ Aside0 (Below wo.heap.size wo wv))
      case atStart => exact ⟨0, rfl, by omega, ⟨Kd.R_nil kMeta _ _ _ _⟩, ⟨Below.refl _ _⟩⟩
      case round =>
        obtain ⟨p, rfl, hgp, HO8, HBv⟩ := hrel
        have HBw := Aside0.mk (bthen HBr.out HBv.out)
        have y0 := (all4 (blk_keep K2.out HBw.out)).1
        by_cases hp : p < k.length
        · obtain ⟨m, hm⟩ : ∃ m, k[p]? = some m := ⟨_, List.getElem?_eq_getElem hp⟩
          obtain ⟨ad, rfl, c0, c1, c2, c3, c4⟩ := atMeta (Kd.C_below HC'.out HBv.out) p m hm
          obtain ⟨dd, rfl, hid⟩ := (HDr.out.below (bthen HB.out HBw.out)).at_ i (by omega) (by omega)
          rw [Int.toNat_natCast, hidn.out.2] at hid
          have ht : Aside0 (k.take (p + 1) = k.take p ++ [m]) := ⟨by rw [List.take_add_one, hm]; rfl⟩
          have HL : Aside0 (((k.take p).filter (fun x => x.id != id)).length ≤ p) := ⟨Nat.le_trans (List.length_filter_le _ _) (by rw [List.length_take]; omega)⟩
          clear hm
          by_cases hne : m.id = id
          · have hne' : (m.id != id) = false := by simp [hne]
            go_wp2_with fail
            go_quiet (fail)
            go_wp2
            go_roundg (k.length - (p + 1))
            case measure => omega
            case rel => exact ⟨p + 1, by go_num, by omega, ⟨by rw [ht.out, List.filter_append, List.filter_cons_of_neg (by simp [hne]), List.filter_nil, List.append_nil]; exact HO8.out⟩, ⟨pw_below_drewN HBv.out nq⟩⟩
          · have hne' : (m.id != id) = true := by simp [hne]
            go_wp2_with fail
            go_quiet (fail)
            go_wp2_with (first | (at_builtin; refine Kd.R_append kMeta (w0 := wo) wo.heap.size rfl (.tmp 45) (.tmp 50) 36 53 (.agg #[(.int .i64 0), (.int .i64 0), (.int .i64 0), (.string ⟨#[]⟩), (.string ⟨#[]⟩)]) 56 rfl Try.underlying36 infoMr rfl (by decide) (by omega) u8 ((k.take p).filter (fun x => x.id != id)) m m.cs (fun _ => True) (fun _ => False) rfl rfl ?aP (fun _ hk => hk.elim) (fun _ _ => trivial) ?aO ?aB ?aS ?c1 ?_; (case aP => exact kMeta_mkM _ _ _ m); (case aO => exact Kd.R_drewN HO8.out nq); (case aB => exact pw_below_drewN HBv.out nq); (case aS => exact HBv.out.size); (case c1 => have := HL.out; omega); intro v1 w3 hown hB1 hg1 hat; have HO9 := Aside0.mk hown; have HB9 := Aside0.mk hB1; clear hown hB1 hg1 hat))
            go_roundg (k.length - (p + 1))
            case measure => omega
            case rel => exact ⟨p + 1, by go_num, by omega, ⟨by rw [ht.out, List.filter_append, List.filter_cons_of_pos (by simp [hne]), List.filter_nil]; exact HO9.out⟩, HB9⟩
        · have hpk : Aside0 (k.take p = k) := ⟨List.take_of_length_le (by omega)⟩
          obtain ⟨F, hF⟩ := named (k.filter (fun x => x.id != id))
          have HF8 : Aside0 (RM 53 wr wo.heap.size u8 F) := ⟨by rw [hF.out, ← hpk.out]; exact HO8.out⟩
          obtain ⟨A8, c8, rfl, hc8, hC8⟩ := RM_reads HF8.out
          have HC8 := Aside0.mk hC8
          have hn := none_out k id
          rw [← hF.out] at hn
          clear hC8
          obtain ⟨nf, hnf⟩ : ∃ nf, nf = F.length := ⟨_, rfl⟩
          rw [← hnf] at hn
          have hHB := HBw.out
          by_cases hall : nf = k.length
          · have hE71 : Aside0 (E = 71) := ⟨by
              have h1 : dropIds l drop = none := by
                rw [← List.take_append_drop (i + 1) drop, hts.out, dropIds_app, dropIds_snoc, HD.out.1]
                simp only [Option.bind_some]
                rw [if_neg (by rw [hn.1 hall]; simp)]
                rfl
              rw [hEE.out, applyE, if_pos HV.out, h1]⟩
            obtain ⟨z0, z1, z2, f0, f1, f2⟩ := all3 (blk_keep K3.out HBw.out)
            have HK := Aside0.mk (blk_keep K3.out HBw.out)
            rw [← hnf, hall]
            clear hn hnf
            go_wp2
            refine bodyPost_ret (results_ct rfl _ _ (w.heap.size + 1 + 1) 38 #[.slice none 0 0, .int .i64 0, .int .i64 0] (0, 0) _ rfl (blk3 HK.out) Try.underlying38 rfl (by kernel_rfl)) rfl ?_
            rw [hE71.out]
            exact refNo_post (by decide) (below_set3 (bthen HB.out HBw.out) (by omega) _ _ _)
          · have hany : Aside0 (k.any (fun x => x.id == id) = true) := ⟨by
              cases h : k.any (fun x => x.id == id) with
              | true => rfl
              | false => exact absurd (hn.2 h) hall⟩
            have hall' : ¬ ((nf : Int) = (k.length : Int)) := by omega
            rw [← hnf]
            clear hn
            go_wp2
            go_roundg (drop.length - (i + 1))
            case measure => omega
            case rel => exact ⟨i + 1, F, by go_num, by omega, ⟨by rw [hts.out, dropIds_snoc, HD.out.1]; simp only [Option.bind_some]; rw [if_pos hany.out, hF.out], by rw [hF.out]; exact srt_filter HD.out.2.1 _, by rw [hF.out]; exact Nat.le_trans (List.length_filter_le _ _) HD.out.2.2⟩, ⟨by rw [hnf]; exact Kd.R_lower HF8.out HBr.out.size⟩, HBw⟩
    · have HDk : Aside0 (dropIds l drop = some k) := ⟨by have := HD.out.1; rwa [List.take_of_length_le (by omega)] at this⟩
      have hLk : Aside0 (LL = srt (k ++ add)) := ⟨by rw [hLL.out, applyL, HDk.out]; rfl⟩
      have hEk : Aside0 (E = if seq' < seq ∨ next' < next then 4 else if verOk (srt (k ++ add)) seq' next' then 0 else 9) := ⟨by rw [hEE.out, applyE, if_pos HV.out, HDk.out]⟩
      have hl256 := (verOk_list HV.out).1
      have hk256 : k.length ≤ 256 := Nat.le_trans HD.out.2.2 hl256
      obtain ⟨x0, x1, x2, _, _, _⟩ := all3 (blk_keep K1.out HBr.out)
      obtain ⟨y0, y1, y2, y3, _, _, _, _⟩ := all4 (blk_keep K2.out HBr.out)
      obtain ⟨z0, z1, z2, f0, f1, f2⟩ := all3 (blk_keep K3.out HBr.out)
      have HK := Aside0.mk (blk_keep K3.out HBr.out)
      clear hg
      by_cases hs : seq' < seq
      · have hE4 : Aside0 (E = 4) := ⟨by rw [hEk.out, if_pos (.inl hs)]⟩
        go_wp2
        refine bodyPost_ret (results_ct rfl _ _ (w.heap.size + 1 + 1) 38 #[.slice none 0 0, .int .i64 0, .int .i64 0] (0, 0) _ rfl (blk3 HK.out) Try.underlying38 rfl (by kernel_rfl)) rfl ?_
        rw [hE4.out]
        exact refNo_post (by decide) (below_set3 (bthen HB.out HBr.out) (by omega) _ _ _)
      · by_cases hn : next' < next
        · have hE4 : Aside0 (E = 4) := ⟨by rw [hEk.out, if_pos (.inr hn)]⟩
          go_wp2
          refine bodyPost_ret (results_ct rfl _ _ (w.heap.size + 1 + 1) 38 #[.slice none 0 0, .int .i64 0, .int .i64 0] (0, 0) _ rfl (blk3 HK.out) Try.underlying38 rfl (by kernel_rfl)) rfl ?_
          rw [hE4.out]
          exact refNo_post (by decide) (below_set3 (bthen HB.out HBr.out) (by omega) _ _ _)
        · have hE9 : Aside0 (E = if verOk (srt (k ++ add)) seq' next' then 0 else 9) := ⟨by rw [hEk.out, if_neg (by omega)]⟩
          by_cases ha : 256 < add.length
          · have hE0 : Aside0 (E = 9) := ⟨by
              rw [hE9.out, if_neg]
              intro h
              have h1 := (verOk_list h).1
              rw [(srt_perm _).length_eq, List.length_append] at h1
              omega⟩
            have ha' : (256 : Int) < add.length := by omega
            go_wp2
            refine bodyPost_ret (results_ct rfl _ _ (w.heap.size + 1 + 1) 38 #[.slice none 0 0, .int .i64 0, .int .i64 0] (0, 0) _ rfl (blk3 HK.out) Try.underlying38 rfl (by kernel_rfl)) rfl ?_
            rw [hE0.out]
            exact refNo_post (by decide) (below_set3 (bthen HB.out HBr.out) (by omega) _ _ _)
          · have ha' : ¬ ((256 : Int) < add.length) := by omega
            go_wp2
            clear x0 x1 x2 y0 y1 y2 y3 z0 z1 z2 f0 f1 f2 HK ha'
            go_loopg [6, 10] add.length (fun g v6 v10 wv => ∃ (j : Nat) (Z : List Meta), v10 = .int .i64 j ∧ g + j = add.length ∧ Aside0 (Z.Perm (k ++ add.take j) ∧ Srt Z) ∧ Aside0 (RM 53 wv w1.heap.size v6 Z) ∧ Aside0 (Below w1.heap.size w1 wv))
            case atStart => exact ⟨0, k, rfl, by omega, ⟨by simp, HD.out.2.1⟩, HO, HBr⟩
            case round =>
              clear HO HBr HC'
              obtain ⟨j, Z, rfl, hg, HZ, HO, HBr⟩ := hrel
              obtain ⟨A6, c6, rfl, hc6, hC6⟩ := RM_reads HO.out
              have HC6 := Aside0.mk hC6
              have HZL : Aside0 (Z.length = k.length + j) := ⟨by rw [HZ.out.1.length_eq, List.length_append, List.length_take]; omega⟩
              have hz512 : Z.length ≤ 512 := by have := HZL.out; omega
              obtain ⟨y0, y1, y2, y3, _, _, _, _⟩ := all4 (blk_keep K2.out HBr.out)
              clear hC6
              by_cases hj : j < add.length
              · obtain ⟨x, hx⟩ : ∃ m, add[j]? = some m := ⟨_, List.getElem?_eq_getElem hj⟩
                obtain ⟨ax, hax, e0, e1, e2, e3, e4⟩ := atMeta (Kd.C_below HRA.out (bthen HB.out HBr.out)) j x hx
                have htj : Aside0 (add.take (j + 1) = add.take j ++ [x]) := ⟨by rw [List.take_add_one, hx]; rfl⟩
                subst hax
                have E0 := Aside0.mk (And.intro e0 (And.intro e1 (And.intro e2 (And.intro e3 e4))))
                clear hx e0 e1 e2 e3 e4
                rename World => wo
                go_wp2
                clear y0 y1 y2 y3
                go_loopg [11] Z.length (fun g v11 wv => ∃ p : Nat, v11 = .int .i64 p ∧ g + p = Z.length ∧ Aside0 (∀ m ∈ Z.take p, ltM m x = true) ∧ Aside0 (Below wo.heap.size wo wv))
                case atStart => exact ⟨0, rfl, by omega, ⟨fun m hm => by simp at hm⟩, ⟨Below.refl _ _⟩⟩
                case round =>
                  obtain ⟨p, rfl, hgp, HF, HBv⟩ := hrel
                  have HBw := Aside0.mk (bthen HBr.out HBv.out)
                  have y1 := (all4 (blk_keep K2.out HBw.out)).2.1
                  obtain ⟨bb, hbb⟩ := named (match Z[p]? with | none => false | some m => ltM m x)
                  go_upto_region 24 with (fail)
                  go_cut [99] (fun v99 wc => v99 = .bool bb ∧ Aside0 (Below wr.heap.size wr wc))
                  case first =>
                    have Y1 := wb_cell y1
                    have X0 := wb_cell (pw_cell_below HBv.out E0.out.1)
                    have X1 := wb_cell (pw_cell_below HBv.out E0.out.2.1)
                    have X2 := wb_cell (pw_cell_below HBv.out E0.out.2.2.1)
                    have X3 := wb_cell (pw_cell_below HBv.out E0.out.2.2.2.1)
                    have X4 := wb_cell (pw_cell_below HBv.out E0.out.2.2.2.2)
                    clear y1
                    by_cases hp : p < Z.length
                    · obtain ⟨m, hm⟩ : ∃ m, Z[p]? = some m := ⟨_, List.getElem?_eq_getElem hp⟩
                      obtain ⟨am, ham, d0, d1, d2, d3, d4⟩ := atMeta (Kd.C_below HC6.out HBv.out) p m hm
                      have D0 := wb_cell d0
                      have D1 := wb_cell d1
                      have D2 := wb_cell d2
                      have D3 := wb_cell d3
                      have D4 := wb_cell d4
                      have hv : Aside0 (bb = befB m x) := ⟨by rw [hbb.out, hm]; rfl⟩
                      have CB : ∀ W, Calls Try.prog 57 #[.agg #[.int .i64 m.id, .int .i64 m.level, .int .i64 m.count, .string m.low, .string m.high], .agg #[.int .i64 x.id, .int .i64 x.level, .int .i64 x.count, .string x.low, .string x.high]] W fun e w' => e = .returned (.bool bb) ∧ Below W.heap.size W w' :=
                        fun W => (before_any m x W).mono fun e w' ⟨he, o1, o2, ho⟩ => ⟨by rw [hv.out]; exact he, by rw [ho]; exact below_alloc (below_alloc (Below.refl _ _) _) _⟩
                      subst ham
                      clear hm d0 d1 d2 d3 d4
                      refine wp_region_wide (by kernel_rfl) (by kernel_rfl) ?_
                      repeat (go_big_quiet_step ((go_at_call 57; exact wide_of (CB _))))
                      refine wpQuiet_nil ?_
                      rintro w' ⟨x, rfl⟩
                      go_wp2
                      go_meet
                      exact ⟨rfl, ⟨wb_below _ x⟩⟩
                    · have hv : Aside0 (bb = false) := ⟨by rw [hbb.out, List.getElem?_eq_none (by omega)]⟩
                      have hp1 : decide ((p : Int) < Z.length) = false := by simp; omega
                      refine wp_region_wide (by kernel_rfl) (by kernel_rfl) ?_
                      repeat (go_big_quiet_step (fail))
                      refine wpQuiet_nil ?_
                      rintro w' ⟨x, rfl⟩
                      go_wp2
                      go_meet
                      exact ⟨by rw [hv.out], ⟨wb_below _ x⟩⟩
                  case rest =>
                    obtain ⟨rfl, HBc⟩ := hcut
                    have HBd := Aside0.mk (bthen HBv.out HBc.out)
                    clear y1
                    cases hb1 : bb with
                    | true =>
                      have hpl : p < Z.length := by
                        rcases Nat.lt_or_ge p Z.length with h | h
                        · exact h
                        · rw [hb1, List.getElem?_eq_none h] at hbb; exact absurd hbb.out (by simp)
                      obtain ⟨m, hm⟩ : ∃ m, Z[p]? = some m := ⟨_, List.getElem?_eq_getElem hpl⟩
                      have hlm : ltM m x = true := by have := hbb.out; rw [hm, hb1] at this; exact this.symm
                      have HF' : Aside0 (∀ y ∈ Z.take (p + 1), ltM y x = true) := ⟨fun y hy => by
                        rw [List.take_add_one, hm] at hy
                        rcases List.mem_append.1 hy with hy | hy
                        · exact HF.out y hy
                        · rw [show y = m by simpa using hy]; exact hlm⟩
                      clear hm hlm hb1
                      go_wp2
                      go_roundg (Z.length - (p + 1))
                      case measure => omega
                      case rel => exact ⟨p + 1, by go_num, by omega, HF', HBd⟩
                    | false =>
                      have hno : Aside0 (∀ m, Z[p]? = some m → ltM m x = false) := ⟨fun m hm => by have := hbb.out; rw [hm, hb1] at this; exact this.symm⟩
                      have hpz : p ≤ Z.length := by omega
                      obtain ⟨i0, hi0, hz5⟩ := infoRx
                      have hcut1 := cut_to (P := Try.prog) 36 53 .i64 Try.underlying36 hi0 A6 Z.length c6 p (by omega) (by omega) hc6
                      have hcut2 := cut_from (P := Try.prog) 36 53 .i64 Try.underlying36 hi0 5 hz5 A6 Z.length c6 p (by omega) (by omega)
                      rw [Int.toNat_natCast] at hcut1 hcut2
                      obtain ⟨A7, hA7⟩ : ∃ A7, A7 = (if c6 = p then A6 else A6.map (·.add (p * 5))) := ⟨_, rfl⟩
                      rw [← hA7] at hcut2
                      have HC7 : Aside0 (Kd.C kMeta wo A7 (Z.drop p).length (Z.drop p)) := ⟨by rw [hA7]; exact Kd.C_drop HC6.out hpz hc6⟩
                      have HD7 : Aside0 ((Z.drop p).length = Z.length - p) := ⟨List.length_drop⟩
                      have HTl : Aside0 ((Z.take p).length = p) := ⟨by rw [List.length_take]; omega⟩
                      clear hb1 hA7
                      go_wp2_with fail
                      refine (refMetas_take A6 c6 p Z _ hpz (Kd.C_below HC6.out HBd.out) (by omega)).mono ?_
                      rintro e w3 ⟨v3, rfl, ho3, hb3⟩
                      have HO3 := Aside0.mk ho3
                      have HB3 := Aside0.mk hb3
                      have HB4 := Aside0.mk (bthen HBd.out hb3)
                      have y1 := (all4 (blk_keep K2.out (bthen HBr.out HB4.out))).2.1
                      have e0 := pw_cell_below HB4.out E0.out.1
                      have e1 := pw_cell_below HB4.out E0.out.2.1
                      have e2 := pw_cell_below HB4.out E0.out.2.2.1
                      have e3 := pw_cell_below HB4.out E0.out.2.2.2.1
                      have e4 := pw_cell_below HB4.out E0.out.2.2.2.2
                      clear ho3 hb3
                      go_wp2_with (first | (at_builtin; refine Kd.R_append kMeta (w0 := wc) wc.heap.size rfl (.tmp 106) (.tmp 112) 36 53 (.agg #[(.int .i64 0), (.int .i64 0), (.int .i64 0), (.string ⟨#[]⟩), (.string ⟨#[]⟩)]) 56 rfl Try.underlying36 infoMr rfl (by decide) (by omega) v3 (Z.take p) x x.cs (fun _ => True) (fun _ => False) rfl rfl ?aP (fun _ hk => hk.elim) (fun _ _ => trivial) ?aO ?aB ?aS ?c1 ?_; (case aP => exact kMeta_mkM _ _ _ x); (case aO => exact HO3.out); (case aB => exact HB3.out); (case aS => exact HB3.out.size); (case c1 => rw [HTl.out]; omega); intro v4 w4 hown hB1 hg1 hat; have HO4 := Aside0.mk hown; have HB5 := Aside0.mk hB1; clear hown hB1 hg1 hat; have HC8 := Aside0.mk (Kd.C_below HC7.out (bthen HBd.out HB5.out))) | (at_builtin; refine Kd.R_append_rows kMeta (Rr := kMeta.K w4) (w0 := wc) wc.heap.size rfl (.tmp 114) (.tmp 117) 36 53 (.agg #[(.int .i64 0), (.int .i64 0), (.int .i64 0), (.string ⟨#[]⟩), (.string ⟨#[]⟩)]) 56 rfl Try.underlying36 infoMr rfl (by decide) (by omega) v4 (Z.take p ++ [x]) (Z.drop p) A7 (Z.length - p) (c6 - p) (fun _ => True) (fun _ => False) rfl rfl ?aO ?aR ?aK (fun _ hk => hk.elim) (fun _ _ => trivial) ?aB ?aS ?c1 ?_; (case aO => exact HO4.out); (case aR => rw [← HD7.out]; exact HC8.out); (case aK => intro x cs hx; rw [kMeta_open hx]; exact kMeta_mkM _ _ _ x); (case aB => exact HB5.out); (case aS => exact HB5.out.size); (case c1 => rw [List.length_append, HTl.out, List.length_singleton]; omega); intro v5 w5 hown hB1 hg1 hat; have HO5 := Aside0.mk hown; have HB6 := Aside0.mk hB1; clear hown hB1 hg1 hat))
                      go_roundg (add.length - (j + 1))
                      case measure => omega
                      case rel =>
                        refine ⟨j + 1, Z.take p ++ x :: Z.drop p, by go_num, by omega, ⟨?_, ins_srt HZ.out.2 HF.out hno.out⟩, ⟨?_⟩, ⟨bthen HBr.out (bthen HBd.out HB6.out)⟩⟩
                        · rw [htj.out, ← List.append_assoc]
                          exact (ins_perm Z x p).trans (List.Perm.append_right [x] HZ.out.1)
                        · have h1 : w1.heap.size ≤ wc.heap.size := (bthen HBr.out HBd.out).size
                          have := Kd.R_lower HO5.out h1
                          rwa [List.append_assoc, List.singleton_append] at this
              · have HZ2 : Aside0 (Z.Perm (k ++ add) ∧ Srt Z) := ⟨by have := HZ.out.1; rwa [List.take_of_length_le (by omega)] at this, HZ.out.2⟩
                have HL6 : Aside0 (w1.heap.size ≤ wr.heap.size) := ⟨HBr.out.size⟩
                clear HZ
                go_wp2_with fail
                have HBV := Aside0.mk (below_alloc (Below.refl wr.heap.size wr) (Obj.cells #[Value.slice A6 Z.length c6, .int .i64 seq', .int .i64 next'] 38))
                refine (refCheck_any A6 c6 Z seq' next' _ (Kd.C_below HC6.out HBV.out) hc6).mono ?_
                rintro e w7 ⟨rfl, hb7⟩
                have HB7 := Aside0.mk (bthen HBV.out hb7)
                have KV := Aside0.mk (blk_keep (blk_new wr (Obj.cells #[Value.slice A6 Z.length c6, .int .i64 seq', .int .i64 next'] 38)) hb7)
                have HB8 := Aside0.mk (bthen HBr.out HB7.out)
                obtain ⟨z0, z1, z2, f0, f1, f2⟩ := all3 (blk_keep K3.out HB8.out)
                have HK := Aside0.mk (blk_keep K3.out HB8.out)
                have hvs := verOk_srt seq' next' HZ2.out.1 HZ2.out.2
                clear hb7 y0 y1 y2 y3
                cases hv1 : verOk Z seq' next' with
                | false =>
                  have hE10 : Aside0 (E = 9) := ⟨by rw [hE9.out, ← hvs.1, hv1]; rfl⟩
                  have hv9 : Aside0 (verE Z seq' next' = 9) := ⟨by rw [verE, hv1]; rfl⟩
                  rw [hv9.out]
                  clear hvs hv1
                  go_wp2
                  refine bodyPost_ret (results_ct rfl _ _ (w.heap.size + 1 + 1) 38 #[.slice none 0 0, .int .i64 0, .int .i64 0] (0, 0) _ rfl (blk3 HK.out) Try.underlying38 rfl (by kernel_rfl)) rfl ?_
                  rw [hE10.out]
                  exact refNo_post (by decide) (below_set3 (bthen HB.out HB8.out) (by omega) _ _ _)
                | true =>
                  have hE10 : Aside0 (E = 0) := ⟨by rw [hE9.out, ← hvs.1, hv1]; rfl⟩
                  have hv9 : Aside0 (verE Z seq' next' = 0) := ⟨by rw [verE, hv1]; rfl⟩
                  have hZL : Aside0 (Z = LL) := ⟨by rw [hLk.out]; exact hvs.2 (by rw [← hvs.1, hv1])⟩
                  rw [hv9.out]
                  clear hvs hv1
                  obtain ⟨q0, q1, q2, _, _, _⟩ := all3 KV.out
                  go_wp2
                  refine bodyPost_ret (results_ct rfl _ _ (w.heap.size + 1 + 1) 38 #[.slice A6 Z.length c6, .int .i64 seq', .int .i64 next'] (0, 0) _ rfl (blk3 HK.out) Try.underlying38 rfl (by kernel_rfl)) rfl ?_
                  refine ⟨⟨A6, Z.length, c6, seq', next', by rw [hE10.out]; rfl, ⟨fun _ => ⟨by rw [← hZL.out], rfl, rfl, ?_⟩, fun h => absurd hE10.out h⟩⟩, below_set3 (bthen HB.out HB8.out) (by omega) _ _ _⟩
                  rw [← hZL.out]
                  exact Kd.R_lower (Rset3 (Kd.R_below HO.out HB7.out) HL1.out _ _ _) HB.out.size

theorem refApply_out (A B D : Option Addr) (c bc dc : Nat) (l add : List Meta) (drop : List Int) (seq next seq' next' E : Int) (L : List Meta) (w : World) (hE : E = applyE l seq next drop add seq' next') (hL : L = applyL l drop add)
    (hr : Kd.C kMeta w A l.length l) (hc : l.length ≤ c) (hra : Kd.C kMeta w B add.length add) (hd : ReadsInt w .i64 D drop.length drop) (hb : l.length + add.length ≤ 1048576) (hdl : drop.length ≤ 1048576) :
    Calls Try.prog 25 #[.agg #[.slice A l.length c, .int .i64 seq, .int .i64 next], .agg #[.slice D drop.length dc, .slice B add.length bc, .int .i64 seq', .int .i64 next']] w (RefPost E L seq' next' w) := by
  cases hv : verOk l seq next with
  | true => exact refApply_yes A B D c bc dc l add drop seq next seq' next' E L w hE hL hr hc hra hd hb hdl hv
  | false =>
    have he : E = 9 := by rw [hE, applyE, hv]; rfl
    rw [he]
    exact refApply_no A B D c bc dc l add drop seq next seq' next' L w hr hc hv
end Go.Proofs.Ytelnhecpcjoonaa.Edit
