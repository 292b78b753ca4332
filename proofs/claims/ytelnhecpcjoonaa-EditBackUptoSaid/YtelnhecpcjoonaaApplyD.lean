/- edit.Apply, walked. -/
import Derived.Test.YtelnhecpcjoonaaApplyC
namespace Go.Proofs.Ytelnhecpcjoonaa.Edit
set_option linter.unusedVariables false
set_option linter.unusedSimpArgs false
open Go.RowKit Go.Proofs.YtelnhecpcjoonaaW.PrintWords Go.Proofs.YtelnhecpcjoonaaW.PrintLast Go.Proofs.Ytelnhecpcjoonaa.Base Go.Proofs.Ytelnhecpcjoonaa.EditPure Go.Proofs.Ytelnhecpcjoonaa.Sets Go.Proofs.Ytelnhecpcjoonaa.Wide Go.Proofs.Ytelnhecpcjoonaa.Cells

/-- the tail of a way that is refused -/
theorem noVer_post {E : Int} {L : List Meta} {seq' next' : Int} {w w' : World} (hE : E ≠ 0) (hB : Below w.heap.size w w') : ApplyPost E L seq' next' w (.returned (noVer E)) w' := ⟨.inr ⟨hE, rfl⟩, hB⟩

set_option maxRecDepth 100000 in
set_option maxHeartbeats 4000000 in
theorem apply_no (A B D : Option Addr) (c bc dc : Nat) (l add : List Meta) (drop : List Int) (seq next seq' next' : Int) (w : World)
    (hr : Kd.C kMeta w A l.length l) (hc : l.length ≤ c) (hw : ∀ m ∈ l, inI64 m.id) (hv : verOk l seq next = false) :
    Calls Try.prog 21 #[.agg #[.slice A l.length c, .int .i64 seq, .int .i64 next], .agg #[.slice D drop.length dc, .slice B add.length bc, .int .i64 seq', .int .i64 next']] w fun e w' => e = .returned (noVer 9) ∧ Below w.heap.size w w' := by
  have HR := Aside0.mk hr
  have he : Aside0 (verE l seq next = 9) := ⟨by rw [verE, if_neg (by simp [hv])]⟩
  clear hr hv
  go_enter Try.func21, Try.ntmps21
  go_wp2_with fail
  obtain ⟨W, hW⟩ : ∃ W, W = (((w.alloc (Obj.cells #[Value.slice A l.length c, Value.int IntKind.i64 seq, Value.int IntKind.i64 next] 49)).alloc (Obj.cells #[Value.slice D drop.length dc, Value.slice B add.length bc, Value.int IntKind.i64 seq', Value.int IntKind.i64 next'] 61)).alloc (Obj.cells #[Value.slice none 0 0, Value.int IntKind.i64 0, Value.int IntKind.i64 0] 49)) := ⟨_, rfl⟩
  have hb0 : Below w.heap.size w W := by rw [hW]; exact below_alloc (below_alloc (below_alloc (Below.refl _ _) _) _) _
  have hk : W.heap[w.heap.size + 1 + 1]? = some (.cells #[.slice none 0 0, .int .i64 0, .int .i64 0] 49 (0, 0)) := by
    have := blk_new1 (w.alloc (Obj.cells #[Value.slice A l.length c, Value.int IntKind.i64 seq, Value.int IntKind.i64 next] 49)) (Obj.cells #[Value.slice D drop.length dc, Value.slice B add.length bc, Value.int IntKind.i64 seq', Value.int IntKind.i64 next'] 61) #[Value.slice none 0 0, Value.int IntKind.i64 0, Value.int IntKind.i64 0] 49
    rw [hW]; simpa using this
  rw [← hW]
  clear hW
  refine (check_any A c l seq next _ (Kd.C_below HR.out hb0) hc hw).mono ?_
  rintro e w1 ⟨rfl, hb1⟩
  have HK := Aside0.mk (blk_keep hk hb1)
  have HB := Aside0.mk (bthen hb0 hb1)
  rw [he.out]
  obtain ⟨z0, z1, z2, f0, f1, f2⟩ := all3 HK.out
  clear hk hb0 hb1
  go_wp2
  refine bodyPost_ret (results_ct rfl _ _ (w.heap.size + 1 + 1) 49 #[.slice none 0 0, .int .i64 0, .int .i64 0] (0, 0) _ rfl (blk3 HK.out) Try.underlying49 rfl (by kernel_rfl)) rfl ?_
  exact ⟨rfl, below_set3 HB.out (by omega) _ _ _⟩

set_option maxRecDepth 100000 in
set_option maxHeartbeats 16000000 in
theorem apply_yes (A B D : Option Addr) (c bc dc : Nat) (l add : List Meta) (drop : List Int) (seq next seq' next' : Int) (w : World)
    (hr : Kd.C kMeta w A l.length l) (hc : l.length ≤ c) (hw : ∀ m ∈ l, inI64 m.id) (hra : Kd.C kMeta w B add.length add) (hwa : ∀ m ∈ add, inI64 m.id) (hd : ReadsInt w .i64 D drop.length drop) (hb : l.length + add.length ≤ 1048576) (hdl : drop.length ≤ 1048576) (hv : verOk l seq next = true) :
    Calls Try.prog 21 #[.agg #[.slice A l.length c, .int .i64 seq, .int .i64 next], .agg #[.slice D drop.length dc, .slice B add.length bc, .int .i64 seq', .int .i64 next']] w (ApplyPost (applyE l seq next drop add seq' next') (applyL l drop add) seq' next' w) := by
  have HR := Aside0.mk hr
  have HRA := Aside0.mk hra
  have HWA := Aside0.mk hwa
  have HWl := Aside0.mk hw
  have HDr := Aside0.mk hd
  have HV := Aside0.mk hv
  have hE : Aside0 (verE l seq next = 0) := ⟨by rw [verE, if_pos hv]⟩
  have HBL := Aside0.mk hb
  have HCl := Aside0.mk hc
  clear hr hra hwa hd hw hv hb hc
  obtain ⟨E, hEE⟩ := named (applyE l seq next drop add seq' next')
  obtain ⟨LL, hLL⟩ := named (applyL l drop add)
  rw [← hEE.out, ← hLL.out]
  go_enter Try.func21, Try.ntmps21
  go_wp2_with fail
  obtain ⟨W, hW⟩ : ∃ W, W = (((w.alloc (Obj.cells #[Value.slice A l.length c, Value.int IntKind.i64 seq, Value.int IntKind.i64 next] 49)).alloc (Obj.cells #[Value.slice D drop.length dc, Value.slice B add.length bc, Value.int IntKind.i64 seq', Value.int IntKind.i64 next'] 61)).alloc (Obj.cells #[Value.slice none 0 0, Value.int IntKind.i64 0, Value.int IntKind.i64 0] 49)) := ⟨_, rfl⟩
  have hb0 : Below w.heap.size w W := by rw [hW]; exact below_alloc (below_alloc (below_alloc (Below.refl _ _) _) _) _
  have hk1 : W.heap[w.heap.size]? = some (.cells #[.slice A l.length c, .int .i64 seq, .int .i64 next] 49 (0, 0)) := by
    rw [hW]; exact blk_alloc (blk_alloc (blk_new w _) _) _
  have hk2 : W.heap[w.heap.size + 1]? = some (.cells #[.slice D drop.length dc, .slice B add.length bc, .int .i64 seq', .int .i64 next'] 61 (0, 0)) := by
    rw [hW]; exact blk_alloc (blk_new1 _ _ _ _) _
  have hk3 : W.heap[w.heap.size + 1 + 1]? = some (.cells #[.slice none 0 0, .int .i64 0, .int .i64 0] 49 (0, 0)) := by
    have := blk_new1 (w.alloc (Obj.cells #[Value.slice A l.length c, Value.int IntKind.i64 seq, Value.int IntKind.i64 next] 49)) (Obj.cells #[Value.slice D drop.length dc, Value.slice B add.length bc, Value.int IntKind.i64 seq', Value.int IntKind.i64 next'] 61) #[Value.slice none 0 0, Value.int IntKind.i64 0, Value.int IntKind.i64 0] 49
    rw [hW]; simpa using this
  rw [← hW]
  clear hW
  refine (check_any A c l seq next _ (Kd.C_below HR.out hb0) HCl.out HWl.out).mono ?_
  rintro e w1 ⟨rfl, hb1⟩
  have K1 := Aside0.mk (blk_keep hk1 hb1)
  have K2 := Aside0.mk (blk_keep hk2 hb1)
  have K3 := Aside0.mk (blk_keep hk3 hb1)
  have HB := Aside0.mk (bthen hb0 hb1)
  rw [hE.out]
  have x0 := blk_cell K1.out 0
  clear hk1 hk2 hk3 hb0 hb1
  go_wp2_with fail
  refine (clone_any A c l _ (Kd.C_below HR.out HB.out) (by have := HBL.out; omega)).mono ?_
  rintro e w2 ⟨v2, rfl, ho, hb2⟩
  have HO := Aside0.mk ho
  have HB2 := Aside0.mk hb2
  have y0 := (all4 (blk_keep K2.out HB2.out)).1
  have HL1 := Aside0.mk (blk_lt K3.out)
  clear ho hb2 x0
  go_wp2
  go_loopg [7, 9, 10, 25] drop.length (fun g0 v7 v9 v10 v25 wr => ∃ (i : Nat) (k : List Meta), v25 = .int .i64 i ∧ g0 + i = drop.length ∧ Aside0 (dropIds l (drop.take i) = some k ∧ IdNd k ∧ k.length ≤ l.length ∧ (∀ m ∈ k, m ∈ l)) ∧ Aside0 (RM 63 wr w1.heap.size v7 k) ∧ Aside0 (Below w1.heap.size w1 wr))
  case atStart => exact ⟨0, l, rfl, by omega, ⟨rfl, (verOk_list HV.out).2.2.1, Nat.le_refl _, fun m hm => hm⟩, HO, HB2⟩
  case round =>
    clear HO HB2 y0
    obtain ⟨i, k, rfl, hg, HD, HO, HBr⟩ := hrel
    obtain ⟨A', c', rfl, hcc, hCC⟩ := RM_reads HO.out
    have HC' := Aside0.mk hCC
    clear hCC
    have hkl : k.length ≤ 1048576 := by have := HD.out.2.2.1; have := HBL.out; omega
    by_cases hlt : i < drop.length
    · obtain ⟨dd, rfl, hid⟩ := (HDr.out.below (bthen HB.out HBr.out)).at_ i (by omega) (by omega)
      rw [Int.toNat_natCast] at hid
      have hlt' : (i : Int) < drop.length := by omega
      obtain ⟨id, hidn⟩ : ∃ id, Aside0 (drop[i]? = some id ∧ rd drop i = id) := ⟨drop[i], ⟨List.getElem?_eq_getElem hlt, by simp [rd, List.getD_eq_getElem?_getD, List.getElem?_eq_getElem hlt]⟩⟩
      rw [hidn.out.2] at hid
      have hts : Aside0 (drop.take (i + 1) = drop.take i ++ [id]) := ⟨by rw [List.take_add_one, hidn.out.1]; rfl⟩
      go_wp2_with fail
      have HBo := Aside0.mk (below_alloc (Below.refl wr.heap.size wr) (Obj.cells #[Value.int IntKind.i64 id] 3))
      refine (indexFn_any A' c' k id ⟨wr.heap.size, 0, none⟩ _ (Kd.C_below HC'.out HBo.out) (by omega) (new_cell _ _ _ 0 _ rfl)).mono ?_
      rintro e w3 ⟨⟨r, rfl, hres⟩, hb3⟩
      have HB3 := Aside0.mk (bthen HBr.out (bthen HBo.out hb3))
      have HB4 := Aside0.mk (bthen HBo.out hb3)
      clear hb3
      rcases hres with ⟨rfl, hno⟩ | ⟨j, m, hrj, hjm, hmid, hpre⟩
      · have hE71 : Aside0 (E = 71) := ⟨by
          have h1 : dropIds l drop = none := by
            rw [← List.take_append_drop (i + 1) drop, hts.out, dropIds_app, dropIds_snoc, HD.out.1]
            simp only [Option.bind_some]
            rw [if_neg (by rw [hno]; simp)]
            rfl
          rw [hEE.out, applyE, if_pos HV.out, h1]⟩
        obtain ⟨z0, z1, z2, f0, f1, f2⟩ := all3 (blk_keep K3.out HB3.out)
        have HK := Aside0.mk (blk_keep K3.out HB3.out)
        clear hno hid
        go_wp2
        refine bodyPost_ret (results_ct rfl _ _ (w.heap.size + 1 + 1) 49 #[.slice none 0 0, .int .i64 0, .int .i64 0] (0, 0) _ rfl (blk3 HK.out) Try.underlying49 rfl (by kernel_rfl)) rfl ?_
        rw [hE71.out]
        exact noVer_post (by decide) (below_set3 (bthen HB.out HB3.out) (by omega) _ _ _)
      · have hout := out_one HD.out.2.1 hjm
        have hjl : j < k.length := (List.getElem?_eq_some_iff.1 hjm).1
        have hany : Aside0 (k.any (fun x => x.id == id) = true) := ⟨by rw [List.any_eq_true]; exact ⟨m, List.mem_of_getElem? hjm, by simpa using hmid⟩⟩
        rw [hmid] at hout
        obtain ⟨KA, hKA⟩ := named (k.take j)
        obtain ⟨KB, hKB⟩ := named (k.drop (j + 1))
        rw [← hKA.out, ← hKB.out] at hout
        have HOU := Aside0.mk (show KA ++ m :: KB = k ∧ KA ++ KB = k.filter (fun x => x.id != id) from ⟨hout.1.symm, hout.2⟩)
        have HPL := Aside0.mk (show k.length = KA.length + 1 + KB.length ∧ j = KA.length by rw [hKA.out, hKB.out]; simp; omega)
        clear hKA hKB
        have hr0 : ¬ (r < 0) := by omega
        have hr1 : r + 1 ≤ 1048577 := by omega
        have HRJ := Aside0.mk hrj
        have HJM := Aside0.mk (And.intro hjm hjl)
        have hpj : 0 ≤ r := by omega
        clear hjm hmid hpre hout hid hjl hrj
        go_wp2_with fail
        rw [HRJ.out]
        rcases RM_cases (Kd.R_below HO.out HB4.out) with ⟨hv, rfl⟩ | ⟨g, cap, hv, hgb, hcm, hm⟩
        · exact absurd HJM.out.2 (by simp)
        · injection hv with hv1 hvl hv2
          clear hvl
          subst hv1
          subst hv2
          have HM := Aside0.mk hm
          have HGB := Aside0.mk hgb
          clear hm hgb
          refine (delete_any g c' KA KB m k.length j _ HPL.out.1 HPL.out.2 hkl hcm (by have := HM.out; rw [← HOU.out.1] at this; exact this)).mono ?_
          rintro e w4 ⟨rfl, hr4, hg4⟩
          have HR4 := Aside0.mk hr4
          have HG4 := Aside0.mk hg4
          clear hr4 hg4
          go_wp2
          go_roundg (drop.length - (i + 1))
          case measure => omega
          case rel => exact ⟨i + 1, KA ++ KB, by go_num, by omega, ⟨by rw [hts.out, dropIds_snoc, HD.out.1]; simp only [Option.bind_some]; rw [if_pos hany.out, HOU.out.2], by rw [HOU.out.2]; exact IdNd_filter HD.out.2.1 _, by rw [HOU.out.2]; exact Nat.le_trans (List.length_filter_le _ _) HD.out.2.2.1, by rw [HOU.out.2]; exact fun m hm => HD.out.2.2.2 m (List.mem_filter.1 hm).1⟩, ⟨by
              have := RM_mk HGB.out hcm HR4.out
              rw [List.length_append, ← HPL.out.2] at this
              exact this⟩, ⟨below_of_grown HB3.out HG4.out (fun k hk => by injection hk with hk; rw [← hk]; exact HGB.out)⟩⟩
    · have hlt' : ¬ ((i : Int) < drop.length) := by omega
      have HDk : Aside0 (dropIds l drop = some k) := ⟨by have := HD.out.1; rwa [List.take_of_length_le (by omega)] at this⟩
      have hLk : Aside0 (LL = srt (k ++ add)) := ⟨by rw [hLL.out, applyL, HDk.out]; rfl⟩
      have hEk : Aside0 (E = if seq' < seq ∨ next' < next then 4 else if verOk (srt (k ++ add)) seq' next' then 0 else 9) := ⟨by rw [hEE.out, applyE, if_pos HV.out, HDk.out]⟩
      obtain ⟨x0, x1, x2, _, _, _⟩ := all3 (blk_keep K1.out HBr.out)
      obtain ⟨y0, y1, y2, y3, _, _, _, _⟩ := all4 (blk_keep K2.out HBr.out)
      obtain ⟨z0, z1, z2, f0, f1, f2⟩ := all3 (blk_keep K3.out HBr.out)
      have HK := Aside0.mk (blk_keep K3.out HBr.out)
      clear hg
      by_cases hs : seq' < seq
      · have hE4 : Aside0 (E = 4) := ⟨by rw [hEk.out, if_pos (.inl hs)]⟩
        go_wp2
        refine bodyPost_ret (results_ct rfl _ _ (w.heap.size + 1 + 1) 49 #[.slice none 0 0, .int .i64 0, .int .i64 0] (0, 0) _ rfl (blk3 HK.out) Try.underlying49 rfl (by kernel_rfl)) rfl ?_
        rw [hE4.out]
        exact noVer_post (by decide) (below_set3 (bthen HB.out HBr.out) (by omega) _ _ _)
      · by_cases hn : next' < next
        · have hE4 : Aside0 (E = 4) := ⟨by rw [hEk.out, if_pos (.inr hn)]⟩
          go_wp2
          refine bodyPost_ret (results_ct rfl _ _ (w.heap.size + 1 + 1) 49 #[.slice none 0 0, .int .i64 0, .int .i64 0] (0, 0) _ rfl (blk3 HK.out) Try.underlying49 rfl (by kernel_rfl)) rfl ?_
          rw [hE4.out]
          exact noVer_post (by decide) (below_set3 (bthen HB.out HBr.out) (by omega) _ _ _)
        · have hE9 : Aside0 (E = if verOk (srt (k ++ add)) seq' next' then 0 else 9) := ⟨by rw [hEk.out, if_neg (by omega)]⟩
          have hka : k.length + add.length ≤ 1048576 := by have := HD.out.2.2.1; have := HBL.out; omega
          have HRA' := Aside0.mk (Kd.C_below HRA.out (bthen HB.out HBr.out))
          go_wp2_with (at_builtin; refine Kd.R_append_rows kMeta (Rr := kMeta.K wr) (w0 := w1) w1.heap.size rfl (.tmp 54) (.tmp 56) 47 63 (.agg #[(.int .i64 0), (.int .i64 0), (.int .i64 0), (.string ⟨#[]⟩), (.string ⟨#[]⟩)]) 56 rfl Try.underlying47 infoM rfl (by decide) (by omega) (.slice A' k.length c') k add B add.length bc (fun _ => True) (fun _ => False) rfl rfl ?aO ?aR ?aK (fun _ hk => hk.elim) (fun _ _ => trivial) ?aB ?aS ?c1 ?_; (case aO => exact HO.out); (case aR => exact HRA'.out); (case aK => intro x cs hx; rw [kMeta_open hx]; exact kMeta_mkM _ _ _ x); (case aB => exact HBr.out); (case aS => exact HBr.out.size); (case c1 => omega); intro v5 w5 hown hB5 hg5 hat; have HO5 := Aside0.mk hown; have HB5 := Aside0.mk hB5; clear hown hB5 hg5 hat)
          clear x0 x1 x2 y0 y1 y2 y3 z0 z1 z2 f0 f1 f2 HK hlt'
          refine (sortRM_any w1.heap.size v5 (k ++ add) w5 (by rw [List.length_append]; exact hka) HO5.out).mono ?_
          rintro e w6 ⟨rfl, Z, hzp, hzs, hzr, gg, hgg, hgb⟩
          have HB6 := Aside0.mk (below_of_grown HB5.out hgg hgb)
          have HZ := Aside0.mk (And.intro hzp hzs)
          obtain ⟨AZ, cZ, rfl, hcZ, hCZ⟩ := RM_reads hzr
          have HRZ := Aside0.mk hzr
          have HCZ := Aside0.mk hCZ
          have hmem : Aside0 (∀ m ∈ Z, inI64 m.id) := ⟨fun m hm => by
            rcases List.mem_append.1 (hzp.mem_iff.1 hm) with h | h
            · exact HWl.out m (HD.out.2.2.2 m h)
            · exact HWA.out m h⟩
          clear hzp hzs hzr hgg hgb hCZ
          obtain ⟨y0, y1, y2, y3, _, _, _, _⟩ := all4 (blk_keep K2.out HB6.out)
          have HL6 : Aside0 (w1.heap.size ≤ w6.heap.size) := ⟨HB6.out.size⟩
          go_wp2_with fail
          have HBV := Aside0.mk (below_alloc (Below.refl w6.heap.size w6) (Obj.cells #[Value.slice AZ Z.length cZ, .int .i64 seq', .int .i64 next'] 49))
          refine (check_any AZ cZ Z seq' next' _ (Kd.C_below HCZ.out HBV.out) hcZ hmem.out).mono ?_
          rintro e w7 ⟨rfl, hb7⟩
          have HB7 := Aside0.mk (bthen HBV.out hb7)
          have KV := Aside0.mk (blk_keep (blk_new w6 (Obj.cells #[Value.slice AZ Z.length cZ, .int .i64 seq', .int .i64 next'] 49)) hb7)
          have HB8 := Aside0.mk (bthen HB6.out HB7.out)
          obtain ⟨z0, z1, z2, f0, f1, f2⟩ := all3 (blk_keep K3.out HB8.out)
          have HK := Aside0.mk (blk_keep K3.out HB8.out)
          have hvs := verOk_srt seq' next' HZ.out.1 HZ.out.2
          clear hb7 y0 y1 y2 y3
          cases hv1 : verOk Z seq' next' with
          | false =>
            have hE10 : Aside0 (E = 9) := ⟨by rw [hE9.out, ← hvs.1, hv1]; rfl⟩
            have hv9 : Aside0 (verE Z seq' next' = 9) := ⟨by rw [verE, hv1]; rfl⟩
            rw [hv9.out]
            clear hvs hv1
            go_wp2
            refine bodyPost_ret (results_ct rfl _ _ (w.heap.size + 1 + 1) 49 #[.slice none 0 0, .int .i64 0, .int .i64 0] (0, 0) _ rfl (blk3 HK.out) Try.underlying49 rfl (by kernel_rfl)) rfl ?_
            rw [hE10.out]
            exact noVer_post (by decide) (below_set3 (bthen HB.out HB8.out) (by omega) _ _ _)
          | true =>
            have hE10 : Aside0 (E = 0) := ⟨by rw [hE9.out, ← hvs.1, hv1]; rfl⟩
            have hv9 : Aside0 (verE Z seq' next' = 0) := ⟨by rw [verE, hv1]; rfl⟩
            have hZL : Aside0 (Z = LL) := ⟨by rw [hLk.out]; exact hvs.2 (by rw [← hvs.1, hv1])⟩
            rw [hv9.out]
            clear hvs hv1
            obtain ⟨q0, q1, q2, _, _, _⟩ := all3 KV.out
            go_wp2
            refine bodyPost_ret (results_ct rfl _ _ (w.heap.size + 1 + 1) 49 #[.slice AZ Z.length cZ, .int .i64 seq', .int .i64 next'] (0, 0) _ rfl (blk3 HK.out) Try.underlying49 rfl (by kernel_rfl)) rfl ?_
            refine ⟨.inl ⟨hE10.out, _, rfl, ?_⟩, below_set3 (bthen HB.out HB8.out) (by omega) _ _ _⟩
            rw [← hZL.out]
            exact Kd.R_lower (Rset3 (Kd.R_below HRZ.out HB7.out) HL1.out _ _ _) HB.out.size

theorem apply_any (A B D : Option Addr) (c bc dc : Nat) (l add : List Meta) (drop : List Int) (seq next seq' next' : Int) (w : World)
    (hr : Kd.C kMeta w A l.length l) (hc : l.length ≤ c) (hw : ∀ m ∈ l, inI64 m.id) (hra : Kd.C kMeta w B add.length add) (hwa : ∀ m ∈ add, inI64 m.id) (hd : ReadsInt w .i64 D drop.length drop) (hb : l.length + add.length ≤ 1048576) (hdl : drop.length ≤ 1048576) :
    Calls Try.prog 21 #[.agg #[.slice A l.length c, .int .i64 seq, .int .i64 next], .agg #[.slice D drop.length dc, .slice B add.length bc, .int .i64 seq', .int .i64 next']] w (ApplyPost (applyE l seq next drop add seq' next') (applyL l drop add) seq' next' w) := by
  cases hv : verOk l seq next with
  | true => exact apply_yes A B D c bc dc l add drop seq next seq' next' w hr hc hw hra hwa hd hb hdl hv
  | false =>
    have he : applyE l seq next drop add seq' next' = 9 := by rw [applyE, hv]; rfl
    rw [he]
    exact (apply_no A B D c bc dc l add drop seq next seq' next' w hr hc hw hv).mono fun e w' ⟨h1, h2⟩ => h1 ▸ noVer_post (by decide) h2
end Go.Proofs.Ytelnhecpcjoonaa.Edit
