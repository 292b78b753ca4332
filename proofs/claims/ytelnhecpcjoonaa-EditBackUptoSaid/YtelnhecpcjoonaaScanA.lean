/- The scanner of chapter 11: number, text: walked. -/
import Derived.Test.YtelnhecpcjoonaaVarB
import Derived.Test.YtelnhecpcjoonaaCodec
namespace Go.Proofs.Ytelnhecpcjoonaa.Var
set_option linter.unusedVariables false
set_option linter.unusedSimpArgs false
open Go.RowKit Go.Proofs.YtelnhecpcjoonaaW.PrintWords Go.Proofs.YtelnhecpcjoonaaW.PrintLast Go.Proofs.Ytelnhecpcjoonaa.Base Go.Proofs.Ytelnhecpcjoonaa.Cells Go.Proofs.Ytelnhecpcjoonaa.Ints Go.Proofs.Ytelnhecpcjoonaa.VarPure Go.Proofs.Ytelnhecpcjoonaa.Codec Go.Proofs.Ytelnhecpcjoonaa.EditPure

/-- a scanner: what is left, and the first error -/
def Scan (w : World) (g : Nat) (s : St) : Prop := ∃ A c, w.heap[g]? = some (.cells #[.slice A s.1.length c, .int .i64 s.2] 124 (0, 0)) ∧ ReadsInt w .u8 A s.1.length (nb s.1) ∧ s.1.length ≤ c ∧ Bytes s.1 ∧ (∀ ad, A = some ad → 0 < s.1.length → ad.block < g)
theorem reads_set {w : World} {A : Option Addr} {n g : Nat} {xs : List Int} (h : ReadsInt w .u8 A n xs) (hf : ∀ ad, A = some ad → 0 < n → ad.block < g) (j : Nat) (v : Value) : ReadsInt (w.setCell ⟨g, j, none⟩ v) .u8 A n xs := by
  refine ⟨h.1, h.2.1, fun hp => ?_⟩
  obtain ⟨ad, e, hc⟩ := h.2.2 hp
  refine ⟨ad, e, fun i hi => ?_⟩
  rw [World.cell?_setCell_far _ _ _ _ (by have := hf ad e hp; show g ≠ (ad.add i).block; rw [add_block]; omega)]
  exact hc i hi
theorem Scan.below {w w1 : World} {g : Nat} {s : St} (h : Scan w g s) (hb : Below w.heap.size w w1) : Scan w1 g s := by
  obtain ⟨A, c, hk, hr, hlc, hby, hlt⟩ := h
  exact ⟨A, c, blk_keep hk hb, hr.below hb, hlc, hby, hlt⟩
theorem Scan.err {w : World} {g : Nat} {l : List Nat} {e : Int} (h : Scan w g (l, e)) (e' : Int) : Scan (w.setCell ⟨g, 1, none⟩ (.int .i64 e')) g (l, e') := by
  obtain ⟨A, c, hk, hr, hlc, hby, hlt⟩ := h
  exact ⟨A, c, blk_put hk 1 _ rfl, reads_set hr hlt _ _, hlc, hby, hlt⟩
theorem nb_drop (l : List Nat) (k : Nat) : nb (l.drop k) = (nb l).drop k := by simp [nb, List.map_drop]
theorem nb_take (l : List Nat) (k : Nat) : nb (l.take k) = (nb l).take k := by simp [nb, List.map_take]
theorem getN_le {l : List Nat} {n k : Nat} (h : getN l = (n, k, 0)) : 1 ≤ k ∧ k ≤ l.length := by
  rcases l with _ | ⟨b, r⟩
  · simp [getN] at h
  · rw [getN] at h
    by_cases h1 : r.length < lead b
    · rw [if_pos h1] at h; simp at h
    · rw [if_neg h1] at h
      by_cases h2 : sizeN (val (b % 2 ^ (7 - lead b) :: r.take (lead b))) ≠ lead b + 1
      · simp only [if_pos h2] at h; simp at h
      · simp only [if_neg h2] at h
        have := (Prod.mk.inj (Prod.mk.inj h).2).1
        simp; omega
theorem getN_lt {l : List Nat} (hb : Bytes l) : (getN l).1 < 18446744073709551616 := by
  rcases l with _ | ⟨b, r⟩
  · simp [getN]
  · rw [getN]
    by_cases h1 : r.length < lead b
    · rw [if_pos h1]; simp
    · rw [if_neg h1]
      simp only
      split
      · simp
      · exact val_bound2 (fun y hy => hb y (List.mem_cons_of_mem _ hy)) (lead_le b) (by omega)

theorem grown_set (w : World) (g j : Nat) (v : Value) : w.grownBy (w.setCell ⟨g, j, none⟩ v) (some g) :=
  ⟨rfl, rfl, rfl, by rw [World.size_setCell]; exact Nat.le_refl _, fun k _ hk => Below.heap_setCell w ⟨g, j, none⟩ v k (fun e => hk (by rw [e]))⟩
/-- so many octets further on -/
theorem Scan.on {w : World} {g : Nat} {l : List Nat} {e : Int} {A : Option Addr} {c k : Nat} (h : Scan w g (l, e)) (hk : w.heap[g]? = some (.cells #[.slice A l.length c, .int .i64 e] 124 (0, 0))) (hkl : k ≤ l.length) :
    Scan (w.setCell ⟨g, 0, none⟩ (.slice (if c = k then A else A.map (·.add (k * 1))) (l.length - k) (c - k))) g (l.drop k, e) := by
  obtain ⟨A', c', hk', hr, hlc, hby, hlt⟩ := h
  rw [hk] at hk'
  injection hk' with h1
  injection h1 with h2 _ _
  have h3 := congrArg (fun a : Array Value => a[0]?) h2
  simp at h3
  obtain ⟨rfl, rfl⟩ := h3
  simp only at hr hlc hby
  have hlt2 : ∀ ad, (if c = k then A else A.map (·.add (k * 1))) = some ad → 0 < l.length - k → ad.block < g := by
    intro ad h h0
    by_cases hc : c = k
    · rw [if_pos hc] at h; exact hlt ad h (show 0 < l.length by omega)
    · rw [if_neg hc] at h
      obtain ⟨a0, ha, rfl⟩ := Option.map_eq_some_iff.1 h
      rw [add_block]; exact hlt a0 ha (show 0 < l.length by omega)
  have hd := hr.drop_ (c := c) k (by simpa [nb_len] using hkl) hlc
  rw [Nat.mul_one] at *
  refine ⟨(if c = k then A else A.map (·.add k)), c - k, ?_, ?_, ?_, fun x hx => hby x (List.mem_of_mem_drop hx), fun ad e h0 => hlt2 ad e (by simpa using h0)⟩
  · rw [List.length_drop]; exact blk_put hk 0 _ rfl
  · simp only [List.length_drop]
    rw [nb_drop]
    exact reads_set hd hlt2 _ _
  · simp only [List.length_drop]; omega

set_option maxRecDepth 100000 in
set_option maxHeartbeats 2000000 in
theorem number_any (g : Nat) (s : St) (most code : Int) (w : World) (hs : Scan w g s) (hl : s.1.length ≤ 1048576) (hm0 : 0 ≤ most) (hm : most ≤ 1099511627776) (hc0 : code ≠ 0) :
    Calls Try.prog 65 #[.pointer (some ⟨g, 0, none⟩), .int .i64 most, .int .i64 code] w fun e w' => e = .returned (.int .i64 (numS most code s).1) ∧ Scan w' g (numS most code s).2 ∧ w.grownBy w' (some g) := by
  obtain ⟨l, e0⟩ := s
  have HS := Aside0.mk hs
  obtain ⟨A, c, hk, hr, hlc, hby, hlt⟩ := hs
  simp only at hk hr hlc hby hl
  have HK := Aside0.mk hk
  have HR := Aside0.mk hr
  have HLT := Aside0.mk hlt
  have HBY := Aside0.mk hby
  obtain ⟨R, hR⟩ := named (numS most code (l, e0))
  rw [← hR.out]
  have x0 := blk_cell hk 0
  have x1 := blk_cell hk 1
  clear hk hr hlt hby
  by_cases he : e0 = 0
  · subst he
    obtain ⟨n, hn⟩ : ∃ n : Int, Aside0 (n = ((getN l).1 : Nat)) := ⟨_, ⟨rfl⟩⟩
    obtain ⟨k, hk⟩ : ∃ k : Int, Aside0 (k = ((getN l).2.1 : Nat)) := ⟨_, ⟨rfl⟩⟩
    obtain ⟨er, her⟩ : ∃ er : Int, Aside0 (er = ((getN l).2.2 : Nat)) := ⟨_, ⟨rfl⟩⟩
    have hnb : 0 ≤ n ∧ n < 18446744073709551616 := by have := getN_lt HBY.out; have := hn.out; omega
    go_enter Try.func65, Try.ntmps65
    go_wp2_with fail
    refine (get_any A c l _ HBY.out HR.out hl hlc).mono ?_
    rw [← hn.out, ← hk.out, ← her.out]
    rintro e w1 ⟨rfl, hb1⟩
    have HS1 := Aside0.mk (HS.out.below hb1)
    have HG1 := Aside0.mk (grown_of_below hb1 (some g))
    have hk1 := blk_keep HK.out hb1
    have y0 := blk_cell hk1 0
    have y1 := blk_cell hk1 1
    have f0 := blk_frozen hk1 0
    have f1 := blk_frozen hk1 1
    have HK1 := Aside0.mk hk1
    clear x0 x1 hb1 hk1
    have hwm : IntKind.u64.wrap most = most := by rw [IntKind.wrap_u64]; omega
    by_cases he1 : er = 0
    · subst he1
      by_cases hnm : most < n
      · have hRv : Aside0 (R = (0, (l, code))) := ⟨by rw [hR.out, numS, if_neg (by simp)]; simp only; rw [if_neg (by have := her.out; omega), if_pos (by have := hn.out; omega)]⟩
        go_wp2
        go_ret
        rw [hRv.out]
        exact ⟨rfl, (HS1.out.err 0).err code, grown_trans HG1.out (grown_trans (grown_set _ _ _ _) (grown_set _ _ _ _))⟩
      · have hg3 : getN l = ((getN l).1, (getN l).2.1, 0) := by
          have h3 : (getN l).2.2 = 0 := by have := her.out; omega
          rw [← h3]
        obtain ⟨hk1, hkl⟩ := getN_le hg3
        obtain ⟨kn, hkn⟩ : ∃ kn, (getN l).2.1 = kn := ⟨_, rfl⟩
        rw [hkn] at hk1 hkl
        have hkk : k = (kn : Int) := by rw [← hkn]; exact hk.out
        have hRv : Aside0 (R = (n, (l.drop kn, 0))) := ⟨by
          have h3 : (getN l).2.2 = 0 := by have := her.out; omega
          rw [hR.out, numS, if_neg (by simp)]
          simp only
          rw [if_neg (by omega), if_neg (by have := hn.out; omega), ← hn.out, hkn]⟩
        obtain ⟨i0, hi0, hz1⟩ := infoBx
        have hcut := cut_from (P := Try.prog) 83 5 .i64 Try.underlying83 hi0 1 hz1 A l.length c k (by omega) (by omega)
        have hkt : k.toNat = kn := by omega
        rw [hkt] at hcut
        obtain ⟨A7, hA7⟩ : ∃ A7, A7 = (if c = kn then A else A.map (·.add (kn * 1))) := ⟨_, rfl⟩
        obtain ⟨n7, hn7⟩ : ∃ n7, n7 = l.length - kn := ⟨_, rfl⟩
        obtain ⟨c7, hc7⟩ : ∃ c7, c7 = c - kn := ⟨_, rfl⟩
        rw [← hA7, ← hn7, ← hc7] at hcut
        have hon := (HS1.out.err 0).on (blk_put HK1.out 1 _ rfl) hkl
        rw [← hA7, ← hn7, ← hc7] at hon
        have HON := Aside0.mk hon
        have hwn : IntKind.i64.wrap n = n := by rw [IntKind.wrap_i64]; omega
        have hk0 : 0 ≤ k := by omega
        have hkb : k ≤ l.length := by omega
        clear hkk hkt hk1 hkl hkn hA7 hn7 hc7 hon hg3
        go_wp2
        go_ret
        rw [hRv.out]
        exact ⟨rfl, HON.out, grown_trans HG1.out (grown_trans (grown_set _ _ _ _) (grown_set _ _ _ _))⟩
    · have hRv : Aside0 (R = (0, (l, er))) := ⟨by rw [hR.out, numS, if_neg (by simp)]; simp only; rw [if_pos (by have := her.out; omega), ← her.out]⟩
      go_wp2
      go_ret
      rw [hRv.out]
      exact ⟨rfl, HS1.out.err er, grown_trans HG1.out (grown_set _ _ _ _)⟩
  · have hRv : Aside0 (R = (0, (l, e0))) := ⟨by rw [hR.out, numS, if_pos he]⟩
    go_enter Try.func65, Try.ntmps65
    go_wp2
    go_ret
    rw [hRv.out]
    exact ⟨rfl, HS.out, grown_refl _ _⟩

theorem numS_range {most code n : Int} {s : St} {l : List Nat} {e : Int} (h : numS most code s = (n, (l, e))) (hm : 0 ≤ most) : 0 ≤ n ∧ n ≤ most := by
  rw [numS] at h
  by_cases h1 : s.2 ≠ 0
  · rw [if_pos h1] at h; have := (Prod.mk.inj h).1; omega
  · rw [if_neg h1] at h
    by_cases h2 : (getN s.1).2.2 ≠ 0
    · rw [if_pos h2] at h; have := (Prod.mk.inj h).1; omega
    · rw [if_neg h2] at h
      by_cases h3 : most < ((getN s.1).1 : Int)
      · rw [if_pos h3] at h; have := (Prod.mk.inj h).1; omega
      · rw [if_neg h3] at h; have := (Prod.mk.inj h).1; omega
theorem numS_len {most code n : Int} {s : St} {l : List Nat} {e : Int} (h : numS most code s = (n, (l, e))) : l.length ≤ s.1.length := by
  rw [numS] at h
  by_cases h1 : s.2 ≠ 0
  · rw [if_pos h1] at h; have h2 := (Prod.mk.inj h).2; rw [h2]; exact Nat.le_refl _
  · rw [if_neg h1] at h
    by_cases h2 : (getN s.1).2.2 ≠ 0
    · rw [if_pos h2] at h; rw [← (Prod.mk.inj (Prod.mk.inj h).2).1]; exact Nat.le_refl _
    · rw [if_neg h2] at h
      by_cases h3 : most < ((getN s.1).1 : Int)
      · rw [if_pos h3] at h; rw [← (Prod.mk.inj (Prod.mk.inj h).2).1]; exact Nat.le_refl _
      · rw [if_neg h3] at h; rw [← (Prod.mk.inj (Prod.mk.inj h).2).1, List.length_drop]; omega
theorem str_ofB (l : List Nat) (hb : Bytes l) : strOfNums (nb l) = ofB l := by
  unfold strOfNums ofB nb
  congr 2
  rw [List.map_map]
  refine List.map_congr_left (fun x hx => ?_)
  simp

set_option maxRecDepth 100000 in
set_option maxHeartbeats 2000000 in
theorem text_any (g : Nat) (s : St) (w : World) (hs : Scan w g s) (hl : s.1.length ≤ 1048576) :
    Calls Try.prog 80 #[.pointer (some ⟨g, 0, none⟩)] w fun e w' => e = .returned (.string (textS s).1) ∧ Scan w' g (textS s).2 ∧ w.grownBy w' (some g) := by
  obtain ⟨n, l, e1, hnum⟩ : ∃ n l e1, numS 96 1 s = (n, (l, e1)) := ⟨_, _, _, rfl⟩
  have hrange := numS_range hnum (by omega)
  have hll : l.length ≤ 1048576 := Nat.le_trans (numS_len hnum) hl
  have HNUM := Aside0.mk hnum
  obtain ⟨R, hR⟩ := named (textS s)
  rw [← hR.out]
  have hT : Aside0 (R = if e1 ≠ 0 then (⟨#[]⟩, (l, e1)) else if (l.length : Int) < n then (⟨#[]⟩, (l, 8)) else (ofB (l.take n.toNat), (l.drop n.toNat, 0))) := ⟨by rw [hR.out, textS, hnum]⟩
  clear hnum
  go_enter Try.func80, Try.ntmps80
  go_wp2_with fail
  refine (number_any g s 96 1 _ hs hl (by omega) (by omega) (by omega)).mono ?_
  rw [HNUM.out]
  rintro e w1 ⟨rfl, hs1, hg1⟩
  have HS1 := Aside0.mk hs1
  have HG1 := Aside0.mk hg1
  obtain ⟨A, c, hk, hr, hlc, hby, hlt⟩ := hs1
  simp only at hk hr hlc hby
  have y0 := blk_cell hk 0
  have y1 := blk_cell hk 1
  have f0 := blk_frozen hk 0
  have f1 := blk_frozen hk 1
  have HK := Aside0.mk hk
  have HR := Aside0.mk hr
  have HBY := Aside0.mk hby
  clear hg1 hk hr hlt hby
  by_cases he : e1 = 0
  · subst he
    by_cases hn : (l.length : Int) < n
    · have hRv : Aside0 (R = (⟨#[]⟩, (l, 8))) := ⟨by rw [hT.out, if_neg (by simp), if_pos hn]⟩
      go_wp2
      go_ret
      rw [hRv.out]
      exact ⟨rfl, HS1.out.err 8, grown_trans HG1.out (grown_set _ _ _ _)⟩
    · obtain ⟨kn, hkn⟩ : ∃ kn, n.toNat = kn := ⟨_, rfl⟩
      have hRv : Aside0 (R = (ofB (l.take kn), (l.drop kn, 0))) := ⟨by rw [hT.out, if_neg (by simp), if_neg hn, hkn]⟩
      have hkl : kn ≤ l.length := by omega
      obtain ⟨i0, hi0, hz1⟩ := infoBx
      have hto := cut_to (P := Try.prog) 83 5 .i64 Try.underlying83 hi0 A l.length c n (by omega) (by omega) hlc
      have hcut := cut_from (P := Try.prog) 83 5 .i64 Try.underlying83 hi0 1 hz1 A l.length c n (by omega) (by omega)
      rw [hkn] at hto hcut
      have hrt : ReadsInt w1 .u8 A kn (nb (l.take kn)) := by
        rw [nb_take]
        exact HR.out.take_ kn hkl
      have hstr := string_of_reads (c := c) Try.underlying83 Try.underlying5 Try.underlying9 hrt
      rw [str_ofB _ (fun x hx => HBY.out x (List.mem_of_mem_take hx))] at hstr
      obtain ⟨A7, hA7⟩ : ∃ A7, A7 = (if c = kn then A else A.map (·.add (kn * 1))) := ⟨_, rfl⟩
      obtain ⟨n7, hn7⟩ : ∃ n7, n7 = l.length - kn := ⟨_, rfl⟩
      obtain ⟨c7, hc7⟩ : ∃ c7, c7 = c - kn := ⟨_, rfl⟩
      rw [← hA7, ← hn7, ← hc7] at hcut
      have hon := HS1.out.on HK.out hkl
      rw [← hA7, ← hn7, ← hc7] at hon
      have HON := Aside0.mk hon
      obtain ⟨T, hTT⟩ := named (ofB (l.take kn))
      rw [← hTT.out] at hstr hRv
      clear hkn hkl hA7 hn7 hc7 hon hrt
      go_wp2
      go_ret
      rw [hRv.out]
      exact ⟨rfl, HON.out, grown_trans HG1.out (grown_set _ _ _ _)⟩
  · have hRv : Aside0 (R = (⟨#[]⟩, (l, e1))) := ⟨by rw [hT.out, if_pos he]⟩
    go_wp2
    go_ret
    rw [hRv.out]
    exact ⟨rfl, HS1.out, HG1.out⟩
end Go.Proofs.Ytelnhecpcjoonaa.Var
