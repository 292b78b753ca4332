/- The law EditBack, walked. -/
import Derived.Test.YtelnhecpcjoonaaEncodeC
import Derived.Test.YtelnhecpcjoonaaDecodeA
import Derived.Test.YtelnhecpcjoonaaAtB
namespace Go.Proofs.Ytelnhecpcjoonaa.Var
set_option linter.unusedVariables false
set_option linter.unusedSimpArgs false
open Go.RowKit Go.Proofs.YtelnhecpcjoonaaW.PrintWords Go.Proofs.YtelnhecpcjoonaaW.PrintLast Go.Proofs.Ytelnhecpcjoonaa.Base Go.Proofs.Ytelnhecpcjoonaa.Cells Go.Proofs.Ytelnhecpcjoonaa.Ints Go.Proofs.Ytelnhecpcjoonaa.VarPure Go.Proofs.Ytelnhecpcjoonaa.Codec Go.Proofs.Ytelnhecpcjoonaa.EditPure Go.Proofs.Ytelnhecpcjoonaa.Edit Go.Proofs.Ytelnhecpcjoonaa.Sets

theorem putI_bytes {n : Int} (h : okN n = true) : Bytes (putI n) ∧ (putI n).length ≤ 9 := by
  have h1 := (okN_iff n).1 h
  have h2 : n.toNat < 2 ^ 56 := by have : (2 : Nat) ^ 56 = 72057594037927936 := rfl; omega
  obtain ⟨_, h3, h4⟩ := get_put h2 []
  exact ⟨h3, by rw [putI, h4]; exact (sizeN_pos _).2⟩
theorem bytes_app {a b : List Nat} (ha : Bytes a) (hb : Bytes b) : Bytes (a ++ b) := fun x hx => by
  rcases List.mem_append.1 hx with h | h
  · exact ha x h
  · exact hb x h
theorem bytes_flat {α : Type} {p : α → List Nat} {N : Nat} : ∀ (l : List α), (∀ x ∈ l, Bytes (p x) ∧ (p x).length ≤ N) → Bytes (l.flatMap p) ∧ (l.flatMap p).length ≤ N * l.length := by
  intro l
  induction l with
  | nil => intro _; exact ⟨fun x hx => by simp at hx, by simp⟩
  | cons x l ih =>
    intro h
    obtain ⟨h1, h2⟩ := h x (by simp)
    obtain ⟨h3, h4⟩ := ih (fun y hy => h y (by simp [hy]))
    rw [List.flatMap_cons]
    refine ⟨bytes_app h1 h3, ?_⟩
    rw [List.length_append, List.length_cons, Nat.mul_succ]
    omega
theorem putS_bytes {s : ByteArray} (h : s.size ≤ 96) : Bytes (putS s) ∧ (putS s).length ≤ 105 := by
  obtain ⟨h1, h2⟩ := putI_bytes (okN_nat (k := s.size) (by omega))
  refine ⟨bytes_app h1 (strB_bytes s), ?_⟩
  rw [putS, List.length_append, strB_len]; omega
theorem putM_bytes {m : Meta} (h : okM m = true) : Bytes (putM m) ∧ (putM m).length ≤ 237 := by
  simp only [okM, Bool.and_eq_true, decide_eq_true_eq] at h
  obtain ⟨a, b, c, d, e⟩ := h
  obtain ⟨a1, a2⟩ := putI_bytes a
  obtain ⟨b1, b2⟩ := putI_bytes b
  obtain ⟨c1, c2⟩ := putI_bytes c
  obtain ⟨d1, d2⟩ := putS_bytes d
  obtain ⟨e1, e2⟩ := putS_bytes e
  refine ⟨bytes_app a1 (bytes_app b1 (bytes_app c1 (bytes_app d1 e1))), ?_⟩
  simp only [putM, List.length_append]
  omega
theorem encB_bytes {drop : List Int} {add : List Meta} {seq next : Int} (h : encOk drop add seq next = true) (hd : drop.length ≤ 256) (ha : add.length ≤ 256) : Bytes (encB drop add seq next) ∧ (encB drop add seq next).length ≤ 1048576 := by
  simp only [encOk, Bool.and_eq_true] at h
  obtain ⟨a, b, c, d⟩ := h
  obtain ⟨a1, a2⟩ := putI_bytes a
  obtain ⟨b1, b2⟩ := putI_bytes b
  obtain ⟨c1, c2⟩ := putI_bytes (okN_nat (k := drop.length) (by omega))
  obtain ⟨d1, d2⟩ := putI_bytes (okN_nat (k := add.length) (by omega))
  obtain ⟨e1, e2⟩ := bytes_flat (p := putI) (N := 9) drop (fun x hx => putI_bytes (List.all_eq_true.1 c x hx))
  obtain ⟨f1, f2⟩ := bytes_flat (p := putM) (N := 237) add (fun x hx => putM_bytes (List.all_eq_true.1 d x hx))
  refine ⟨bytes_app a1 (bytes_app b1 (bytes_app c1 (bytes_app e1 (bytes_app d1 f1)))), ?_⟩
  simp only [encB, List.length_append]
  omega
theorem encE_zero {drop : List Int} {add : List Meta} {seq next : Int} (h : encE drop add seq next = 0) : encOk drop add seq next = true ∧ drop.length ≤ 256 ∧ add.length ≤ 256 := by
  rw [encE] at h
  by_cases h1 : 256 < drop.length ∨ 256 < add.length
  · rw [if_pos h1] at h; cases h
  · rw [if_neg h1] at h
    cases h2 : encOk drop add seq next with
    | true => exact ⟨rfl, by omega, by omega⟩
    | false => rw [h2] at h; simp at h

set_option maxRecDepth 100000 in
theorem sameBytes_any (A B : Option Addr) (c d : Nat) (l : List Nat) (w : World) (hb : Bytes l) (hA : ReadsInt w .u8 A l.length (nb l)) (hB : ReadsInt w .u8 B l.length (nb l)) :
    Calls Try.prog 37 #[.slice A l.length c, .slice B l.length d] w fun e w' => e = .returned (.bool true) ∧ w' = w := by
  have h1 := string_of_reads (c := c) Try.underlying83 Try.underlying5 Try.underlying9 hA
  have h2 := string_of_reads (c := d) Try.underlying83 Try.underlying5 Try.underlying9 hB
  obtain ⟨n, hn⟩ : ∃ n, l.length = n := ⟨_, rfl⟩
  obtain ⟨T, hT⟩ := named (strOfNums (nb l))
  rw [← hT.out] at h1 h2
  rw [hn] at h1 h2 ⊢
  clear hA hB hb hn
  go_enter Try.func37, Try.ntmps37
  go_wp2
  go_ret
  exact ⟨by simp, rfl⟩
theorem reads8_lt {w : World} {A : Option Addr} {n : Nat} {xs : List Int} (h : ReadsInt w .u8 A n xs) : ∀ ad, A = some ad → 0 < n → ad.block < w.heap.size := fun ad e h0 => by
  obtain ⟨ad', e', hc⟩ := h.2.2 h0
  rw [e] at e'
  injection e' with e'
  subst e'
  have := World.block_lt_of_cell? w _ (hc 0 (by have := h.1; omega))
  rwa [add_block] at this
-- THE WALK
set_option maxRecDepth 100000 in
set_option maxHeartbeats 16000000 in
theorem editBack_walk (B D Ab : Option Addr) (bc dc cb : Nat) (add : List Meta) (drop : List Int) (lb : List Nat) (seq next : Int) (w : World)
    (hra : Kd.C kMeta w B add.length add) (hd : ReadsInt w .i64 D drop.length drop) (hsq : inI64 seq) (hnx : inI64 next) (hdw0 : ∀ x ∈ drop, inI64 x) (hmw : ∀ m ∈ add, inI64 m.id ∧ inI64 m.level ∧ inI64 m.count) (hms : ∀ m ∈ add, m.low.size ≤ 1048576 ∧ m.high.size ≤ 1048576) (hdl : drop.length ≤ 1048576) (hal : add.length ≤ 1048576)
    (hrb : ReadsInt w .u8 Ab lb.length (nb lb)) (hby : Bytes lb) (hlb : lb.length ≤ 1048576) (hcb : lb.length ≤ cb) :
    Calls Try.prog 9 #[.agg #[.slice D drop.length dc, .slice B add.length bc, .int .i64 seq, .int .i64 next], .slice Ab lb.length cb] w fun e w' => e = .returned (.bool true) ∧ Below w.heap.size w w' := by
  have HRA := Aside0.mk hra
  have HD := Aside0.mk hd
  have HRb := Aside0.mk hrb
  clear hra hd hrb
  go_enter Try.func9, Try.ntmps9
  go_wp2_with fail
  have hb0 := below_alloc (Below.refl w.heap.size w) (Obj.cells #[Value.slice D drop.length dc, Value.slice B add.length bc, Value.int IntKind.i64 seq, Value.int IntKind.i64 next] 57)
  refine (alive11_any _).mono ?_
  rintro e w1 ⟨rfl, hb1⟩
  have HK1 := Aside0.mk (blk_keep (blk_new w (Obj.cells #[Value.slice D drop.length dc, Value.slice B add.length bc, Value.int IntKind.i64 seq, Value.int IntKind.i64 next] 57)) hb1)
  have HB1 := Aside0.mk (bthen hb0 hb1)
  obtain ⟨x0, x1, x2, x3, _, _, _, _⟩ := all4 HK1.out
  clear hb0 hb1
  go_wp2_with fail
  refine (ofEdit_any D B dc bc drop add seq next _ (HD.out.below HB1.out) (Kd.C_below HRA.out HB1.out) hdl hal).mono ?_
  rintro e w2 ⟨vd, vm, rfl, hvd, hvm, hb2⟩
  obtain ⟨De, ce, rfl, hrd⟩ := RI_reads hvd
  obtain ⟨Ae, be, rfl, hce, hCe⟩ := RM_reads hvm
  have HB2 := Aside0.mk (bthen HB1.out hb2)
  have HK2 := Aside0.mk (blk_keep HK1.out hb2)
  have HRD := Aside0.mk hrd
  have HCe := Aside0.mk hCe
  clear x0 x1 x2 x3 hvd hvm hb2 hrd hCe
  go_wp2_with fail
  refine (encode_any De Ae ce be drop add seq next _ HRD.out HCe.out hsq hnx hdw0 hmw hms hdl hal).mono ?_
  obtain ⟨E3, hE3⟩ := named (encE drop add seq next)
  rw [← hE3.out]
  rintro e w3 ⟨A3, n3, c3, rfl, H3⟩
  have HB3 := Aside0.mk (bthen HB2.out H3.out.2.2)
  have HK3 := Aside0.mk (blk_keep HK2.out H3.out.2.2)
  by_cases h3 : E3 = 0
  · obtain ⟨hn3, hr3⟩ := H3.out.1 h3
    obtain ⟨ho3, hd3, ha3⟩ := encE_zero (hE3.out.symm.trans h3)
    obtain ⟨hby3, hlen3⟩ := encB_bytes ho3 hd3 ha3
    have hdec := dec_enc ho3 hd3 ha3
    subst h3
    obtain ⟨P, hP⟩ := named (encB drop add seq next)
    rw [← hP.out] at hn3 hr3 hby3 hlen3 hdec
    have hle := own_le hr3
    subst hn3
    have hr3' : ReadsInt w3 .u8 A3 P.length (nb P) := by
      obtain ⟨A0, c0, h1, h2⟩ := RB_reads hr3
      rw [nb_len] at h1 h2
      injection h1 with h3
      rw [h3]; exact h2
    have HR3 := Aside0.mk hr3'
    have HDC := Aside0.mk hdec
    have hle' : P.length ≤ c3 := hle
    clear hr3 hr3' hdec hle ho3
    go_wp2_with (first | (go_at_call 23; refine (numE_any _ _).mono ?_; rintro e w3' ⟨rfl, rfl⟩))
    refine (decode_any A3 c3 P _ hby3 HR3.out hlen3 hle' (fun ad e h0 => reads8_lt HR3.out ad e h0)).mono ?_
    rw [HDC.out]
    simp only
    rintro e w4 ⟨D4, n4, d4, A4, m4, c4, a4, b4, rfl, H4⟩
    obtain ⟨⟨e1, e2, e3, e4, hri, hrm⟩, hb4⟩ := (show (n4 = drop.length ∧ m4 = add.length ∧ a4 = seq ∧ b4 = next ∧ RI w4 _ (.slice D4 n4 d4) drop ∧ RM 63 w4 _ (.slice A4 m4 c4) add) ∧ _ from ⟨by first | exact H4.out.1 rfl | simpa using H4.out.1, H4.out.2.2⟩)
    have e3 := e3.symm
    have e4 := e4.symm
    subst e1 e2 e3 e4
    obtain ⟨W4, hW4⟩ : ∃ W4, W4 = w4.alloc (Obj.cells #[.slice D4 drop.length d4, .slice A4 add.length c4, .int .i64 seq, .int .i64 next] 61) := ⟨_, rfl⟩
    have hB4 : Below w4.heap.size w4 W4 := by rw [hW4]; exact below_alloc (Below.refl _ _) _
    have hk4 : W4.heap[w4.heap.size]? = some (.cells #[.slice D4 drop.length d4, .slice A4 add.length c4, .int .i64 seq, .int .i64 next] 61 (0, 0)) := by rw [hW4]; exact blk_new _ _
    have HB4 := Aside0.mk (bthen HB3.out (bthen hb4 hB4))
    have HEA : Aside0 (EditAt W4 D4 drop.length A4 add.length drop add) := ⟨⟨rfl, rfl, by
      obtain ⟨A0, c0, h1, h2⟩ := RI_reads (pw_own_below hri hB4)
      injection h1 with h3
      rw [h3]; exact h2, (Kd.R_reads' (Kd.R_below hrm hB4)).2.2⟩⟩
    have HEB : Aside0 (EditAt W4 D drop.length B add.length drop add) := ⟨⟨rfl, rfl, HD.out.below HB4.out, Kd.C_below HRA.out HB4.out⟩⟩
    obtain ⟨x0, x1, x2, x3, _, _, _, _⟩ := all4 (blk_keep HK3.out (bthen hb4 hB4))
    obtain ⟨y0, y1, y2, y3, _, _, _, _⟩ := all4 hk4
    clear hri hrm hB4 hk4 hb4
    go_upto_region 6 with (fail)
    rw [← hW4]
    clear hW4
    go_wp2_with (first | (go_at_call 23; refine (numE_any _ _).mono ?_; rintro e w3' ⟨rfl, rfl⟩))
    refine (sameEdit_any d4 dc c4 bc seq next _ HEA.out HEB.out hal hdl).mono ?_
    rintro e W5 ⟨rfl, hb5⟩
    have HB5 := Aside0.mk (bthen HB4.out hb5)
    clear x0 x1 x2 x3 y0 y1 y2 y3 hb5 HEA HEB
    have hRb := HRb.out.below HB5.out
    go_wp2_with fail
    refine (decode_any Ab cb lb _ hby hRb hlb hcb (fun ad e h0 => reads8_lt hRb ad e h0)).mono ?_
    obtain ⟨E8, hE8⟩ := named (decS lb).err
    rw [← hE8.out]
    rintro e w8 ⟨D8, n8, d8, A8, m8, c8, a8, b8, rfl, HD8⟩
    have HB8 := Aside0.mk (bthen HB5.out HD8.out.2.2)
    clear hRb
    by_cases h8 : E8 = 0
    · obtain ⟨e1, e2, e3, e4, hri, hrm⟩ := HD8.out.1 h8
      subst e1 e2 e3 e4
      obtain ⟨q1, q2, q3, q4⟩ := enc_dec hby (hE8.out.symm.trans h8)
      obtain ⟨dd, hdd⟩ := named (decS lb).drop
      obtain ⟨aa, haa⟩ := named (decS lb).add
      obtain ⟨ss, hss⟩ := named (decS lb).seq
      obtain ⟨nn, hnn⟩ := named (decS lb).next
      rw [← hdd.out, ← haa.out, ← hss.out, ← hnn.out] at q1 q2
      rw [← hdd.out] at q3 hri ⊢
      rw [← haa.out] at q4 hrm ⊢
      rw [← hss.out, ← hnn.out]
      have hq2 := q2
      simp only [encOk, Bool.and_eq_true, okN_iff] at hq2
      obtain ⟨hs1, hs2, hs3, hs4⟩ := hq2
      obtain ⟨W9, hW9⟩ : ∃ W9, W9 = w8.alloc (Obj.cells #[.slice D8 dd.length d8, .slice A8 aa.length c8, .int .i64 ss, .int .i64 nn] 61) := ⟨_, rfl⟩
      have hB9 : Below w8.heap.size w8 W9 := by rw [hW9]; exact below_alloc (Below.refl _ _) _
      have HB9 := Aside0.mk (bthen HB8.out hB9)
      have hri9 : ReadsInt W9 .i64 D8 dd.length dd := by
        obtain ⟨A0, c0, h1, h2⟩ := RI_reads (pw_own_below hri hB9)
        injection h1 with h3
        rw [h3]; exact h2
      have hrm9 : Kd.C kMeta W9 A8 aa.length aa := (Kd.R_reads' (Kd.R_below hrm hB9)).2.2
      have hE9 : encE dd aa ss nn = 0 := by rw [encE, if_neg (by omega), q2]; rfl
      have hI : ∀ x : Int, 0 ≤ x ∧ x ≤ 1099511627776 → inI64 x := fun x hx => ⟨by omega, by omega⟩
      have hdw : ∀ x ∈ dd, inI64 x := fun x hx => hI x ((okN_iff x).1 (List.all_eq_true.1 hs3 x hx))
      have hma : ∀ m ∈ aa, okM m = true := fun m hm => List.all_eq_true.1 hs4 m hm
      have HRI9 := Aside0.mk hri9
      have HRM9 := Aside0.mk hrm9
      have HS12 := Aside0.mk (And.intro hs1 hs2)
      have HQ := Aside0.mk q1
      have HMA := Aside0.mk hma
      have HDW := Aside0.mk hdw
      subst h8
      clear hri hrm q1 q2 hs1 hs2 hs3 hs4 hri9 hrm9 hB9 hma hdw
      go_wp2_with (first | (go_at_call 23; refine (numE_any _ _).mono ?_; rintro e w9' ⟨rfl, rfl⟩))
      try rw [← hW9]
      refine (encode_any D8 A8 d8 c8 dd aa ss nn _ HRI9.out HRM9.out (hI _ HS12.out.1) (hI _ HS12.out.2) HDW.out (fun m hm => by
        have := HMA.out m hm
        simp only [okM, Bool.and_eq_true, okN_iff, decide_eq_true_eq] at this
        exact ⟨hI _ this.1, hI _ this.2.1, hI _ this.2.2.1⟩) (fun m hm => by
        have := HMA.out m hm
        simp only [okM, Bool.and_eq_true, okN_iff, decide_eq_true_eq] at this
        exact ⟨by omega, by omega⟩) (by omega) (by omega)).mono ?_
      rw [hE9]
      rintro e wz ⟨Az, nz, cz, rfl, HZ⟩
      obtain ⟨hz1, hz2⟩ := HZ.out.1 rfl
      rw [← HQ.out] at hz1 hz2
      subst hz1
      have HBz := Aside0.mk (bthen HB9.out HZ.out.2.2)
      have hzr : ReadsInt wz .u8 Az lb.length (nb lb) := by
        obtain ⟨A0, c0, h1, h2⟩ := RB_reads hz2
        rw [nb_len] at h1 h2
        injection h1 with h3
        rw [h3]; exact h2
      have HZR := Aside0.mk hzr
      clear hz2 hzr hW9
      go_wp2_with (first | (go_at_call 23; refine (numE_any _ _).mono ?_; rintro e wz' ⟨rfl, rfl⟩) | (go_at_call 37; refine (sameBytes_any Az Ab cz cb lb _ hby HZR.out (HRb.out.below HBz.out)).mono ?_; rintro e wz' ⟨rfl, rfl⟩))
      go_ret
      exact ⟨rfl, HBz.out⟩
    · obtain ⟨rfl, rfl, rfl, rfl, rfl, rfl, rfl, rfl⟩ := HD8.out.2.1 h8
      obtain ⟨x0, x1, x2, x3, _, _, _, _⟩ := all4 (blk_new w8 (Obj.cells #[.slice none 0 0, .slice none 0 0, .int .i64 0, .int .i64 0] 61))
      go_wp2_with (first | (go_at_call 23; refine (numE_any _ _).mono ?_; rintro e w9' ⟨rfl, rfl⟩))
      go_ret
      exact ⟨rfl, below_alloc HB8.out _⟩

  · have hn3 := H3.out.2.1 h3
    obtain ⟨rfl, rfl, rfl⟩ := hn3
    go_wp2_with (first | (go_at_call 23; refine (numE_any _ _).mono ?_; rintro e w3' ⟨rfl, hw3'⟩; subst hw3'))
    have hRb := HRb.out.below HB3.out
    refine (decode_any Ab cb lb _ hby hRb hlb hcb (fun ad e h0 => reads8_lt hRb ad e h0)).mono ?_
    obtain ⟨E8, hE8⟩ := named (decS lb).err
    rw [← hE8.out]
    rintro e w8 ⟨D8, n8, d8, A8, m8, c8, a8, b8, rfl, HD8⟩
    have HB8 := Aside0.mk (bthen HB3.out HD8.out.2.2)
    clear hRb
    by_cases h8 : E8 = 0
    · obtain ⟨e1, e2, e3, e4, hri, hrm⟩ := HD8.out.1 h8
      subst e1 e2 e3 e4
      obtain ⟨q1, q2, q3, q4⟩ := enc_dec hby (hE8.out.symm.trans h8)
      obtain ⟨dd, hdd⟩ := named (decS lb).drop
      obtain ⟨aa, haa⟩ := named (decS lb).add
      obtain ⟨ss, hss⟩ := named (decS lb).seq
      obtain ⟨nn, hnn⟩ := named (decS lb).next
      rw [← hdd.out, ← haa.out, ← hss.out, ← hnn.out] at q1 q2
      rw [← hdd.out] at q3 hri ⊢
      rw [← haa.out] at q4 hrm ⊢
      rw [← hss.out, ← hnn.out]
      have hq2 := q2
      simp only [encOk, Bool.and_eq_true, okN_iff] at hq2
      obtain ⟨hs1, hs2, hs3, hs4⟩ := hq2
      obtain ⟨W9, hW9⟩ : ∃ W9, W9 = w8.alloc (Obj.cells #[.slice D8 dd.length d8, .slice A8 aa.length c8, .int .i64 ss, .int .i64 nn] 61) := ⟨_, rfl⟩
      have hB9 : Below w8.heap.size w8 W9 := by rw [hW9]; exact below_alloc (Below.refl _ _) _
      have HB9 := Aside0.mk (bthen HB8.out hB9)
      have hri9 : ReadsInt W9 .i64 D8 dd.length dd := by
        obtain ⟨A0, c0, h1, h2⟩ := RI_reads (pw_own_below hri hB9)
        injection h1 with h3
        rw [h3]; exact h2
      have hrm9 : Kd.C kMeta W9 A8 aa.length aa := (Kd.R_reads' (Kd.R_below hrm hB9)).2.2
      have hE9 : encE dd aa ss nn = 0 := by rw [encE, if_neg (by omega), q2]; rfl
      have hI : ∀ x : Int, 0 ≤ x ∧ x ≤ 1099511627776 → inI64 x := fun x hx => ⟨by omega, by omega⟩
      have hdw : ∀ x ∈ dd, inI64 x := fun x hx => hI x ((okN_iff x).1 (List.all_eq_true.1 hs3 x hx))
      have hma : ∀ m ∈ aa, okM m = true := fun m hm => List.all_eq_true.1 hs4 m hm
      have HRI9 := Aside0.mk hri9
      have HRM9 := Aside0.mk hrm9
      have HS12 := Aside0.mk (And.intro hs1 hs2)
      have HQ := Aside0.mk q1
      have HMA := Aside0.mk hma
      have HDW := Aside0.mk hdw
      subst h8
      clear hri hrm q1 q2 hs1 hs2 hs3 hs4 hri9 hrm9 hB9 hma hdw
      go_wp2_with (first | (go_at_call 23; refine (numE_any _ _).mono ?_; rintro e w9' ⟨rfl, rfl⟩))
      try rw [← hW9]
      refine (encode_any D8 A8 d8 c8 dd aa ss nn _ HRI9.out HRM9.out (hI _ HS12.out.1) (hI _ HS12.out.2) HDW.out (fun m hm => by
        have := HMA.out m hm
        simp only [okM, Bool.and_eq_true, okN_iff, decide_eq_true_eq] at this
        exact ⟨hI _ this.1, hI _ this.2.1, hI _ this.2.2.1⟩) (fun m hm => by
        have := HMA.out m hm
        simp only [okM, Bool.and_eq_true, okN_iff, decide_eq_true_eq] at this
        exact ⟨by omega, by omega⟩) (by omega) (by omega)).mono ?_
      rw [hE9]
      rintro e wz ⟨Az, nz, cz, rfl, HZ⟩
      obtain ⟨hz1, hz2⟩ := HZ.out.1 rfl
      rw [← HQ.out] at hz1 hz2
      subst hz1
      have HBz := Aside0.mk (bthen HB9.out HZ.out.2.2)
      have hzr : ReadsInt wz .u8 Az lb.length (nb lb) := by
        obtain ⟨A0, c0, h1, h2⟩ := RB_reads hz2
        rw [nb_len] at h1 h2
        injection h1 with h3
        rw [h3]; exact h2
      have HZR := Aside0.mk hzr
      clear hz2 hzr hW9
      go_wp2_with (first | (go_at_call 23; refine (numE_any _ _).mono ?_; rintro e wz' ⟨rfl, rfl⟩) | (go_at_call 37; refine (sameBytes_any Az Ab cz cb lb _ hby HZR.out (HRb.out.below HBz.out)).mono ?_; rintro e wz' ⟨rfl, rfl⟩))
      go_ret
      exact ⟨rfl, HBz.out⟩
    · obtain ⟨rfl, rfl, rfl, rfl, rfl, rfl, rfl, rfl⟩ := HD8.out.2.1 h8
      obtain ⟨x0, x1, x2, x3, _, _, _, _⟩ := all4 (blk_new w8 (Obj.cells #[.slice none 0 0, .slice none 0 0, .int .i64 0, .int .i64 0] 61))
      go_wp2_with (first | (go_at_call 23; refine (numE_any _ _).mono ?_; rintro e w9' ⟨rfl, rfl⟩))
      go_ret
      exact ⟨rfl, below_alloc HB8.out _⟩

end Go.Proofs.Ytelnhecpcjoonaa.Var
