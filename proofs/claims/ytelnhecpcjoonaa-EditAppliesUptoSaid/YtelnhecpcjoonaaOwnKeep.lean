/- What stays while a version and an edit of one's own are written over. No program. -/
import Derived.Test.YtelnhecpcjoonaaStay
namespace Go.Proofs.Ytelnhecpcjoonaa.Edit
set_option linter.unusedVariables false
set_option linter.unusedSimpArgs false
open Go.RowKit Go.Proofs.YtelnhecpcjoonaaW.PrintWords Go.Proofs.YtelnhecpcjoonaaW.PrintLast Go.Proofs.Ytelnhecpcjoonaa.Base Go.Proofs.Ytelnhecpcjoonaa.EditPure Go.Proofs.Ytelnhecpcjoonaa.Sets Go.Proofs.Ytelnhecpcjoonaa.Wide Go.Proofs.Ytelnhecpcjoonaa.Cells Go.Proofs.Ytelnhecpcjoonaa.Ints

theorem MRow.blk {w : World} {g cap : Nat} {L : List Meta} (h : MRow w g cap L) : ∃ cs, w.heap[g]? = some (.cells cs 63 (0, 0)) := by
  obtain ⟨cur, h1, _⟩ := h
  exact ⟨cur, h1⟩
theorem MRow.far {w : World} {g cap : Nat} {L : List Meta} (h : MRow w g cap L) {p : Addr} (hp : g ≠ p.block) (u : Value) : MRow (w.setCell p u) g cap L := by
  obtain ⟨cur, h1, h2⟩ := h
  exact ⟨cur, blk_far h1 hp u, h2⟩
theorem MRow.far5 {w : World} {g p o cap : Nat} {L : List Meta} (h : MRow w g cap L) (hp : g ≠ p) (m : Meta) : MRow (put5 w p o m) g cap L :=
  MRow.far (MRow.far (MRow.far (MRow.far (MRow.far h (p := ⟨p, o, none⟩) hp _) (p := ⟨p, o + 1, none⟩) hp _) (p := ⟨p, o + 2, none⟩) hp _) (p := ⟨p, o + 3, none⟩) hp _) (p := ⟨p, o + 4, none⟩) hp _
theorem RM_far {w : World} {base : Nat} {v : Value} {l : List Meta} (h : RM 63 w base v l) {p : Addr} (hne : v.ownBlock ≠ some p.block) (u : Value) : RM 63 (w.setCell p u) base v l := by
  rcases RM_cases h with ⟨rfl, rfl⟩ | ⟨g, cap, rfl, hb, hcm, hm⟩
  · exact Kd.R_nil _ _ _ _ _
  · exact RM_mk hb hcm (hm.far (fun e => hne (by rw [← e]; rfl)) u)
theorem RM_far5 {w : World} {base p o : Nat} {v : Value} {l : List Meta} (h : RM 63 w base v l) (hne : v.ownBlock ≠ some p) (m : Meta) : RM 63 (put5 w p o m) base v l :=
  RM_far (RM_far (RM_far (RM_far (RM_far h (p := ⟨p, o, none⟩) hne _) (p := ⟨p, o + 1, none⟩) hne _) (p := ⟨p, o + 2, none⟩) hne _) (p := ⟨p, o + 3, none⟩) hne _) (p := ⟨p, o + 4, none⟩) hne _
theorem RI_far5 {w : World} {base p o : Nat} {v : Value} {l : List Int} (h : RI w base v l) (hne : some p ≠ v.ownBlock) (m : Meta) : RI (put5 w p o m) base v l :=
  own_setCell (own_setCell (own_setCell (own_setCell (own_setCell h (p := ⟨p, o, none⟩) hne _) (p := ⟨p, o + 1, none⟩) hne _) (p := ⟨p, o + 2, none⟩) hne _) (p := ⟨p, o + 3, none⟩) hne _) (p := ⟨p, o + 4, none⟩) hne _
theorem blk_far5 {w : World} {k p o : Nat} {t : TypeId} {cs : Array Value} (h : w.heap[k]? = some (.cells cs t (0, 0))) (hne : k ≠ p) (m : Meta) : (put5 w p o m).heap[k]? = some (.cells cs t (0, 0)) :=
  blk_far (blk_far (blk_far (blk_far (blk_far h (p := ⟨p, o, none⟩) hne _) (p := ⟨p, o + 1, none⟩) hne _) (p := ⟨p, o + 2, none⟩) hne _) (p := ⟨p, o + 3, none⟩) hne _) (p := ⟨p, o + 4, none⟩) hne _
theorem stay_put5 {lo hi p o : Nat} {w w1 : World} (h : Stay lo hi w w1) (hs : p < lo) (m : Meta) : Stay lo hi w (put5 w1 p o m) :=
  stay_set (p := ⟨p, o + 4, none⟩) (stay_set (p := ⟨p, o + 3, none⟩) (stay_set (p := ⟨p, o + 2, none⟩) (stay_set (p := ⟨p, o + 1, none⟩) (stay_set (p := ⟨p, o, none⟩) h (.inl hs)) (.inl hs)) (.inl hs)) (.inl hs)) (.inl hs)
theorem below_put5 {B p o : Nat} {w w1 : World} (h : Below B w w1) (hs : B ≤ p) (m : Meta) : Below B w (put5 w1 p o m) :=
  ((((h.setCell (p := ⟨p, o, none⟩) hs _).setCell (p := ⟨p, o + 1, none⟩) hs _).setCell (p := ⟨p, o + 2, none⟩) hs _).setCell (p := ⟨p, o + 3, none⟩) hs _).setCell (p := ⟨p, o + 4, none⟩) hs _
theorem size_put5 (w : World) (p o : Nat) (m : Meta) : (put5 w p o m).heap.size = w.heap.size := by
  unfold put5; simp only [World.size_setCell]
theorem blk_stay {lo hi k : Nat} {w w1 : World} {o : Obj} (hs : Stay lo hi w w1) (h : w.heap[k]? = some o) (h1 : lo ≤ k) (h2 : k < hi) : w1.heap[k]? = some o := (hs k h1 h2).trans h
theorem Out.stay {t : TypeId} {E : Int} {L : List Meta} {seq next : Int} {base : Nat} {w w1 : World} {A : Option Addr} {n c : Nat} {a b : Int} (h : Out t E L seq next base w A n c a b) (hs : Stay base w.heap.size w w1) : Out t E L seq next base w1 A n c a b :=
  ⟨fun e => ⟨(h.yes e).1, (h.yes e).2.1, (h.yes e).2.2.1, RM_stay (h.yes e).2.2.2 hs (Nat.le_refl _)⟩, h.no⟩
theorem stay_less {lo lo' hi hi' : Nat} {w w1 : World} (h : Stay lo hi w w1) (h1 : lo ≤ lo') (h2 : hi' ≤ hi) : Stay lo' hi' w w1 := fun k a b => h k (by omega) (by omega)

/-- what stays: the variables x and y, their rows (written over as they may be), and all that lies behind -/
structure Keep (w W wc W2 : World) (gx gy : Nat) (Ax Dx Bx : Option Addr) (xn cx dn dx bn bx : Nat) (seq next seq' next' : Int) (wr : World) (Z Y : List Meta) (Dl : List Int) : Prop where
  zl : Z.length = xn
  yl : Y.length = bn
  dl : Dl.length = dn
  vx : wr.heap[gx]? = some (.cells #[.slice Ax xn cx, .int .i64 seq, .int .i64 next] 49 (0, 0))
  vy : wr.heap[gy]? = some (.cells #[.slice Dx dn dx, .slice Bx bn bx, .int .i64 seq', .int .i64 next'] 61 (0, 0))
  rx : RM 63 wr W.heap.size (.slice Ax xn cx) Z
  ra : RM 63 wr W.heap.size (.slice Bx bn bx) Y
  rd : RI wr W.heap.size (.slice Dx dn dx) Dl
  apart : ∀ k, (Value.slice Ax xn cx).ownBlock = some k → (Value.slice Bx bn bx).ownBlock ≠ some k
  lx : ∀ k, (Value.slice Ax xn cx).ownBlock = some k → k < wc.heap.size
  lb : ∀ k, (Value.slice Bx bn bx).ownBlock = some k → k < wc.heap.size
  ld : ∀ k, (Value.slice Dx dn dx).ownBlock = some k → k < wc.heap.size
  stay : Stay wc.heap.size W2.heap.size W2 wr
  size : W2.heap.size ≤ wr.heap.size
  below : Below w.heap.size w wr
  base : w.heap.size ≤ W.heap.size
section
variable {w W wc W2 : World} {gx gy : Nat} {Ax Dx Bx : Option Addr} {xn cx dn dx bn bx : Nat} {seq next seq' next' : Int} {wr : World} {Z Y : List Meta} {Dl : List Int}
/-- element i of x's tables -/
theorem Keep.atX (h : Keep w W wc W2 gx gy Ax Dx Bx xn cx dn dx bn bx seq next seq' next' wr Z Y Dl) {i : Nat} (hi : i < xn) : ∃ g, Ax = some ⟨g, 0, none⟩ ∧ W.heap.size ≤ g ∧ MRow wr g cx Z ∧ (∃ m, Z[i]? = some m) ∧
    Keep w W wc W2 gx gy Ax Dx Bx xn cx dn dx bn bx seq next seq' next' (put5 wr g (i * 5) zMeta) (Z.set i zMeta) Y Dl := by
  rcases RM_cases h.rx with ⟨hv, rfl⟩ | ⟨g, cap, hv, hb, hcm, hm⟩
  · have := h.zl; simp at this; omega
  · injection hv with h1 h2 h3
    subst h1; subst h3
    obtain ⟨cs, hblk⟩ := hm.blk
    have hiz : i < Z.length := by have := h.zl; omega
    refine ⟨g, rfl, hb, hm, ⟨_, List.getElem?_eq_getElem hiz⟩, ?_⟩
    exact {
      zl := by rw [List.length_set]; exact h.zl
      yl := h.yl
      dl := h.dl
      vx := blk_far5 h.vx (blk_ne h.vx hblk (by decide)) _
      vy := blk_far5 h.vy (blk_ne h.vy hblk (by decide)) _
      rx := by
        have := RM_mk hb hcm (hm.set i zMeta hiz)
        rw [List.length_set, h.zl] at this
        exact this
      ra := RM_far5 h.ra (h.apart g rfl) _
      rd := RI_far5 h.rd (own_ne h.rd hblk (by decide)) _
      apart := h.apart
      lx := h.lx
      lb := h.lb
      ld := h.ld
      stay := stay_put5 h.stay (h.lx g rfl) _
      size := by rw [size_put5]; exact h.size
      below := below_put5 h.below (Nat.le_trans h.base hb) _
      base := h.base }
/-- element i of y's tables -/
theorem Keep.atY (h : Keep w W wc W2 gx gy Ax Dx Bx xn cx dn dx bn bx seq next seq' next' wr Z Y Dl) {i : Nat} (hi : i < bn) : ∃ g, Bx = some ⟨g, 0, none⟩ ∧ W.heap.size ≤ g ∧ MRow wr g bx Y ∧ (∃ m, Y[i]? = some m) ∧
    Keep w W wc W2 gx gy Ax Dx Bx xn cx dn dx bn bx seq next seq' next' (put5 wr g (i * 5) zMeta) Z (Y.set i zMeta) Dl := by
  rcases RM_cases h.ra with ⟨hv, rfl⟩ | ⟨g, cap, hv, hb, hcm, hm⟩
  · have := h.yl; simp at this; omega
  · injection hv with h1 h2 h3
    subst h1; subst h3
    obtain ⟨cs, hblk⟩ := hm.blk
    have hiz : i < Y.length := by have := h.yl; omega
    refine ⟨g, rfl, hb, hm, ⟨_, List.getElem?_eq_getElem hiz⟩, ?_⟩
    exact {
      zl := h.zl
      yl := by rw [List.length_set]; exact h.yl
      dl := h.dl
      vx := blk_far5 h.vx (blk_ne h.vx hblk (by decide)) _
      vy := blk_far5 h.vy (blk_ne h.vy hblk (by decide)) _
      rx := RM_far5 h.rx (fun e => h.apart g e rfl) _
      ra := by
        have := RM_mk hb hcm (hm.set i zMeta hiz)
        rw [List.length_set, h.yl] at this
        exact this
      rd := RI_far5 h.rd (own_ne h.rd hblk (by decide)) _
      apart := h.apart
      lx := h.lx
      lb := h.lb
      ld := h.ld
      stay := stay_put5 h.stay (h.lb g rfl) _
      size := by rw [size_put5]; exact h.size
      below := below_put5 h.below (Nat.le_trans h.base hb) _
      base := h.base }
/-- element i of y's numbers -/
theorem Keep.atD (h : Keep w W wc W2 gx gy Ax Dx Bx xn cx dn dx bn bx seq next seq' next' wr Z Y Dl) {i : Nat} (hi : i < dn) (x : Int) : ∃ g, Dx = some ⟨g, 0, none⟩ ∧ W.heap.size ≤ g ∧ (∃ v, wr.cell? ⟨g, i, none⟩ = some v) ∧ wr.frozen? ⟨g, i, none⟩ = false ∧
    Keep w W wc W2 gx gy Ax Dx Bx xn cx dn dx bn bx seq next seq' next' (wr.setCell ⟨g, i, none⟩ (.int .i64 x)) Z Y (Dl.set i x) := by
  have hd := h.rd
  rw [RI, h.dl] at hd
  obtain ⟨g, cap, hv, hb, _⟩ := hd.form (by omega)
  injection hv with h1 h2 h3
  subst h1; subst h3
  obtain ⟨cs, hblk⟩ := own_typed hd g rfl
  have hc := own_at hd i (by omega) (by omega)
  have hst := (own_store hd i x).1
  rw [Int.toNat_natCast] at hst hc
  refine ⟨g, rfl, hb, ⟨_, hc.1⟩, hc.2, ?_⟩
  exact {
    zl := h.zl
    yl := h.yl
    dl := by rw [List.length_set]; exact h.dl
    vx := blk_far h.vx (p := ⟨g, i, none⟩) (blk_ne h.vx hblk (by decide)) _
    vy := blk_far h.vy (p := ⟨g, i, none⟩) (blk_ne h.vy hblk (by decide)) _
    rx := RM_far h.rx (p := ⟨g, i, none⟩) (fun e => by obtain ⟨inner, ho⟩ := Kd.R_own h.rx; exact own_ne ho hblk (by decide) e.symm) _
    ra := RM_far h.ra (p := ⟨g, i, none⟩) (fun e => by obtain ⟨inner, ho⟩ := Kd.R_own h.ra; exact own_ne ho hblk (by decide) e.symm) _
    rd := by rw [RI, List.length_set, h.dl]; exact hst
    apart := h.apart
    lx := h.lx
    lb := h.lb
    ld := h.ld
    stay := stay_set h.stay (.inl (h.ld g rfl))
    size := by rw [World.size_setCell]; exact h.size
    below := h.below.setCell (p := ⟨g, i, none⟩) (Nat.le_trans h.base hb) _
    base := h.base }
end
end Go.Proofs.Ytelnhecpcjoonaa.Edit
