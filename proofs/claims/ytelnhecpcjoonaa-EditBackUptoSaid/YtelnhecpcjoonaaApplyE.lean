/- The page's example of chapter 11 is alive. -/
import Derived.Test.YtelnhecpcjoonaaApplyD
namespace Go.Proofs.Ytelnhecpcjoonaa.Edit
set_option linter.unusedVariables false
set_option linter.unusedSimpArgs false
open Go.RowKit Go.Proofs.YtelnhecpcjoonaaW.PrintWords Go.Proofs.YtelnhecpcjoonaaW.PrintLast Go.Proofs.Ytelnhecpcjoonaa.Base Go.Proofs.Ytelnhecpcjoonaa.EditPure Go.Proofs.Ytelnhecpcjoonaa.Sets Go.Proofs.Ytelnhecpcjoonaa.Wide Go.Proofs.Ytelnhecpcjoonaa.Cells

theorem C_nil (w : World) : Kd.C kMeta w none ([] : List Meta).length [] := ⟨rfl, by simp, fun h => absurd h (Nat.lt_irrefl 0)⟩
theorem C_block (e : TypeId) (w : World) (l : List Meta) (hm : l.length ≤ 9223372036854775807) : Kd.C kMeta (w.alloc (.cells (l.flatMap Meta.cs).toArray e)) (some ⟨w.heap.size, 0, none⟩) l.length l :=
  (Kd.R_reads' (RM_block e w 0 l l.length (Nat.zero_le _) hm rfl)).2.2
def mA : Meta := ⟨1, 1, 1, ⟨#[97]⟩, ⟨#[99]⟩⟩
def mB : Meta := ⟨2, 1, 1, ⟨#[98]⟩, ⟨#[100]⟩⟩
theorem srt_one (m : Meta) : srt [m] = [m] := List.perm_singleton.1 (srt_perm [m])
theorem alive1 : applyE [] 0 1 [] [mA] 0 3 = 0 := by
  have h0 : verOk [] 0 1 = true := by decide +kernel
  have h1 : verOk [mA] 0 3 = true := by decide +kernel
  rw [applyE, if_pos h0]
  show (if (0 : Int) < 0 ∨ (3 : Int) < 1 then (4 : Int) else if verOk (srt ([] ++ [mA])) 0 3 then 0 else 9) = 0
  rw [if_neg (by omega), List.nil_append, srt_one, if_pos h1]
theorem alive2 : applyL [] [] [mA] = [mA] := by rw [applyL]; show srt ([] ++ [mA]) = _; rw [List.nil_append, srt_one]
theorem alive3 : applyE [mA] 0 3 [] [mB] 0 3 = 9 := by
  have h0 : verOk [mA] 0 3 = true := by decide +kernel
  have h1 : verOk [mA, mB] 0 3 = false := by decide +kernel
  have hs : Srt [mA, mB] := by
    have : ltM mB mA = false := by decide +kernel
    simpa [Srt, leM] using this
  rw [applyE, if_pos h0]
  show (if (0 : Int) < 0 ∨ (3 : Int) < 3 then (4 : Int) else if verOk (srt ([mA] ++ [mB])) 0 3 then 0 else 9) = 9
  rw [if_neg (by omega), show [mA] ++ [mB] = [mA, mB] from rfl, ← (verOk_srt 0 3 (List.Perm.refl [mA, mB]) hs).1, h1]
  rfl
theorem wfA : ∀ m ∈ [mA], inI64 m.id := fun m hm => by rw [List.mem_singleton.1 hm]; show inI64 1; unfold inI64; omega
theorem wfB : ∀ m ∈ [mB], inI64 m.id := fun m hm => by rw [List.mem_singleton.1 hm]; show inI64 2; unfold inI64; omega

set_option maxRecDepth 100000 in
set_option maxHeartbeats 4000000 in
theorem alive11_any (w : World) : Calls Try.prog 20 #[] w fun e w' => e = .returned (.bool true) ∧ Below w.heap.size w w' := by
  go_enter Try.func20, Try.ntmps20
  go_wp2_with fail
  refine (new_any _).mono ?_
  rintro e w1 ⟨rfl, hb1⟩
  have HB1 := Aside0.mk hb1
  clear hb1
  go_wp2_with fail
  have hbb := below_alloc (Below.refl w1.heap.size w1) (.cells ([mA].flatMap Meta.cs).toArray 63)
  refine (apply_any none (some ⟨w1.heap.size, 0, none⟩) none 0 1 0 [] [mA] [] 0 1 0 3 _ (C_nil _) (Nat.le_refl _) (fun m hm => by simp at hm) (C_block 63 w1 [mA] (by simp)) wfA (ReadsInt.nil _ _) (by decide) (by decide)).mono ?_
  rw [alive1, alive2]
  rintro e w2 ⟨⟨_, v, rfl, ho⟩ | ⟨h, _⟩, hb2⟩
  rotate_left
  · exact absurd rfl h
  obtain ⟨A2, c2, rfl, hc2, hC2⟩ := RM_reads ho
  have HB2 := Aside0.mk (bthen HB1.out (bthen hbb hb2))
  have HC2 := Aside0.mk hC2
  clear hbb hb2 ho hC2
  have e1 : [mA].length = 1 := rfl
  rw [e1] at hc2 ⊢
  clear e1
  go_wp2_with fail
  have hbv := below_alloc (Below.refl w2.heap.size w2) (Obj.cells #[Value.slice A2 1 c2, Value.int IntKind.i64 0, Value.int IntKind.i64 3] 49)
  have hs1 : (w2.alloc (Obj.cells #[Value.slice A2 1 c2, Value.int IntKind.i64 0, Value.int IntKind.i64 3] 49)).heap.size = w2.heap.size + 1 := by simp
  have hCB := C_block 63 (w2.alloc (Obj.cells #[Value.slice A2 1 c2, Value.int IntKind.i64 0, Value.int IntKind.i64 3] 49)) [mB] (by simp)
  rw [hs1] at hCB
  have hbb := bthen hbv (below_alloc (Below.refl _ _) (.cells ([mB].flatMap Meta.cs).toArray 63))
  refine (apply_any A2 (some ⟨w2.heap.size + 1, 0, none⟩) none c2 1 0 [mA] [mB] [] 0 3 0 3 _ (Kd.C_below HC2.out hbb) hc2 wfA hCB wfB (ReadsInt.nil _ _) (by decide) (by decide)).mono ?_
  rw [alive3]
  rintro e w3 ⟨⟨h, _⟩ | ⟨_, rfl⟩, hb3⟩
  · exact absurd h (by decide)
  have HB3 := Aside0.mk (bthen HB2.out (bthen hbb hb3))
  have hk := blk_keep (blk_alloc (blk_new w2 (Obj.cells #[Value.slice A2 1 c2, Value.int IntKind.i64 0, Value.int IntKind.i64 3] 49)) (.cells ([mB].flatMap Meta.cs).toArray 63)) hb3
  have HL3 : w2.heap.size < w3.heap.size := blk_lt hk
  obtain ⟨x0, x1, x2, _, _, _⟩ := all3 hk
  clear hk hbv hs1 hCB hbb hb3
  have y0 : ∀ o, (w3.alloc o).cell? ⟨w2.heap.size, 0, none⟩ = some (.slice A2 1 c2) := fun o => pw_cell_below (below_alloc (Below.refl _ _) o) x0
  go_wp2_with (go_at_call 23; refine (numE_any _ _).mono ?_; rintro e w4 ⟨rfl, rfl⟩)
  go_ret
  exact ⟨rfl, below_alloc HB3.out _⟩
end Go.Proofs.Ytelnhecpcjoonaa.Edit
