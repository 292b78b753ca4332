/- Files of chapter 4 as plain data. No program. -/
import Derived.Test.YtfakfgblaakgdaaCells
namespace Go.Proofs.Ytfakfgblaakgdaa.Files
set_option linter.unusedVariables false
set_option linter.unusedSimpArgs false
open Go.RowKit Go.Proofs.YtfakfgblaakgdaaW.PrintWords Go.Proofs.YtfakfgblaakgdaaW.PrintLast Go.Proofs.Ytfakfgblaakgdaa.Base

structure Fl where
  id : Int
  data : List Int
  sync : Int
structure Nm where
  name : ByteArray
  id : Int
structure St where
  cap : Int
  files : List Fl
  names : List Nm
  safe : List Nm
  next : Int
instance : Inhabited Fl := ⟨⟨0, [], 0⟩⟩
instance : Inhabited Nm := ⟨⟨⟨#[]⟩, 0⟩⟩

def zFl : Fl := ⟨0, [], 0⟩
def zNm : Nm := ⟨⟨#[]⟩, 0⟩
def kOct : Kd (List Int) := Kd.slice 5 (Kd.int .u8)
def kFl : Kd Fl := Kd.iso (Kd.pair (Kd.int .i64) (Kd.pair kOct (Kd.int .i64))) (fun x : Fl => (x.id, x.data, x.sync))
def kNm : Kd Nm := Kd.iso (Kd.pair Kd.string (Kd.int .i64)) (fun x : Nm => (x.name, x.id))
def Nm.cs (m : Nm) : List Value := [.string m.name, .int .i64 m.id]
theorem kNm_open {w : World} {x : Nm} {cs : List Value} (h : kNm.K w x cs) : cs = x.cs := by
  obtain ⟨_, _, rfl, rfl, rfl⟩ := h
  exact rfl
theorem kNm_openM {w : World} {base : Nat} {ok : Nat → Prop} {x : Nm} {cs : List Value} (h : kNm.M w base ok x cs) : cs = x.cs := by
  obtain ⟨_, _, rfl, rfl, rfl⟩ := h
  exact rfl
theorem kNm_mk (w : World) (x : Nm) : kNm.K w x x.cs := ⟨[.string x.name], [.int .i64 x.id], rfl, rfl, rfl⟩
theorem kNm_mkM (w : World) (base : Nat) (ok : Nat → Prop) (x : Nm) : kNm.M w base ok x x.cs := ⟨[.string x.name], [.int .i64 x.id], rfl, rfl, rfl⟩
theorem kFl_open {w : World} {x : Fl} {cs : List Value} (h : kFl.K w x cs) : ∃ A c, cs = [.int .i64 x.id, .slice A x.data.length c, .int .i64 x.sync] ∧ x.data.length ≤ c ∧ ReadsInt w .u8 A x.data.length x.data := by
  obtain ⟨_, _, rfl, rfl, ⟨_, _, rfl, ⟨A, c, rfl, hl, hr⟩, rfl⟩⟩ := h
  exact ⟨A, c, rfl, hl, Kd.reads_of_C (d := (0 : Int)) hr⟩
theorem kFl_mk {w : World} {x : Fl} {A : Option Addr} {c : Nat} (hl : x.data.length ≤ c) (hr : ReadsInt w .u8 A x.data.length x.data) : kFl.K w x [.int .i64 x.id, .slice A x.data.length c, .int .i64 x.sync] :=
  ⟨[.int .i64 x.id], [.slice A x.data.length c, .int .i64 x.sync], rfl, rfl, ⟨[.slice A x.data.length c], [.int .i64 x.sync], rfl, ⟨A, c, rfl, hl, Kd.C_of_reads (d := (0 : Int)) hr⟩, rfl⟩⟩
theorem kFl_mkM {w : World} {base : Nat} {ok : Nat → Prop} {x : Fl} {v : Value} (h : (Kd.int .u8).R 5 w base ok v x.data) : kFl.M w base ok x [.int .i64 x.id, v, .int .i64 x.sync] :=
  ⟨[.int .i64 x.id], [v, .int .i64 x.sync], rfl, rfl, ⟨[v], [.int .i64 x.sync], rfl, ⟨v, rfl, h⟩, rfl⟩⟩

/-- the cells of file i of a row that is read -/
theorem atFl {w : World} {A : Option Addr} {n : Nat} {xs : List Fl} (h : kFl.C w A n xs) (i : Nat) (m : Fl) (hi : xs[i]? = some m) :
    ∃ ad D dc, A = some ad ∧ w.cell? (ad.add (i * 3)) = some (.int .i64 m.id) ∧ w.cell? ⟨(ad.add (i * 3)).block, (ad.add (i * 3)).off + 1, none⟩ = some (.slice D m.data.length dc) ∧ w.cell? ⟨(ad.add (i * 3)).block, (ad.add (i * 3)).off + 2, none⟩ = some (.int .i64 m.sync) ∧ m.data.length ≤ dc ∧ ReadsInt w .u8 D m.data.length m.data := by
  have hlt : i < xs.length := (List.getElem?_eq_some_iff.1 hi).1
  have hn := Kd.C_len h
  obtain ⟨ad, c, e, _, hK, hc0⟩ := Kd.C_get h zFl (i : Int) (by omega) (by omega)
  have hg : xs.getD (i : Int).toNat zFl = m := by rw [Int.toNat_natCast, List.getD_eq_getElem?_getD, hi]; rfl
  rw [hg] at hK
  rw [Int.toNat_natCast] at hc0
  have hc : ∀ j u, c[j]? = some u → w.cell? (ad.add (i * 3 + j)) = some u := hc0
  obtain ⟨D, dc, rfl, hl, hr⟩ := kFl_open hK
  exact ⟨ad, D, dc, e, hc 0 _ rfl, by rw [← add_field _ _ 1 (by omega)]; exact hc 1 _ rfl, by rw [← add_field _ _ 2 (by omega)]; exact hc 2 _ rfl, hl, hr⟩
/-- the cells of name i of a row that is read -/
theorem atNm {w : World} {A : Option Addr} {n : Nat} {xs : List Nm} (h : kNm.C w A n xs) (i : Nat) (m : Nm) (hi : xs[i]? = some m) :
    ∃ ad, A = some ad ∧ w.cell? (ad.add (i * 2)) = some (.string m.name) ∧ w.cell? ⟨(ad.add (i * 2)).block, (ad.add (i * 2)).off + 1, none⟩ = some (.int .i64 m.id) := by
  have hlt : i < xs.length := (List.getElem?_eq_some_iff.1 hi).1
  have hn := Kd.C_len h
  obtain ⟨ad, c, e, _, hK, hc0⟩ := Kd.C_get h zNm (i : Int) (by omega) (by omega)
  have hg : xs.getD (i : Int).toNat zNm = m := by rw [Int.toNat_natCast, List.getD_eq_getElem?_getD, hi]; rfl
  rw [hg] at hK
  rw [Int.toNat_natCast] at hc0
  have hc : ∀ j u, c[j]? = some u → w.cell? (ad.add (i * 2 + j)) = some u := hc0
  obtain rfl := kNm_open hK
  exact ⟨ad, e, hc 0 _ rfl, by rw [← add_field _ _ 1 (by omega)]; exact hc 1 _ rfl⟩

/-- a state that is read: where its three rows lie -/
structure Hd (w : World) (s : St) (F : Option Addr) (fc : Nat) (N : Option Addr) (nc : Nat) (S : Option Addr) (sc : Nat) : Prop where
  hF : kFl.C w F s.files.length s.files
  hN : kNm.C w N s.names.length s.names
  hS : kNm.C w S s.safe.length s.safe
  lF : s.files.length ≤ fc
  lN : s.names.length ≤ nc
  lS : s.safe.length ≤ sc
theorem Hd.below {w w1 : World} {s : St} {F N S : Option Addr} {fc nc sc : Nat} (h : Hd w s F fc N nc S sc) (hb : Below w.heap.size w w1) : Hd w1 s F fc N nc S sc :=
  ⟨Kd.C_below h.hF hb, Kd.C_below h.hN hb, Kd.C_below h.hS hb, h.lF, h.lN, h.lS⟩

/-- sizes of a state: nothing of it is too large for the machine -/
structure Small (s : St) : Prop where
  lf : s.files.length ≤ 1048576
  ln : s.names.length ≤ 1048576
  ls : s.safe.length ≤ 1048576
  ld : ∀ f ∈ s.files, f.data.length ≤ 1048576
/-- the whole numbers of a state are whole numbers of the machine -/
structure Wf (s : St) : Prop where
  wn : ∀ n ∈ s.names, -9223372036854775808 ≤ n.id ∧ n.id ≤ 9223372036854775807
  ws : ∀ n ∈ s.safe, -9223372036854775808 ≤ n.id ∧ n.id ≤ 9223372036854775807
end Go.Proofs.Ytfakfgblaakgdaa.Files
