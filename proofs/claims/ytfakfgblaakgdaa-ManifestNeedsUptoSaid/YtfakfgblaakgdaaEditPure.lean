/- Versions and edits of chapter 11 as plain data, and what the page asks of them. No program. -/
import Derived.Test.YtfakfgblaakgdaaBase
namespace Go.Proofs.Ytfakfgblaakgdaa.EditPure
open Go.RowKit Go.Proofs.YtfakfgblaakgdaaW.PrintWords Go.Proofs.YtfakfgblaakgdaaW.PrintLast Go.Proofs.Ytfakfgblaakgdaa.Base

/-- a text comes before another one -/
def sLt (a b : ByteArray) : Bool := Op.bytesLess a.toList b.toList

structure Meta where
  id : Int
  level : Int
  count : Int
  low : ByteArray
  high : ByteArray

instance : Inhabited Meta := ⟨⟨0, 0, 0, ⟨#[]⟩, ⟨#[]⟩⟩⟩

def zMeta : Meta := ⟨0, 0, 0, ⟨#[]⟩, ⟨#[]⟩⟩
def kMeta : Kd Meta := Kd.iso (Kd.pair (Kd.int .i64) (Kd.pair (Kd.int .i64) (Kd.pair (Kd.int .i64) (Kd.pair Kd.string Kd.string)))) (fun x : Meta => (x.id, x.level, x.count, x.low, x.high))
/-- a table's cells -/
def Meta.cs (m : Meta) : List Value := [.int .i64 m.id, .int .i64 m.level, .int .i64 m.count, .string m.low, .string m.high]
theorem kMeta_open {w : World} {x : Meta} {cs : List Value} (h : kMeta.K w x cs) : cs = x.cs := by
  obtain ⟨_, _, rfl, rfl, ⟨_, _, rfl, rfl, ⟨_, _, rfl, rfl, ⟨_, _, rfl, rfl, rfl⟩⟩⟩⟩ := h
  exact rfl
theorem kMeta_openM {w : World} {base : Nat} {ok : Nat → Prop} {x : Meta} {cs : List Value} (h : kMeta.M w base ok x cs) : cs = x.cs := by
  obtain ⟨_, _, rfl, rfl, ⟨_, _, rfl, rfl, ⟨_, _, rfl, rfl, ⟨_, _, rfl, rfl, rfl⟩⟩⟩⟩ := h
  exact rfl
theorem kMeta_mk (w : World) (x : Meta) : kMeta.K w x x.cs := ⟨[.int .i64 x.id], [.int .i64 x.level, .int .i64 x.count, .string x.low, .string x.high], rfl, rfl, ⟨[.int .i64 x.level], [.int .i64 x.count, .string x.low, .string x.high], rfl, rfl, ⟨[.int .i64 x.count], [.string x.low, .string x.high], rfl, rfl, ⟨[.string x.low], [.string x.high], rfl, rfl, rfl⟩⟩⟩⟩
theorem kMeta_mkM (w : World) (base : Nat) (ok : Nat → Prop) (x : Meta) : kMeta.M w base ok x x.cs := ⟨[.int .i64 x.id], [.int .i64 x.level, .int .i64 x.count, .string x.low, .string x.high], rfl, rfl, ⟨[.int .i64 x.level], [.int .i64 x.count, .string x.low, .string x.high], rfl, rfl, ⟨[.int .i64 x.count], [.string x.low, .string x.high], rfl, rfl, ⟨[.string x.low], [.string x.high], rfl, rfl, rfl⟩⟩⟩⟩

/-- three-way comparing -/
def cmpI (a b : Int) : Int := if a < b then -1 else if b < a then 1 else 0
def cmpS (a b : ByteArray) : Int := if sLt a b then -1 else if sLt b a then 1 else 0
/-- the order of tables: by level; the first by age, the others by key -/
def ord (a b : Meta) : Int := if cmpI a.level b.level != 0 then cmpI a.level b.level else if a.level == 0 then cmpI b.id a.id else cmpS a.low b.low

def within (n lo hi : Int) : Bool := decide (lo ≤ n) && decide (n ≤ hi)
def keyOk (s : ByteArray) : Bool := decide (1 ≤ s.size) && decide (s.size ≤ 96)
/-- may a table be -/
def mayM (m : Meta) : Bool := within m.id 1 2147483647 && (within m.level 0 3 && (within m.count 1 4096 && (keyOk m.low && (keyOk m.high && !sLt m.high m.low))))

/-- the cells of element i of a row of tables that is read -/
theorem atMeta {w : World} {A : Option Addr} {n : Nat} {xs : List Meta} (h : Kd.C kMeta w A n xs) (i : Nat) (m : Meta) (hi : xs[i]? = some m) :
    ∃ ad, A = some ad ∧ w.cell? (ad.add (i * 5)) = some (.int .i64 m.id) ∧ w.cell? ⟨(ad.add (i * 5)).block, (ad.add (i * 5)).off + 1, none⟩ = some (.int .i64 m.level) ∧ w.cell? ⟨(ad.add (i * 5)).block, (ad.add (i * 5)).off + 2, none⟩ = some (.int .i64 m.count) ∧ w.cell? ⟨(ad.add (i * 5)).block, (ad.add (i * 5)).off + 3, none⟩ = some (.string m.low) ∧ w.cell? ⟨(ad.add (i * 5)).block, (ad.add (i * 5)).off + 4, none⟩ = some (.string m.high) := by
  have hlt : i < xs.length := (List.getElem?_eq_some_iff.1 hi).1
  have hn := Kd.C_len h
  obtain ⟨ad, c, e, _, hK, hc0⟩ := Kd.C_get h zMeta (i : Int) (by omega) (by omega)
  have hg : xs.getD (i : Int).toNat zMeta = m := by rw [Int.toNat_natCast, List.getD_eq_getElem?_getD, hi]; rfl
  rw [hg] at hK
  rw [Int.toNat_natCast] at hc0
  have hc : ∀ j u, c[j]? = some u → w.cell? (ad.add (i * 5 + j)) = some u := hc0
  obtain rfl := kMeta_open hK
  exact ⟨ad, e, hc 0 _ rfl, by rw [← add_field _ _ 1 (by omega)]; exact hc 1 _ rfl, by rw [← add_field _ _ 2 (by omega)]; exact hc 2 _ rfl, by rw [← add_field _ _ 3 (by omega)]; exact hc 3 _ rfl, by rw [← add_field _ _ 4 (by omega)]; exact hc 4 _ rfl⟩

/-- of a table behind others: what a version that may be asks of it -/
def stepOk (next : Int) (pre : List Meta) (m : Meta) : Bool :=
  mayM m && (decide (m.id < next) && !(pre.any fun x => x.id == m.id))
def linkOk (l m : Meta) : Bool := decide (ord l m < 0) && (m.level == 0 || (m.level != l.level || sLt l.high m.low))
def lastOk (pre : List Meta) (m : Meta) : Bool := match pre.getLast? with | none => true | some l => linkOk l m
/-- the tables up to i may be -/
def okTo (next : Int) (l : List Meta) : Nat → Bool
  | 0 => true
  | i + 1 => okTo next l i && (stepOk next (l.take i) (l.getD i zMeta) && lastOk (l.take i) (l.getD i zMeta))
def headOk (n : Nat) (seq next : Int) : Bool := decide (n ≤ 256) && (within next 1 2147483647 && within seq 0 1099511627776)
/-- may a version be -/
def verOk (l : List Meta) (seq next : Int) : Bool := headOk l.length seq next && okTo next l l.length
/-- its error's number -/
def verE (l : List Meta) (seq next : Int) : Int := if verOk l seq next then 0 else 9
end Go.Proofs.Ytfakfgblaakgdaa.EditPure
