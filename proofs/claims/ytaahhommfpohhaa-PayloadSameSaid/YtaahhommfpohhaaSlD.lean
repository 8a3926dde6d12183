/- PLAIN LAW: values, tables, how they lie in memory. -/
import Derived.Test.YtaahhommfpohhaaProg
import Derived.Test.YtaahhommfpohhaaFlds
namespace Go.Proofs.Ytaahhommfpohhaa
open Go.RowKit

structure VV where
  k : Int
  n : Nat
  s : ByteArray
def VV.zero : VV := ⟨0, 0, ⟨#[]⟩⟩
def VV.cells (v : VV) : Array Value := #[.int .i64 v.k, .int .u64 v.n, .string v.s]
/-- a row: where it lies, and its values -/
structure RowH where
  adr : Option Addr
  cap : Nat
  vals : List VV
def scl (l : List ByteArray) : List Value := l.map .string
def ucl (l : List Nat) : List Value := l.map fun (n : Nat) => .int .u32 n
def vvl (l : List VV) : List Value := l.flatMap fun v => v.cells.toList
def rcl (l : List RowH) : List Value := l.map fun r => .slice r.adr r.vals.length r.cap
structure DS where
  A1 : Option Addr
  c1 : Nat
  cols : List ByteArray
  A2 : Option Addr
  c2 : Nat
  types : List Nat
  A3 : Option Addr
  c3 : Nat
  rows : List RowH
def DS.agg (d : DS) : Value := .agg #[.slice d.A1 d.cols.length d.c1, .slice d.A2 d.types.length d.c2, .slice d.A3 d.rows.length d.c3]
def DS.plain (d : DS) : List (List VV) := d.rows.map RowH.vals
structure DS.At (d : DS) (W : World) (B : Nat) : Prop where
  r1 : Rd W B d.A1 (scl d.cols)
  r2 : Rd W B d.A2 (ucl d.types)
  r3 : Rd W B d.A3 (rcl d.rows)
  rs : ∀ r ∈ d.rows, Rd W B r.adr (vvl r.vals)
theorem DS.At.below {d : DS} {W W' : World} {B C : Nat} (h : d.At W B) (hb : Below C W W') (hC : B ≤ C) : d.At W' B := ⟨h.r1.below hb hC, h.r2.below hb hC, h.r3.below hb hC, fun r hr => (h.rs r hr).below hb hC⟩
theorem DS.At.more {d : DS} {W : World} {B C : Nat} (h : d.At W B) (hC : B ≤ C) : d.At W C := ⟨h.r1.more hC, h.r2.more hC, h.r3.more hC, fun r hr => (h.rs r hr).more hC⟩
def VVOk (v : VV) : Prop := -9223372036854775808 ≤ v.k ∧ v.k ≤ 9223372036854775807 ∧ v.n < 18446744073709551616
structure DSOk (d : DS) : Prop where
  l1 : d.cols.length ≤ 9223372036854775807
  l2 : d.types.length ≤ 9223372036854775807
  l3 : d.rows.length ≤ 9223372036854775807
  ls : ∀ r ∈ d.rows, r.vals.length ≤ 9223372036854775807
  ty : ∀ n ∈ d.types, n < 4294967296
  vs : ∀ r ∈ d.rows, ∀ v ∈ r.vals, VVOk v
theorem vvl_len (l : List VV) : (vvl l).length = 3 * l.length := by
  induction l with
  | nil => rfl
  | cons f l ih => simp only [vvl, List.flatMap_cons, List.length_append, List.length_cons] at *; rw [ih]; simp [VV.cells]; omega
theorem vvl_at : ∀ {l : List VV} {i : Nat} {f : VV}, l[i]? = some f → ∀ j, j < 3 → (vvl l)[3 * i + j]? = f.cells[j]? := by
  intro l
  induction l with
  | nil => intro i f h; simp at h
  | cons g l ih =>
    intro i f h j hj
    simp only [vvl, List.flatMap_cons]
    cases i with
    | zero =>
      obtain rfl : g = f := by simpa using h
      rw [List.getElem?_append_left (by simp [VV.cells]; omega)]
      simp
    | succ i =>
      rw [List.getElem?_append_right (by simp [VV.cells]; omega)]
      have := ih (by simpa using h) j hj
      rw [← this]
      congr 1
      simp [VV.cells]; omega
theorem val_at {w : World} {B : Nat} {A : Option Addr} {l : List VV} {j : Nat} {f : VV} (hr : Rd w B A (vvl l)) (hf : l[j]? = some f) :
    ∃ b o, A = some ⟨b, o, none⟩ ∧ b < B ∧ w.cell? ⟨b, o + j * 3, none⟩ = some (.int .i64 f.k) ∧ w.cell? ⟨b, o + j * 3 + 1, none⟩ = some (.int .u64 f.n) ∧ w.cell? ⟨b, o + j * 3 + 2, none⟩ = some (.string f.s) := by
  have hlen := vvl_len l
  have hlt := (List.getElem?_eq_some_iff.1 hf).1
  obtain ⟨b, o, rfl, hb, hc⟩ := hr.some_ (by omega)
  have g : ∀ i, i < 3 → w.cell? ⟨b, o + j * 3 + i, none⟩ = f.cells[i]? := fun i hi => by
    rw [show o + j * 3 + i = o + (3 * j + i) by omega]; exact (hc _ (by omega)).trans (vvl_at hf i hi)
  exact ⟨b, o, rfl, hb, g 0 (by omega), g 1 (by omega), g 2 (by omega)⟩
/-- an element of a slice whose elements are one cell wide -/
theorem one_at {α : Type} {w : World} {B : Nat} {A : Option Addr} {l : List α} {f : α → Value} {j : Nat} {a : α} (hr : Rd w B A (l.map f)) (hf : l[j]? = some a) :
    ∃ b o, A = some ⟨b, o, none⟩ ∧ b < B ∧ w.cell? ⟨b, o + j, none⟩ = some (f a) := by
  have hlt := (List.getElem?_eq_some_iff.1 hf).1
  obtain ⟨b, o, rfl, hb, hc⟩ := hr.some_ (by simp; omega)
  exact ⟨b, o, rfl, hb, by rw [hc j (by simp; omega), List.getElem?_map, hf]; rfl⟩
def BoxD (W : World) (B : Nat) (x y z : Value) : Prop := W.heap[B]? = some (.cells #[x, y, z] 79 (0, 0))
theorem BoxD.lt {W : World} {B : Nat} {x y z : Value} (h : BoxD W B x y z) : B < W.heap.size := (Array.getElem?_eq_some_iff.1 h).1
theorem BoxD.below {W W' : World} {B : Nat} {x y z : Value} (h : BoxD W B x y z) (hb : Below W.heap.size W W') : BoxD W' B x y z := (hb.block B h.lt).trans h
theorem BoxD.cells {W : World} {B : Nat} {x y z : Value} (h : BoxD W B x y z) : W.cell? ⟨B, 0, none⟩ = some x ∧ W.cell? ⟨B, 1, none⟩ = some y ∧ W.cell? ⟨B, 2, none⟩ = some z := by
  refine ⟨?_, ?_, ?_⟩ <;> (simp only [World.cell?, show W.heap[B]? = _ from h]; rfl)
theorem below_drewN {B : Nat} {a w : World} (h : Below B a w) (n : Nat) : Below B a (w.drewN n) := ⟨h.os, h.tape, h.output, h.size, h.block⟩
end Go.Proofs.Ytaahhommfpohhaa
