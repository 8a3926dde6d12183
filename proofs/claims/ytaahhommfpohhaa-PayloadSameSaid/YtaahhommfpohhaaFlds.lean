/- FIELDS: a list of api.Field in memory. -/
import Derived.Test.YtaahhommfpohhaaProg
import Derived.Test.YtaahhommfpohhaaBase
namespace Go.Proofs.Ytaahhommfpohhaa
open Go.RowKit

structure Fld where
  num : Int
  kind : Int
  val : Nat
  text : ByteArray
def Fld.cells (f : Fld) : List Value := [.int .i64 f.num, .int .i64 f.kind, .int .u64 f.val, .string f.text]
def flc (l : List Fld) : List Value := l.flatMap Fld.cells
theorem flc_len (l : List Fld) : (flc l).length = 4 * l.length := by
  induction l with
  | nil => rfl
  | cons f l ih => simp only [flc, List.flatMap_cons, List.length_append, List.length_cons] at *; rw [ih]; simp [Fld.cells]; omega
theorem flc_at : ∀ {l : List Fld} {i : Nat} {f : Fld}, l[i]? = some f → ∀ j, j < 4 → (flc l)[4 * i + j]? = f.cells[j]? := by
  intro l
  induction l with
  | nil => intro i f h; simp at h
  | cons g l ih =>
    intro i f h j hj
    simp only [flc, List.flatMap_cons]
    cases i with
    | zero =>
      obtain rfl : g = f := by simpa using h
      rw [List.getElem?_append_left (by simp [Fld.cells]; omega)]
      simp
    | succ i =>
      rw [List.getElem?_append_right (by simp [Fld.cells]; omega)]
      have := ih (by simpa using h) j hj
      rw [← this]
      congr 1
      simp [Fld.cells]; omega
def FldOk (f : Fld) : Prop := -9223372036854775808 ≤ f.num ∧ f.num ≤ 9223372036854775807 ∧ f.val < 18446744073709551616
theorem fld_at {w : World} {B : Nat} {A : Option Addr} {l : List Fld} {j : Nat} {f : Fld} (hr : Rd w B A (flc l)) (hf : l[j]? = some f) :
    ∃ b o, A = some ⟨b, o, none⟩ ∧ b < B ∧ w.cell? ⟨b, o + j * 4, none⟩ = some (.int .i64 f.num) ∧ w.cell? ⟨b, o + j * 4 + 1, none⟩ = some (.int .i64 f.kind) ∧ w.cell? ⟨b, o + j * 4 + 2, none⟩ = some (.int .u64 f.val) ∧ w.cell? ⟨b, o + j * 4 + 3, none⟩ = some (.string f.text) := by
  have hlen := flc_len l
  have hlt := (List.getElem?_eq_some_iff.1 hf).1
  obtain ⟨b, o, rfl, hb, hc⟩ := hr.some_ (by omega)
  have g : ∀ i, i < 4 → w.cell? ⟨b, o + j * 4 + i, none⟩ = f.cells[i]? := fun i hi => by
    rw [show o + j * 4 + i = o + (4 * j + i) by omega]; exact (hc _ (by omega)).trans (flc_at hf i hi)
  exact ⟨b, o, rfl, hb, g 0 (by omega), g 1 (by omega), g 2 (by omega), g 3 (by omega)⟩
theorem drop_cons {α : Type} {l : List α} {j : Nat} {f : α} (h : l[j]? = some f) : l.drop j = f :: l.drop (j + 1) := by
  obtain ⟨h1, h2⟩ := List.getElem?_eq_some_iff.1 h
  rw [List.drop_eq_getElem_cons h1, h2]
end Go.Proofs.Ytaahhommfpohhaa
