/- FIELDS: a list of api.Field in memory; the table of kinds. -/
import Derived.Test.YtfmamcdlnbmpeaaDoorProg
import Derived.Test.YtfmamcdlnbmpeaaDoorBase
import Derived.Test.YtfmamcdlnbmpeaaDoorVal
namespace Go.Proofs.YtfmamcdlnbmpeaaDoor
open Go.RowKit Plain

structure Fld where
  num : Int
  kind : Int
  val : Nat
  text : ByteArray
def Fld.cells (f : Fld) : List Value := [.int .i64 f.num, .int .i64 f.kind, .int .u64 f.val, .string f.text]
def flc (l : List Fld) : List Value := l.flatMap Fld.cells
theorem flc_len (l : List Fld) : (flc l).length = 4 * l.length := by
  induction l with
  | nil => rfl
  | cons f l ih => simp only [flc, List.flatMap_cons, List.length_append, List.length_cons] at *; rw [ih]; simp [Fld.cells]; omega
theorem flc_at : ∀ {l : List Fld} {i : Nat} {f : Fld}, l[i]? = some f → ∀ j, j < 4 → (flc l)[4 * i + j]? = f.cells[j]? := by
  intro l
  induction l with
  | nil => intro i f h; simp at h
  | cons g l ih =>
    intro i f h j hj
    simp only [flc, List.flatMap_cons]
    cases i with
    | zero =>
      obtain rfl : g = f := by simpa using h
      rw [List.getElem?_append_left (by simp [Fld.cells]; omega)]
      simp
    | succ i =>
      rw [List.getElem?_append_right (by simp [Fld.cells]; omega)]
      have := ih (by simpa using h) j hj
      rw [← this]
      congr 1
      simp [Fld.cells]; omega

/-- the table of kinds holds what the program's text lays -/
def Kinds (w : World) : Prop := ∀ j : Nat, j < 8 → w.cell? ⟨0, j, none⟩ = some (.int .i64 (vkind j))
theorem Kinds.below {B : Nat} {w w' : World} (h : Kinds w) (hb : Below B w w') (hB : 0 < B) : Kinds w' := fun j hj => (hb.cell (by simpa using hB)).trans (h j hj)
theorem Kinds.pos {w : World} (h : Kinds w) : 0 < w.heap.size := World.block_lt_of_cell? w _ (h 0 (by omega))
end Go.Proofs.YtfmamcdlnbmpeaaDoor
