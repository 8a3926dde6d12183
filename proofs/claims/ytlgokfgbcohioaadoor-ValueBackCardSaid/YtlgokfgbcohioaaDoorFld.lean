/- The table of kinds. -/
import Derived.Test.YtlgokfgbcohioaaDoorProg
import Derived.Test.YtlgokfgbcohioaaDoorFlds
import Derived.Test.YtlgokfgbcohioaaDoorVal
namespace Go.Proofs.YtlgokfgbcohioaaDoor
open Go.RowKit Plain

/-- the table of kinds holds what the program's text lays -/
def Kinds (w : World) : Prop := ∀ j : Nat, j < 8 → w.cell? ⟨0, j, none⟩ = some (.int .i64 (vkind j))
theorem Kinds.below {B : Nat} {w w' : World} (h : Kinds w) (hb : Below B w w') (hB : 0 < B) : Kinds w' := fun j hj => (hb.cell (by simpa using hB)).trans (h j hj)
theorem Kinds.pos {w : World} (h : Kinds w) : 0 < w.heap.size := World.block_lt_of_cell? w _ (h 0 (by omega))
end Go.Proofs.YtlgokfgbcohioaaDoor
