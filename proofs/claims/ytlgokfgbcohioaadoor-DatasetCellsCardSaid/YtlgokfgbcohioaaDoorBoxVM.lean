/- a value's box kept and read -/
import Derived.Test.YtlgokfgbcohioaaDoorK3
namespace Go.Proofs.YtlgokfgbcohioaaDoor
open Go.RowKit Plain

theorem Box3.below {W W' : World} {B : Nat} {v : VV} (h : Box3 W B v) (hb : Below W.heap.size W W') : Box3 W' B v := (hb.block B (Array.getElem?_eq_some_iff.1 h).1).trans h
theorem Box3.cells {W : World} {B : Nat} {k : Int} {n : Nat} {s : ByteArray} (h : Box3 W B ⟨k, n, s⟩) : W.cell? ⟨B, 0, none⟩ = some (.int .i64 k) ∧ W.cell? ⟨B, 1, none⟩ = some (.int .u64 n) ∧ W.cell? ⟨B, 2, none⟩ = some (.string s) := ⟨h.cell 0, h.cell 1, h.cell 2⟩
end Go.Proofs.YtlgokfgbcohioaaDoor
