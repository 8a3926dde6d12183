/- what the walks of a table's reading lean on: rows of texts, of numbers, of rows; a relation of worlds -/
import Derived.Test.YtlgokfgbcohioaaDoorDsOcM
import Derived.Test.YtlgokfgbcohioaaDoorDsHM
import Derived.Test.YtlgokfgbcohioaaDoorK5
namespace Go.Proofs.YtlgokfgbcohioaaDoor
open Go.RowKit Plain

def belB (B : Nat) : Rel := ⟨Below B, Below.refl B, Below.trans⟩
theorem elemS : Elem Tryd.prog 22 9 (.string ⟨#[]⟩) 1 16 :=
  ⟨Tryd.underlying22, info_parts (show (Tryd.prog.info? 9).map (fun i => (i.zero, i.size, i.bytes)) = some (some (.string ⟨#[]⟩), 1, 16) by kernel_rfl), rfl, by omega⟩
theorem elemU : Elem Tryd.prog 23 69 (.int .u32 0) 1 4 :=
  ⟨Tryd.underlying23, info_parts (show (Tryd.prog.info? 69).map (fun i => (i.zero, i.size, i.bytes)) = some (some (.int .u32 0), 1, 4) by kernel_rfl), rfl, by omega⟩
theorem elemRR : Elem Tryd.prog 24 45 (.slice none 0 0) 1 24 :=
  ⟨Tryd.underlying24, info_parts (show (Tryd.prog.info? 45).map (fun i => (i.zero, i.size, i.bytes)) = some (some (.slice none 0 0), 1, 24) by kernel_rfl), rfl, by omega⟩
theorem own_sep3 {w w' : World} {base : Nat} {e : TypeId} {size n : Nat} {v : Value} {xs : List Value} {row : Option Nat} (h : w.ownsRow base e size v n xs) (hs : ∀ g, v.ownBlock = some g → row ≠ some g) (hgr : w.grownBy w' row) : w'.ownsRow base e size v n xs := by
  refine ⟨h.1, ?_⟩
  rcases h.2 with h2 | ⟨g3, cap, cur, hv, hgb, hh, r⟩
  · exact .inl h2
  · have hlt := (Array.getElem?_eq_some_iff.1 hh).1
    refine .inr ⟨g3, cap, cur, hv, hgb, ?_, r⟩
    rw [hgr.block g3 hlt (fun e => hs g3 (by rw [hv]; rfl) e.symm)]
    exact hh
/-- rows of two kinds do not share a block -/
theorem own_two {w w' : World} {b1 b2 : Nat} {e1 e2 : TypeId} {s1 s2 n1 n2 : Nat} {v1 v2 : Value} {xs1 xs2 : List Value} (h1 : w.ownsRow b1 e1 s1 v1 n1 xs1) (h2 : w.ownsRow b2 e2 s2 v2 n2 xs2) (hne : e1 ≠ e2) (hg : w.grownBy w' v2.ownBlock) : w'.ownsRow b1 e1 s1 v1 n1 xs1 :=
  own_sep3 h1 (fun g ha hb => by
    obtain ⟨c1, g1⟩ := own_obj h1 ha
    obtain ⟨c2, g2⟩ := own_obj h2 hb
    rw [g1] at g2
    simp at g2
    exact hne g2.2) hg
theorem BoxD.grown {W W' : World} {B base size n c : Nat} {A : Option Addr} {e : TypeId} {xs : List Value} {x y z : Value} (h : BoxD W B x y z) (ho : W.ownsRow base e size (.slice A n c) n xs) (he : e ≠ 26) (hg : W.grownBy W' (Value.slice A n c).ownBlock) : BoxD W' B x y z :=
  (hg.block B h.lt (fun e => own_ne ho he h e.symm)).trans h
theorem BoxD.frozen {W : World} {B : Nat} {x y z : Value} (h : BoxD W B x y z) (i : Nat) : W.frozen? ⟨B, i, none⟩ = false := by simp [World.frozen?, show W.heap[B]? = _ from h]
theorem BoxD.set0 {W : World} {B : Nat} {x y z : Value} (h : BoxD W B x y z) (u : Value) : BoxD (W.setCell ⟨B, 0, none⟩ u) B u y z := heap_setCell_same W B 0 _ _ u h
theorem BoxD.set1 {W : World} {B : Nat} {x y z : Value} (h : BoxD W B x y z) (u : Value) : BoxD (W.setCell ⟨B, 1, none⟩ u) B x u z := heap_setCell_same W B 1 _ _ u h
theorem BoxD.set2 {W : World} {B : Nat} {x y z : Value} (h : BoxD W B x y z) (u : Value) : BoxD (W.setCell ⟨B, 2, none⟩ u) B x y u := heap_setCell_same W B 2 _ _ u h
theorem BoxD.alloc {W : World} {B : Nat} {x y z : Value} (h : BoxD W B x y z) (o : Obj) : BoxD (W.alloc o) B x y z := (Below.heap_alloc W o B h.lt).trans h
/-- what a table's reading answers -/
def DPost (q : DTab × Int) (w : World) (e : Ending) (w' : World) : Prop :=
  ∃ D : DS, e = .returned (.tuple #[D.agg, .int .i64 q.2]) ∧ D.At w' w'.heap.size ∧ DSOk D ∧ D.cols = q.1.cols ∧ D.types = q.1.types ∧ D.plain = q.1.rows ∧ Below w.heap.size w w'
theorem dpost_err {q : DTab × Int} {w w' : World} {e : Int} (h : q = (DTab.none, e)) (hB : Below w.heap.size w w') : DPost q w (.returned (.tuple #[.agg #[.slice none 0 0, .slice none 0 0, .slice none 0 0], .int .i64 e])) w' :=
  ⟨⟨none, 0, [], none, 0, [], none, 0, []⟩, by rw [h]; rfl, ⟨Rd.nil, Rd.nil, Rd.nil, by simp⟩, ⟨by simp, by simp, by simp, by simp, by simp, by simp⟩, by rw [h]; rfl, by rw [h]; rfl, by rw [h]; rfl, hB⟩
end Go.Proofs.YtlgokfgbcohioaaDoor
