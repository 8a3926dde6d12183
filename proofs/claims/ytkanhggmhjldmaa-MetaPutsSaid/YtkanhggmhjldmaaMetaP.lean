/- WALK: meta.parts -/
import Derived.Test.YtkanhggmhjldmaaMetaA
import Derived.Test.YtkanhggmhjldmaaRegion
import Derived.Great.BuildSlice
namespace Go.Proofs.Ytkanhggmhjldmaa
open Go.RowKit Plain

def bxs (w : World) (l : List (Nat × Nat)) (m : Nat) : Prop := ∀ x ∈ l, w.cell? ⟨x.1, 0, none⟩ = some (.pointer (some ⟨m, x.2, none⟩)) ∧ x.1 < w.heap.size
theorem bxs.below {w w' : World} {l : List (Nat × Nat)} {m : Nat} (h : bxs w l m) (hb : Below w.heap.size w w') : bxs w' l m := fun x hx => ⟨(hb.cell (h x hx).2).trans (h x hx).1, Nat.lt_of_lt_of_le (h x hx).2 hb.size⟩
theorem bxs.snoc {w w' : World} {l : List (Nat × Nat)} {m b o : Nat} (h : bxs w l m) (hb : Below w.heap.size w w') (hc : w'.cell? ⟨b, 0, none⟩ = some (.pointer (some ⟨m, o, none⟩))) (hl : b < w'.heap.size) : bxs w' (l ++ [(b, o)]) m := by
  intro x hx
  rcases List.mem_append.1 hx with h1 | h1
  · exact h.below hb x h1
  · obtain rfl : x = (b, o) := by simpa using h1
    exact ⟨hc, hl⟩
def prts (B : Nat) : List Prt := [⟨1, 0, 60, 61, B⟩, ⟨2, 2, 62, 63, B + 2⟩, ⟨3, 0, 64, 65, B + 4⟩, ⟨4, 0, 64, 65, B + 6⟩,
  ⟨5, 2, 62, 63, B + 8⟩, ⟨6, 2, 62, 63, B + 10⟩, ⟨7, 2, 62, 63, B + 12⟩, ⟨8, 2, 62, 63, B + 14⟩]
def pcl (B : Nat) : Array Value := ((prts B).flatMap Prt.cells).toArray
theorem prt_info : (Try.prog.info? 66).map (fun i => (i.zero, i.size)) = some (some (.agg #[.int .i64 0, .int .i64 0, .nilFunc, .nilFunc]), 4) := by kernel_rfl
theorem prt_fill (B : Nat) : Instr.fill (fun i => some (i * 4, 4)) ((Array.range (8 * 4)).map ((Value.agg #[.int .i64 0, .int .i64 0, .nilFunc, .nilFunc]).cells[· % (Value.agg #[.int .i64 0, .int .i64 0, .nilFunc, .nilFunc]).cells.size]!))
    ((prts B).zipIdx.map fun x => (x.2, Value.agg x.1.cells.toArray)) = some (pcl B) := by kernel_rfl
theorem prt_ie : ∃ ie, Try.prog.info? 66 = some ie ∧ ie.zero = some (.agg #[.int .i64 0, .int .i64 0, .nilFunc, .nilFunc]) ∧ ie.size = 4 := by
  have h := prt_info
  cases hi : Try.prog.info? 66 with
  | none => rw [hi] at h; simp at h
  | some ie => rw [hi] at h; simp at h; exact ⟨ie, rfl, h.1, h.2⟩
def PartsPost (m : Nat) (w : World) (e : Ending) (w' : World) : Prop :=
  e = .returned (.slice (some ⟨w.heap.size + 16, 0, none⟩) 8 8) ∧ w'.heap[w.heap.size + 16]? = some (.cells (pcl w.heap.size) 66 (0, 0)) ∧
    bxs w' ((List.range 8).map fun i => (w.heap.size + 2 * i, i)) m ∧ w'.heap.size = w.heap.size + 17 ∧ Below w.heap.size w w'
set_option maxRecDepth 100000 in
set_option maxHeartbeats 4000000 in
theorem parts_any (m : Nat) (w : World) :
    Calls Try.prog 32 #[.pointer (some ⟨m, 0, none⟩)] w (PartsPost m w) := by
  go_enter Try.func32, Try.ntmps32
  go_wp2
  have hW : Below w.heap.size w w.drew := (Below.refl _ w).drew
  have hS : w.drew.heap.size = w.heap.size := rfl
  have hX : bxs w.drew [] m := fun x hx => by cases hx
  refine wp_region_L 34 [0, 1, 2, 4, 5, 6, 8, 9, 10, 12, 13, 14, 16, 17, 18, 20, 21, 22, 24, 25, 26, 28, 29, 30, 3, 7, 11, 15, 19, 23, 27, 31, 32, 33] rfl (by decide) (by decide) (by kernel_rfl) ?_
  simp only [List.filterMap_cons, List.filterMap_nil, List.getElem?_cons_zero, List.getElem?_cons_succ, Option.map_some]
  iterate 24 (
    refine wpL_take (v := ?_) (by kernel_rfl) (by kernel_rfl) (by kernel_rfl) (fun _ _ _ h => h) (by rfl) (fun u hu => ?_) ?_
    rotate_left
    focus
      unfold Grows at hu
      go_simp
      try with_reducible rfl
    simp only [Act.put, List.setIfInBounds_toArray, List.set_cons_zero, List.set_cons_succ])
  iterate 8 (first
    | (refine wpL_do (by kernel_rfl) (by rfl) (fun K hK => ?_); go_simp; go_at_call 45; refine (flag_any _ _ _).mono ?_; rintro e w1 ⟨rfl, hp1, hz1, hB1⟩; replace hX := hX.snoc hB1 hp1 (by omega); replace hW := bel_step hW hB1; rw [hS] at hX ⊢; have hS2 := hz1.trans (congrArg (· + 2) hS); clear hS hz1; have hS := hS2; clear hS2; refine hK _ _ hB1 ?_; clear hK K hB1 hp1)
    | (refine wpL_do (by kernel_rfl) (by rfl) (fun K hK => ?_); go_simp; go_at_call 46; refine (text_any _ _ _).mono ?_; rintro e w1 ⟨rfl, hp1, hz1, hB1⟩; replace hX := hX.snoc hB1 hp1 (by omega); replace hW := bel_step hW hB1; rw [hS] at hX ⊢; have hS2 := hz1.trans (congrArg (· + 2) hS); clear hS hz1; have hS := hS2; clear hS2; refine hK _ _ hB1 ?_; clear hK K hB1 hp1)
    | (refine wpL_do (by kernel_rfl) (by rfl) (fun K hK => ?_); go_simp; go_at_call 47; refine (number_any _ _ _).mono ?_; rintro e w1 ⟨rfl, hp1, hz1, hB1⟩; replace hX := hX.snoc hB1 hp1 (by omega); replace hW := bel_step hW hB1; rw [hS] at hX ⊢; have hS2 := hz1.trans (congrArg (· + 2) hS); clear hS hz1; have hS := hS2; clear hS2; refine hK _ _ hB1 ?_; clear hK K hB1 hp1))
  refine wpL_do (by kernel_rfl) (by rfl) (fun K hK => ?_)
  obtain ⟨ie, hie, hz, hsz⟩ := prt_ie
  have h1 : ¬ 8 * ie.size > 2 ^ 24 := by rw [hsz]; decide
  have h2 : ¬ 8 * ie.size = 0 := by rw [hsz]; decide
  have h3 := prt_fill w.heap.size
  rw [← hsz] at h3
  refine wp_buildSlice 60 66 8 _ rfl (pcl w.heap.size) ie _ Try.underlying60 hie hz h1 h2 ?_ ?_
  · refine Eq.trans (congrArg (Instr.fill _ _) ?_) h3
    first | rfl | kernel_rfl | (simp [prts]; done) | (simp [prts, List.zipIdx]; rfl)
  refine hK _ _ ((Below.refl _ w1).alloc (Nat.le_refl _) _) ?_
  rw [hS]
  simp only [Act.put, List.setIfInBounds_toArray, List.set_cons_zero, List.set_cons_succ]
  have hX2 := hX.below ((Below.refl _ w1).alloc (Nat.le_refl _) (Obj.cells (pcl w.heap.size) 66))
  have hrow := World.alloc_heap_new w1 (Obj.cells (pcl w.heap.size) 66)
  rw [hS] at hrow
  have hWW := hW.alloc hW.size (Obj.cells (pcl w.heap.size) 66)
  have hZ : (w1.alloc (Obj.cells (pcl w.heap.size) 66)).heap.size = w.heap.size + 17 := by simp [hS]
  refine wpL_take (v := ?_) (by kernel_rfl) (by kernel_rfl) (by kernel_rfl) (fun _ _ _ h => h) (by rfl) (fun u hu => ?_) ?_
  rotate_left
  focus
    unfold Grows at hu
    go_simp
    try with_reducible rfl
  simp only [Act.put, List.setIfInBounds_toArray, List.set_cons_zero, List.set_cons_succ]
  refine wpL_done (by kernel_rfl) ?_
  clear hK K h1 h2 h3
  generalize w1.alloc (Obj.cells (pcl w.heap.size) 66) = W at *
  go_wp2
  go_ret
  exact ⟨rfl, hrow, hX2, hZ, hWW⟩
end Go.Proofs.Ytkanhggmhjldmaa
