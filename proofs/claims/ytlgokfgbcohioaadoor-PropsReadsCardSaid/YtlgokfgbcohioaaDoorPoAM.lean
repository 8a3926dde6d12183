/- WALKS: props.number, (*found).take -/
import Derived.Test.YtlgokfgbcohioaaDoorPoPM
import Derived.Test.YtlgokfgbcohioaaDoorK3
import Derived.Test.YtlgokfgbcohioaaDoorDsOcM
import Derived.Test.YtlgokfgbcohioaaDoorK4
import Derived.Test.YtlgokfgbcohioaaDoorDsOd0M
namespace Go.Proofs.YtlgokfgbcohioaaDoor
open Go.RowKit Plain

set_option maxRecDepth 100000 in
theorem number_any (f : Fld) (most : Nat) (w : World) :
    Calls Tryd.prog 119 #[f.agg, .int .u64 most] w fun e w' => e = .returned (.tuple #[.int .u64 ((if pnum f most = 0 then f.val else 0 : Nat) : Int), .int .i64 (pnum f most)]) ∧ Below w.heap.size w w' := by
  obtain ⟨num, kind, val, text⟩ := f
  unfold Fld.agg pnum
  simp only
  have hE := (Below.refl w.heap.size w).alloc (Nat.le_refl _) (Obj.cells #[.int .i64 num, .int .i64 kind, .int .u64 val, .string text] 73)
  by_cases hk : kind = 0
  · subst hk
    by_cases hv : most < val
    · have hb : decide (most < val) = true := decide_eq_true hv
      have e : (if (0 : Int) = 0 then (if most < val then (5 : Int) else 0) else 4) = 5 := by rw [if_pos rfl, if_pos hv]
      rw [e]
      clear e hv
      go_enter Tryd.func119, Tryd.ntmps119
      go_wp2_with fail
      go_ret2
      exact ⟨rfl, hE⟩
    · have hb : decide (most < val) = false := decide_eq_false hv
      have e : (if (0 : Int) = 0 then (if most < val then (5 : Int) else 0) else 4) = 0 := by rw [if_pos rfl, if_neg hv]
      rw [e]
      clear e hv
      go_enter Tryd.func119, Tryd.ntmps119
      go_wp2_with fail
      go_ret2
      exact ⟨rfl, hE⟩
  · have hb : (kind != 0) = true := by simpa using hk
    rw [if_neg hk]
    clear hk
    go_enter Tryd.func119, Tryd.ntmps119
    go_wp2_with fail
    go_ret2
    exact ⟨rfl, hE⟩
/-- the box of a property on its way -/
def FoundAt (W : World) (B : Nat) (key : ByteArray) (s : PSt) : Prop := W.heap[B]? = some (.cells #[.string key, .int .u32 s.type, .bool s.null, .int .i64 s.v.k, .int .u64 s.v.n, .string s.v.s, .slice none 0 0, .string s.set] 158 (0, 0))
section
variable {W W' : World} {B : Nat} {key : ByteArray} {s : PSt}
theorem FoundAt.lt (h : FoundAt W B key s) : B < W.heap.size := (Array.getElem?_eq_some_iff.1 h).1
theorem FoundAt.below (h : FoundAt W B key s) (hb : Below W.heap.size W W') : FoundAt W' B key s := (hb.block B h.lt).trans h
theorem FoundAt.cells (h : FoundAt W B key s) : W.cell? ⟨B, 0, none⟩ = some (.string key) ∧ W.cell? ⟨B, 1, none⟩ = some (.int .u32 s.type) ∧ W.cell? ⟨B, 2, none⟩ = some (.bool s.null) ∧ W.cell? ⟨B, 3, none⟩ = some (.int .i64 s.v.k) ∧ W.cell? ⟨B, 4, none⟩ = some (.int .u64 s.v.n) ∧ W.cell? ⟨B, 5, none⟩ = some (.string s.v.s) ∧ W.cell? ⟨B, 6, none⟩ = some (.slice none 0 0) ∧ W.cell? ⟨B, 7, none⟩ = some (.string s.set) := by
  refine ⟨?_, ?_, ?_, ?_, ?_, ?_, ?_, ?_⟩ <;> (simp only [World.cell?, show W.heap[B]? = _ from h]; rfl)
theorem FoundAt.frozen (h : FoundAt W B key s) (i : Nat) : W.frozen? ⟨B, i, none⟩ = false := by simp [World.frozen?, show W.heap[B]? = _ from h]
theorem FoundAt.set1 (h : FoundAt W B key s) (t : Nat) : FoundAt (W.setCell ⟨B, 1, none⟩ (.int .u32 t)) B key ⟨t, s.null, s.v, s.set⟩ := heap_setCell_same W B 1 _ _ _ h
theorem FoundAt.set2 (h : FoundAt W B key s) (t : Bool) : FoundAt (W.setCell ⟨B, 2, none⟩ (.bool t)) B key ⟨s.type, t, s.v, s.set⟩ := heap_setCell_same W B 2 _ _ _ h
theorem FoundAt.setV (h : FoundAt W B key s) (v : VV) : FoundAt (((W.setCell ⟨B, 3, none⟩ (.int .i64 v.k)).setCell ⟨B, 4, none⟩ (.int .u64 v.n)).setCell ⟨B, 5, none⟩ (.string v.s)) B key ⟨s.type, s.null, v, s.set⟩ :=
  heap_setCell_same _ B 5 _ _ _ (heap_setCell_same _ B 4 _ _ _ (heap_setCell_same W B 3 _ _ _ h))
theorem FoundAt.setT (h : FoundAt W B key s) (t : ByteArray) : FoundAt (W.setCell ⟨B, 7, none⟩ (.string t)) B key ⟨s.type, s.null, s.v, t⟩ := heap_setCell_same W B 7 _ _ _ h
theorem FoundAt.alloc (h : FoundAt W B key s) (o : Obj) : FoundAt (W.alloc o) B key s := (Below.heap_alloc W o B h.lt).trans h
end
set_option maxRecDepth 100000 in
set_option maxHeartbeats 4000000 in
theorem take_any (f : Fld) (B : Nat) (key : ByteArray) (s : PSt) (hf : FldRd f) (w : World) (hB : FoundAt w B key s) (hK : Kinds w) :
    Calls Tryd.prog 107 #[.pointer (some ⟨B, 0, none⟩), f.agg] w fun e w' => e = .returned (.int .i64 (ptake f s).2) ∧ ((ptake f s).2 = 0 → FoundAt w' B key (ptake f s).1) ∧ Below B w w' := by
  obtain ⟨q, hq⟩ : ∃ q, ptake f s = q := ⟨_, rfl⟩
  rw [hq]
  unfold ptake at hq
  have hE0 := (Below.refl w.heap.size w).alloc (Nat.le_refl _) (Obj.cells #[.int .i64 f.num, .int .i64 f.kind, .int .u64 f.val, .string f.text] 73)
  have hF0 := hB.alloc (Obj.cells #[.int .i64 f.num, .int .i64 f.kind, .int .u64 f.val, .string f.text] 73)
  have hlt := hB.lt
  have hX0 : (w.alloc (Obj.cells #[.int .i64 f.num, .int .i64 f.kind, .int .u64 f.val, .string f.text] 73)).heap[w.heap.size]? = some (.cells #[.int .i64 f.num, .int .i64 f.kind, .int .u64 f.val, .string f.text] 73 (0, 0)) := World.alloc_heap_new w _
  have hl0 : w.heap.size < (w.alloc (Obj.cells #[.int .i64 f.num, .int .i64 f.kind, .int .u64 f.val, .string f.text] 73)).heap.size := by simp
  have hK0 := hK.below hE0 hK.pos
  by_cases n1 : f.num = 1
  · rw [if_pos n1] at hq
    have hnu := fun W => number_any f 4294967295 W
    have hok := fun h : pnum f 4294967295 = 0 => (pnum_ok h).2
    obtain ⟨num, kind, val, text⟩ := f
    unfold Fld.agg at hnu ⊢
    simp only at n1 hnu hok hE0 hF0 hX0 hl0 hK0 hq ⊢
    subst n1
    obtain ⟨pe, hpe⟩ : ∃ e, pnum ⟨1, kind, val, text⟩ 4294967295 = e := ⟨_, rfl⟩
    rw [hpe] at hnu hok hq
    obtain ⟨nv, hnv⟩ : ∃ n, (if pe = 0 then val else 0 : Nat) = n := ⟨_, rfl⟩
    rw [hnv] at hnu hq
    have hnb : nv < 4294967296 := by
      rw [← hnv]
      by_cases h0 : pe = 0
      · rw [if_pos h0]; have := hok h0; omega
      · rw [if_neg h0]; omega
    subst hq
    clear hpe hnv hok hB hK0 hX0 hl0
    go_enter Tryd.func107, Tryd.ntmps107
    go_wp2_with fail
    refine (hnu _).mono ?_
    rintro e w1 ⟨rfl, hB1⟩
    have hF1 := hF0.below hB1
    have hW1 := bel_step' hE0 (Nat.le_refl _) hB1
    obtain ⟨c0, c1, c2, c3, c4, c5, c6, c7⟩ := hF1.cells
    have y1 := hF1.frozen 1
    clear hnu hB1 hE0 hF0
    go_wp2_with fail
    go_ret
    exact ⟨rfl, fun _ => hF1.set1 nv, (hW1.mono (Nat.le_of_lt hlt)).setCell (p := ⟨B, 1, none⟩) (Nat.le_refl _) _⟩
  rw [if_neg n1] at hq
  have b1 : (f.num == 1) = false := by simpa using n1
  by_cases n2 : f.num = 2
  · rw [if_pos n2] at hq
    have hnu := fun W => number_any f 1 W
    obtain ⟨num, kind, val, text⟩ := f
    unfold Fld.agg at hnu ⊢
    simp only at n2 hnu hE0 hF0 hX0 hl0 hK0 hq ⊢
    subst n2
    obtain ⟨pe, hpe⟩ : ∃ e, pnum ⟨2, kind, val, text⟩ 1 = e := ⟨_, rfl⟩
    rw [hpe] at hnu hq
    obtain ⟨nv, hnv⟩ : ∃ n, (if pe = 0 then val else 0 : Nat) = n := ⟨_, rfl⟩
    rw [hnv] at hnu
    have hbb : (if pe = 0 then val == 1 else false) = ((nv : Int) == 1) := by
      rw [← hnv]
      by_cases h0 : pe = 0
      · rw [if_pos h0, if_pos h0, Bool.eq_iff_iff]; simp; omega
      · rw [if_neg h0, if_neg h0]; rfl
    rw [hbb] at hq
    subst hq
    clear hpe hnv hbb hB hK0 hX0 hl0 b1 n1
    go_enter Tryd.func107, Tryd.ntmps107
    go_wp2_with fail
    refine (hnu _).mono ?_
    rintro e w1 ⟨rfl, hB1⟩
    have hF1 := hF0.below hB1
    have hW1 := bel_step' hE0 (Nat.le_refl _) hB1
    obtain ⟨c0, c1, c2, c3, c4, c5, c6, c7⟩ := hF1.cells
    have y1 := hF1.frozen 2
    clear hnu hB1 hE0 hF0
    go_wp2_with fail
    go_ret
    exact ⟨rfl, fun _ => hF1.set2 _, (hW1.mono (Nat.le_of_lt hlt)).setCell (p := ⟨B, 2, none⟩) (Nat.le_refl _) _⟩
  rw [if_neg n2] at hq
  have b2 : (f.num == 2) = false := by simpa using n2
  by_cases n9 : f.num = 9
  · rw [if_pos n9] at hq
    obtain ⟨num, kind, val, text⟩ := f
    unfold Fld.agg
    simp only at n9 hE0 hF0 hX0 hl0 hK0 hq ⊢
    subst n9
    by_cases hk : kind = 2
    rotate_left
    · rw [if_neg hk] at hq
      have hb : (kind != 2) = true := by simpa using hk
      subst hq
      clear hk hB hK0 hX0 hl0 b1 n1 b2 n2
      go_enter Tryd.func107, Tryd.ntmps107
      go_wp2_with fail
      go_ret
      exact ⟨rfl, fun h => absurd h (by simp), hE0.mono (Nat.le_of_lt hlt)⟩
    · rw [if_pos hk] at hq
      subst hk
      subst hq
      clear hB hK0 b1 n1 b2 n2
      go_enter Tryd.func107, Tryd.ntmps107
      go_wp2_with fail
      have hF1 : FoundAt (w.alloc (Obj.cells #[.int .i64 9, .int .i64 2, .int .u64 val, .string text] 73)).drew B key s := hF0
      have hE2 : Below B w (w.alloc (Obj.cells #[.int .i64 9, .int .i64 2, .int .u64 val, .string text] 73)).drew := (hE0.mono (Nat.le_of_lt hlt)).drew
      have hX1 : (w.alloc (Obj.cells #[.int .i64 9, .int .i64 2, .int .u64 val, .string text] 73)).drew.heap[w.heap.size]? = some (.cells #[.int .i64 9, .int .i64 2, .int .u64 val, .string text] 73 (0, 0)) := hX0
      refine wp_region_LG (belB B) 12 [0, 1, 2, 3, 5, 6, 7, 4, 8, 9, 10, 11] rfl (by decide) (by decide) (by kernel_rfl) ?_
      clear hF0 hE0 hX0 hl0
      generalize (w.alloc (Obj.cells #[.int .i64 9, .int .i64 2, .int .u64 val, .string text] 73)).drew = W2 at *
      have t3 : W2.cell? ⟨w.heap.size, 3, none⟩ = some (.string text) := by simp only [World.cell?, hX1]; rfl
      have hne : B ≠ w.heap.size := Nat.ne_of_lt hlt
      obtain ⟨c0, c1, c2, c3, c4, c5, c6, c7⟩ := hF1.cells
      have y3 := hF1.frozen 3
      have y4 := hF1.frozen 4
      have y5 := hF1.frozen 5
      have y7b := hF1.frozen 7
      have hF2 : FoundAt (((W2.setCell ⟨B, 3, none⟩ (.int .i64 8)).setCell ⟨B, 4, none⟩ (.int .u64 0)).setCell ⟨B, 5, none⟩ (.string ⟨#[]⟩)) B key ⟨s.type, s.null, ⟨8, 0, ⟨#[]⟩⟩, s.set⟩ := hF1.setV ⟨8, 0, ⟨#[]⟩⟩
      have hF3 := hF2.setT text
      have hst := below_set3v (a := 3) (b := 4) (c := 5) (Below.refl B W2) (Nat.le_refl B) (.int .i64 8) (.int .u64 0) (.string ⟨#[]⟩)
      have t3b : (((W2.setCell ⟨B, 3, none⟩ (.int .i64 8)).setCell ⟨B, 4, none⟩ (.int .u64 0)).setCell ⟨B, 5, none⟩ (.string ⟨#[]⟩)).cell? ⟨w.heap.size, 3, none⟩ = some (.string text) := by
        rw [World.cell?_setCell_other _ _ _ _ (fun e => hne (by injection e)), World.cell?_setCell_other _ _ _ _ (fun e => hne (by injection e)), World.cell?_setCell_other _ _ _ _ (fun e => hne (by injection e))]; exact t3
      obtain ⟨_, _, _, _, _, _, _, d7⟩ := hF2.cells
      have y7 := hF2.frozen 7
      have hst2 : Below B (((W2.setCell ⟨B, 3, none⟩ (.int .i64 8)).setCell ⟨B, 4, none⟩ (.int .u64 0)).setCell ⟨B, 5, none⟩ (.string ⟨#[]⟩)) ((((W2.setCell ⟨B, 3, none⟩ (.int .i64 8)).setCell ⟨B, 4, none⟩ (.int .u64 0)).setCell ⟨B, 5, none⟩ (.string ⟨#[]⟩)).setCell ⟨B, 7, none⟩ (.string text)) := (Below.refl B _).setCell (p := ⟨B, 7, none⟩) (Nat.le_refl _) _
      simp only [List.filterMap_cons, List.filterMap_nil, List.getElem?_cons_zero, List.getElem?_cons_succ, Option.map_some]
      refine wpL_takeG _ (v := ?_) (by kernel_rfl) (by kernel_rfl) (by kernel_rfl) (fun _ _ _ h => h) (by rfl) (fun u hu => ?_) ?_
      rotate_left
      focus
        go_simp
        try with_reducible rfl
      simp only [Act.put, List.setIfInBounds_toArray, List.set_cons_zero, List.set_cons_succ]
      refine wpL_takeG _ (v := ?_) (by kernel_rfl) (by kernel_rfl) (by kernel_rfl) (fun _ _ _ h => h) (by rfl) (fun u hu => ?_) ?_
      rotate_left
      focus
        go_simp
        try with_reducible rfl
      simp only [Act.put, List.setIfInBounds_toArray, List.set_cons_zero, List.set_cons_succ]
      refine wpL_takeG _ (v := ?_) (by kernel_rfl) (by kernel_rfl) (by kernel_rfl) (fun _ _ _ h => h) (by rfl) (fun u hu => ?_) ?_
      rotate_left
      focus
        go_simp
        try with_reducible rfl
      simp only [Act.put, List.setIfInBounds_toArray, List.set_cons_zero, List.set_cons_succ]
      refine wpL_takeG _ (v := ?_) (by kernel_rfl) (by kernel_rfl) (by kernel_rfl) (fun _ _ _ h => h) (by rfl) (fun u hu => ?_) ?_
      rotate_left
      focus
        go_simp
        try with_reducible rfl
      simp only [Act.put, List.setIfInBounds_toArray, List.set_cons_zero, List.set_cons_succ]
      refine wpL_takeG _ (v := ?_) (by kernel_rfl) (by kernel_rfl) (by kernel_rfl) (fun _ _ _ h => h) (by rfl) (fun u hu => ?_) ?_
      rotate_left
      focus
        go_simp
        try with_reducible rfl
      simp only [Act.put, List.setIfInBounds_toArray, List.set_cons_zero, List.set_cons_succ]
      refine wpL_takeG _ (v := ?_) (by kernel_rfl) (by kernel_rfl) (by kernel_rfl) (fun _ _ _ h => h) (by rfl) (fun u hu => ?_) ?_
      rotate_left
      focus
        go_simp
        try with_reducible rfl
      simp only [Act.put, List.setIfInBounds_toArray, List.set_cons_zero, List.set_cons_succ]
      refine wpL_takeG _ (v := ?_) (by kernel_rfl) (by kernel_rfl) (by kernel_rfl) (fun _ _ _ h => h) (by rfl) (fun u hu => ?_) ?_
      rotate_left
      focus
        go_simp
        try with_reducible rfl
      simp only [Act.put, List.setIfInBounds_toArray, List.set_cons_zero, List.set_cons_succ]
      refine wpL_do2G _ (by kernel_rfl) (by rfl) (by rfl) (fun K hK => ?_) (fun K hK => ?_)
      · go_simp
        refine hK _ _ (Below.refl _ _) ?_
        clear hK K
        refine wpL_doG _ (by kernel_rfl) (by rfl) (fun K hK => ?_)
        go_simp
        refine hK _ _ hst ?_
        clear hK K
        refine wpL_takeG _ (v := ?_) (by kernel_rfl) (by kernel_rfl) (by kernel_rfl) (fun _ _ _ h => h) (by rfl) (fun u hu => ?_) ?_
        rotate_left
        focus
          go_simp
          try with_reducible rfl
        simp only [Act.put, List.setIfInBounds_toArray, List.set_cons_zero, List.set_cons_succ]
        refine wpL_takeG _ (v := ?_) (by kernel_rfl) (by kernel_rfl) (by kernel_rfl) (fun _ _ _ h => h) (by rfl) (fun u hu => ?_) ?_
        rotate_left
        focus
          go_simp
          try with_reducible rfl
        simp only [Act.put, List.setIfInBounds_toArray, List.set_cons_zero, List.set_cons_succ]
        refine wpL_doG _ (by kernel_rfl) (by rfl) (fun K hK => ?_)
        go_simp
        refine hK _ _ hst2 ?_
        clear hK K
        refine wpL_doneG _ (by kernel_rfl) ?_
        go_wp2_with fail
        go_ret
        exact ⟨rfl, by first | exact hF3 | exact fun _ => hF3, (hE2.trans hst).trans hst2⟩
      · go_simp
        refine hK _ _ hst ?_
        clear hK K
        refine wpL_doG _ (by kernel_rfl) (by rfl) (fun K hK => ?_)
        go_simp
        refine hK _ _ (Below.refl _ _) ?_
        clear hK K
        refine wpL_takeG _ (v := ?_) (by kernel_rfl) (by kernel_rfl) (by kernel_rfl) (fun _ _ _ h => h) (by rfl) (fun u hu => ?_) ?_
        rotate_left
        focus
          go_simp
          try with_reducible rfl
        simp only [Act.put, List.setIfInBounds_toArray, List.set_cons_zero, List.set_cons_succ]
        refine wpL_takeG _ (v := ?_) (by kernel_rfl) (by kernel_rfl) (by kernel_rfl) (fun _ _ _ h => h) (by rfl) (fun u hu => ?_) ?_
        rotate_left
        focus
          go_simp
          try with_reducible rfl
        simp only [Act.put, List.setIfInBounds_toArray, List.set_cons_zero, List.set_cons_succ]
        refine wpL_doG _ (by kernel_rfl) (by rfl) (fun K hK => ?_)
        go_simp
        refine hK _ _ hst2 ?_
        clear hK K
        refine wpL_doneG _ (by kernel_rfl) ?_
        go_wp2_with fail
        go_ret
        exact ⟨rfl, by first | exact hF3 | exact fun _ => hF3, (hE2.trans hst).trans hst2⟩
  rw [if_neg n9] at hq
  have b9 : (f.num == 9) = false := by simpa using n9
  by_cases n38 : 3 ≤ f.num ∧ f.num ≤ 8
  · rw [if_pos n38] at hq
    have hn3 : decide (3 ≤ f.num) = true := decide_eq_true n38.1
    have hn8 : decide (f.num ≤ 8) = true := decide_eq_true n38.2
    have hv := fun W hr hk => vof_any [f] (some ⟨w.heap.size + 1, 0, none⟩) 1 3 false (by simp) (fun g hg => by obtain rfl : g = f := (by simpa using hg); exact ⟨by have := hf.1; omega, by have := hf.2.1; omega, hf.2.2.2.2.1⟩) W hr hk
    have hr1 : ∀ W : World, Rd (W.alloc (Obj.cells #[.int .i64 f.num, .int .i64 f.kind, .int .u64 f.val, .string f.text] 73)) (W.heap.size + 1) (some ⟨W.heap.size, 0, none⟩) (flc [f]) := fun W => Rd.cells W #[.int .i64 f.num, .int .i64 f.kind, .int .u64 f.val, .string f.text] 73
    obtain ⟨⟨⟨vk, vn, vs⟩, ve⟩, hvq⟩ : ∃ d, vof 3 false [f] = d := ⟨_, rfl⟩
    rw [hvq] at hv hq
    unfold VV.cells at hv
    simp only [List.length_cons, List.length_nil] at hv hq
    have hr2 := hr1 (w.alloc (Obj.cells #[.int .i64 f.num, .int .i64 f.kind, .int .u64 f.val, .string f.text] 73))
    obtain ⟨num, kind, val, text⟩ := f
    unfold Fld.agg
    simp only at hE0 hF0 hX0 hl0 hK0 hr2 b1 b2 b9 hn3 hn8 hv ⊢
    subst hq
    have hF1 := hF0.alloc (Obj.cells #[.int .i64 num, .int .i64 kind, .int .u64 val, .string text] 73)
    have hE1 := hE0.alloc hE0.size (Obj.cells #[.int .i64 num, .int .i64 kind, .int .u64 val, .string text] 73)
    have hcall := hv ((w.alloc (Obj.cells #[.int .i64 num, .int .i64 kind, .int .u64 val, .string text] 73)).alloc (Obj.cells #[.int .i64 num, .int .i64 kind, .int .u64 val, .string text] 73)) (by simpa using hr2) (hK.below hE1 hK.pos)
    clear n1 n2 n9 n38 hvq hv hr1 hr2 hB hK0 hE0 hF0 hX0 hl0 hK
    go_enter Tryd.func107, Tryd.ntmps107
    go_wp2_with fail
    refine hcall.mono ?_
    rintro e w1 ⟨rfl, hB1⟩
    have hF2 := hF1.below hB1
    have hW1 := bel_step hE1 hB1
    obtain ⟨c0, c1, c2, c3, c4, c5, c6, c7⟩ := hF2.cells
    have y3 := hF2.frozen 3
    have y4 := hF2.frozen 4
    have y5 := hF2.frozen 5
    clear hcall hB1 hE1 hF1
    go_wp2_with fail
    go_ret
    exact ⟨rfl, fun _ => hF2.setV ⟨vk, vn, vs⟩, below_set3v (hW1.mono (Nat.le_of_lt hlt)) (Nat.le_refl _) _ _ _⟩
  · rw [if_neg n38] at hq
    have h10 : 9 < f.num := by have := hf.1; omega
    have hn3 : decide (3 ≤ f.num) = true := decide_eq_true (by omega)
    have hn8 : decide (f.num ≤ 8) = false := decide_eq_false (by omega)
    obtain ⟨num, kind, val, text⟩ := f
    unfold Fld.agg
    simp only at hE0 hF0 b1 b2 b9 hn3 hn8 ⊢
    subst hq
    clear n1 n2 n9 n38 h10 hf hK0 hX0 hl0 hB
    go_enter Tryd.func107, Tryd.ntmps107
    go_wp2_with fail
    go_ret
    exact ⟨rfl, fun _ => hF0, hE0.mono (Nat.le_of_lt hlt)⟩
end Go.Proofs.YtlgokfgbcohioaaDoor
