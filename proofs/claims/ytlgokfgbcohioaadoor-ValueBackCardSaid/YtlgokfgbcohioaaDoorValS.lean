/- WALKS: the reference's Put of values. -/
import Derived.Test.YtlgokfgbcohioaaDoorValP
import Derived.Test.YtlgokfgbcohioaaDoorRegion
namespace Go.Proofs.YtlgokfgbcohioaaDoor
open Go.RowKit Plain

theorem boxU {w w1 : World} {k : Int} {n : Nat} {s : ByteArray} (c0 : w1.cell? ⟨w.heap.size, 0, none⟩ = some (.int .i64 k)) (c1 : w1.cell? ⟨w.heap.size, 1, none⟩ = some (.int .u64 n)) (c2 : w1.cell? ⟨w.heap.size, 2, none⟩ = some (.string s)) :
    (∀ u, Below w1.drew.heap.size w1.drew u → u.cell? ⟨w.heap.size, 0, none⟩ = some (.int .i64 k)) ∧ (∀ u, Below w1.drew.heap.size w1.drew u → u.cell? ⟨w.heap.size, 1, none⟩ = some (.int .u64 n)) ∧ (∀ u, Below w1.drew.heap.size w1.drew u → u.cell? ⟨w.heap.size, 2, none⟩ = some (.string s)) :=
  ⟨fun _ h => (h.cell (World.block_lt_of_cell? w1 _ c0)).trans c0, fun _ h => (h.cell (World.block_lt_of_cell? w1 _ c1)).trans c1, fun _ h => (h.cell (World.block_lt_of_cell? w1 _ c2)).trans c2⟩
set_option maxHeartbeats 1000000 in
theorem rvalput_any (k : Int) (n : Nat) (s : ByteArray) (base : Int) (raw : Bool) (hn : n < 18446744073709551616) (w : World) :
    Calls Tryd.prog 70 #[.agg #[.int .i64 k, .int .u64 n, .string s], .int .i64 base, .bool raw] w fun e w' => PutPost k n s base raw w e w' := by
  by_cases hb : 1 ≤ base ∧ base ≤ 1000
  · have hv : verr k n s.toList.isEmpty base raw = (if vright k n s.toList.isEmpty = 0 then (if k = 7 ∧ raw = false then 11 else 0) else vright k n s.toList.isEmpty) := by unfold verr; rw [if_pos hb]
    have HV := Lib.hid hv
    obtain ⟨hb10, hb11⟩ := hb
    clear hv
    go_enter Tryd.func70, Tryd.ntmps70
    go_wp2_with fail
    refine (rright_any _ _ _ hn _).mono ?_
    rintro e w1 ⟨rfl, hB1⟩
    obtain ⟨c0, c1, c2, hB⟩ := boxV1 hB1
    clear hB1
    by_cases hr : vright k n s.toList.isEmpty = 0
    · have hkb := vright_bd hr
      have HR := Lib.hid hr
      rw [hr]
      clear hr
      by_cases hk7 : k = 7 ∧ raw = false
      · obtain ⟨rfl, rfl⟩ := hk7
        go_wp2_with fail
        go_ret2
        exact putPost_none (by rw [HV.out, if_pos HR.out]; simp) (.inl (by omega)) hB
      by_cases hk0 : k = 0
      · subst hk0
        go_wp2_with fail
        go_ret2
        exact putPost_none (by rw [HV.out, if_pos HR.out]; simp) (.inr rfl) hB
      have hend : ∀ w' : World, Below w.heap.size w w' → PutPost k n s base raw w (.returned (.tuple #[.slice (some ⟨w'.heap.size, 0, none⟩) 1 1, .int .i64 0])) (w'.alloc (.cells #[.int .i64 (base + k - 1), .int .i64 (vkind k), .int .u64 n, .string s] 73)) :=
        fun w' h => putPost_one (by rw [HV.out, if_pos HR.out, if_neg hk7]) hk0 h _
      have hk0' : (k == 0) = false := by simpa using hk0
      have hw1 : IntKind.i64.wrap (base + k) = base + k := by simp only [IntKind.wrap_i64]; omega
      have hw2 : IntKind.i64.wrap (base + k - 1) = base + k - 1 := by simp only [IntKind.wrap_i64]; omega
      obtain ⟨hkb0, hkb1⟩ := hkb
      have HE := Lib.hid hend
      have hB5 : Below w.heap.size w w1.drew := hB.drew
      by_cases hk7' : k = 7
      · have b7 : (k == 7) = true := by simpa using hk7'
        obtain rfl : raw = true := by cases raw <;> simp_all
        clear hend hk7 hk0 hk7'
        go_wp2_with fail
        obtain ⟨d0, d1, d2⟩ := boxU c0 c1 c2
        clear c0 c1 c2
        refine wp_region_L 16 [0, 1, 2, 3, 4, 5, 6, 8, 9, 10, 11, 7, 12, 13, 14, 15] rfl (by decide) (by decide) (by kernel_rfl) ?_
        generalize w1.drew = w5 at *
        clear hB
        simp only [List.filterMap_cons, List.filterMap_nil, List.getElem?_cons_zero, List.getElem?_cons_succ, Option.map_some]
        repeat (first
          | (refine wpL_take (v := ?_) (by kernel_rfl) (by kernel_rfl) (by kernel_rfl) (fun _ _ _ h => h) (by rfl) (fun u hu => ?_) ?_
             rotate_left
             focus
               unfold Grows at hu
               go_simp
               try with_reducible rfl
             simp only [Act.put, List.setIfInBounds_toArray, List.set_cons_zero, List.set_cons_succ])
          | (refine wpL_pass (by kernel_rfl) (by kernel_rfl) (by kernel_rfl) (fun _ _ _ h => h) (by rfl) ?_; simp only [Act.put, List.setIfInBounds_toArray, List.set_cons_zero, List.set_cons_succ])
          | (refine wpL_do (by kernel_rfl) (by rfl) (fun K hK => ?_); go_simp; go_at_call 98; refine (kind_any _ _).mono ?_; rintro e w2 ⟨rfl, rfl⟩; refine hK _ _ (Below.refl _ _) ?_; clear hK K)
          | (refine wpL_do (by kernel_rfl) (by rfl) (fun K hK => ?_); go_simp; refine hK _ _ ((Below.refl _ _).alloc (Nat.le_refl _) _) ?_; clear hK K))
        refine wpL_done (by kernel_rfl) ?_
        go_wp2_with fail
        go_ret2
        exact HE.out _ hB5
      · have b7 : (k == 7) = false := by simpa using hk7'
        clear hend hk7 hk0 hk7'
        go_wp2_with fail
        obtain ⟨d0, d1, d2⟩ := boxU c0 c1 c2
        clear c0 c1 c2
        refine wp_region_L 16 [0, 1, 2, 3, 4, 5, 6, 8, 9, 10, 11, 7, 12, 13, 14, 15] rfl (by decide) (by decide) (by kernel_rfl) ?_
        generalize w1.drew = w5 at *
        clear hB
        simp only [List.filterMap_cons, List.filterMap_nil, List.getElem?_cons_zero, List.getElem?_cons_succ, Option.map_some]
        repeat (first
          | (refine wpL_take (v := ?_) (by kernel_rfl) (by kernel_rfl) (by kernel_rfl) (fun _ _ _ h => h) (by rfl) (fun u hu => ?_) ?_
             rotate_left
             focus
               unfold Grows at hu
               go_simp
               try with_reducible rfl
             simp only [Act.put, List.setIfInBounds_toArray, List.set_cons_zero, List.set_cons_succ])
          | (refine wpL_pass (by kernel_rfl) (by kernel_rfl) (by kernel_rfl) (fun _ _ _ h => h) (by rfl) ?_; simp only [Act.put, List.setIfInBounds_toArray, List.set_cons_zero, List.set_cons_succ])
          | (refine wpL_do (by kernel_rfl) (by rfl) (fun K hK => ?_); go_simp; go_at_call 98; refine (kind_any _ _).mono ?_; rintro e w2 ⟨rfl, rfl⟩; refine hK _ _ (Below.refl _ _) ?_; clear hK K)
          | (refine wpL_do (by kernel_rfl) (by rfl) (fun K hK => ?_); go_simp; refine hK _ _ ((Below.refl _ _).alloc (Nat.le_refl _) _) ?_; clear hK K))
        refine wpL_done (by kernel_rfl) ?_
        go_wp2_with fail
        go_ret2
        exact HE.out _ hB5
    · have hr' : (vright k n s.toList.isEmpty != 0) = true := by simpa using hr
      have HR := Lib.hid hr
      clear hr
      go_wp2_with fail
      go_ret2
      exact putPost_none (by rw [HV.out, if_neg HR.out]) (.inl HR.out) hB
  · have hv : verr k n s.toList.isEmpty base raw = 1 := by unfold verr; rw [if_neg hb]
    have HV := Lib.hid hv
    clear hv
    have hB2 : Below w.heap.size w (w.alloc (Obj.cells #[Value.int IntKind.i64 k, Value.int IntKind.u64 n, Value.string s] 42)) := (Below.refl _ _).alloc (Nat.le_refl _) _
    by_cases h1 : base < 1
    · clear hb
      go_enter Tryd.func70, Tryd.ntmps70
      go_wp2_with fail
      go_ret2
      exact putPost_none HV.out (.inl (by omega)) hB2
    · have h2 : 1000 < base := by omega
      clear hb
      go_enter Tryd.func70, Tryd.ntmps70
      go_wp2_with fail
      go_ret2
      exact putPost_none HV.out (.inl (by omega)) hB2
end Go.Proofs.YtlgokfgbcohioaaDoor
