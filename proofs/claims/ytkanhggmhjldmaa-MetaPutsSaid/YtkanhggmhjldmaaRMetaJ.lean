/- WALK: the reference's Put and Joined of layer 6 -/
import Derived.Test.YtkanhggmhjldmaaRMetaF
import Derived.Test.YtkanhggmhjldmaaRegionG
namespace Go.Proofs.Ytkanhggmhjldmaa
open Go.RowKit Plain

theorem rmput_any (m : MM) (hm : MOk m) (w : World) : Calls Try.prog 13 #[.agg m.cells] w (PutsPost (mfields m) w) := by
  have hlen := mfields_len m
  have hok := mfields_ok hm
  obtain ⟨m1, m2, m3, m4, m5, m6, m7, m8⟩ := m
  unfold MM.cells
  go_enter Try.func13, Try.ntmps13
  go_wp2_with fail
  refine (rfields_any ⟨m1, m2, m3, m4, m5, m6, m7, m8⟩ _).mono ?_
  rintro e w1 ⟨A, c, rfl, hown, hB⟩
  go_wp2_with fail
  refine (rputs_any _ A c (by omega) hok w1 (Rd.of_own hown)).mono ?_
  rintro e w2 ⟨A2, c2, rfl, ho2, hB2⟩
  go_wp2_with fail
  go_ret2
  have hB0 : Below w.heap.size w w1 := ((Below.refl _ w).alloc (Nat.le_refl _) _).trans (hB.mono (by simp))
  exact ⟨A2, c2, rfl, own_base ho2 hB0.size, bel_step hB0 hB2⟩
theorem later_any (a b : ByteArray) (w : World) : Calls Try.prog 33 #[.string a, .string b] w fun e w' => e = .returned (.string (mpick a b)) ∧ w = w' := by
  unfold mpick
  cases h : b.toList.isEmpty
  all_goals go_enter Try.func33, Try.ntmps33
  all_goals go_wp2
  all_goals go_ret
  all_goals exact ⟨rfl, rfl⟩
theorem number6_any (a b : Nat) (w : World) : Calls Try.prog 34 #[.int .u64 a, .int .u64 b] w fun e w' => e = .returned (.int .u64 (npick a b : Nat)) ∧ w = w' := by
  unfold npick
  by_cases h : b = 0
  · subst h
    go_enter Try.func34, Try.ntmps34
    go_wp2
    go_ret
    exact ⟨rfl, rfl⟩
  · have hb : ((b : Int) != 0) = true := by simp; omega
    rw [if_neg h]
    clear h
    go_enter Try.func34, Try.ntmps34
    go_wp2
    go_ret
    exact ⟨rfl, rfl⟩
theorem grown_set (W : World) (R i : Nat) (v : Value) : W.grownBy (W.setCell ⟨R, i, none⟩ v) (some R) := by
  have h := (Below.refl 0 W).setCell (p := ⟨R, i, none⟩) (Nat.zero_le _) v
  exact ⟨h.os, h.tape, h.output, h.size, fun k _ hne => heap_setCell_other _ _ k _ (fun e => hne (by rw [e]))⟩
def besides (R : Nat) : Rel := ⟨fun w w' => w.grownBy w' (some R), fun w => World.grownBy.refl w _, fun h k => h.trans k⟩
set_option maxRecDepth 100000 in
set_option maxHeartbeats 4000000 in
theorem rmjoined_any (a b : MM) (w : World) : Calls Try.prog 15 #[.agg a.cells, .agg b.cells] w fun e w' => e = .returned (.agg (mjoin a b).cells) ∧ Below w.heap.size w w' := by
  obtain ⟨a1, a2, a3, a4, a5, a6, a7, a8⟩ := a
  obtain ⟨b1, b2, b3, b4, b5, b6, b7, b8⟩ := b
  unfold mjoin MM.cells
  cases a1
  all_goals go_enter Try.func15, Try.ntmps15
  all_goals go_wp2_with fail
  · generalize hW0 : ((w.alloc (Obj.cells #[.bool false, .string a2, .int .u64 a3, .int .u64 a4, .string a5, .string a6, .string a7, .string a8] 24)).alloc (Obj.cells #[.bool b1, .string b2, .int .u64 b3, .int .u64 b4, .string b5, .string b6, .string b7, .string b8] 24)).alloc (Obj.cells #[.bool false, .string ⟨#[]⟩, .int .u64 0, .int .u64 0, .string ⟨#[]⟩, .string ⟨#[]⟩, .string ⟨#[]⟩, .string ⟨#[]⟩] 24) = W0
    have hA : W0.heap[w.heap.size]? = some (.cells #[.bool false, .string a2, .int .u64 a3, .int .u64 a4, .string a5, .string a6, .string a7, .string a8] 24 (0, 0)) := by rw [← hW0, Below.heap_alloc _ _ _ (by simp; omega), Below.heap_alloc _ _ _ (by simp)]; exact World.alloc_heap_new w _
    have hBb : W0.heap[w.heap.size + 1]? = some (.cells #[.bool b1, .string b2, .int .u64 b3, .int .u64 b4, .string b5, .string b6, .string b7, .string b8] 24 (0, 0)) := by rw [← hW0, Below.heap_alloc _ _ _ (by simp)]; have := World.alloc_heap_new (w.alloc (Obj.cells #[.bool false, .string a2, .int .u64 a3, .int .u64 a4, .string a5, .string a6, .string a7, .string a8] 24)) (Obj.cells #[.bool b1, .string b2, .int .u64 b3, .int .u64 b4, .string b5, .string b6, .string b7, .string b8] 24); rw [World.size_alloc] at this; exact this
    have hC : W0.heap[w.heap.size + 1 + 1]? = some (.cells #[.bool false, .string ⟨#[]⟩, .int .u64 0, .int .u64 0, .string ⟨#[]⟩, .string ⟨#[]⟩, .string ⟨#[]⟩, .string ⟨#[]⟩] 24 (0, 0)) := by rw [← hW0]; have := World.alloc_heap_new ((w.alloc (Obj.cells #[.bool false, .string a2, .int .u64 a3, .int .u64 a4, .string a5, .string a6, .string a7, .string a8] 24)).alloc (Obj.cells #[.bool b1, .string b2, .int .u64 b3, .int .u64 b4, .string b5, .string b6, .string b7, .string b8] 24)) (Obj.cells #[.bool false, .string ⟨#[]⟩, .int .u64 0, .int .u64 0, .string ⟨#[]⟩, .string ⟨#[]⟩, .string ⟨#[]⟩, .string ⟨#[]⟩] 24); simp only [World.size_alloc] at this; exact this
    have hW : Below w.heap.size w W0 := by rw [← hW0]; exact ((((Below.refl _ w).alloc (Nat.le_refl _) _).alloc (by simp) _).alloc (by simp; omega) _)
    have hZ : W0.heap.size = w.heap.size + 3 := by rw [← hW0]; simp
    clear hW0
    have ca0 : ∀ u, W0.drew.grownBy u (some (w.heap.size + 1 + 1)) → u.cell? ⟨w.heap.size, 0, none⟩ = some (.bool false) := fun u hu => by have := (hu.block w.heap.size (by show _ < W0.heap.size; omega) (fun e => by have := Option.some.inj e; omega)).trans hA; simp [World.cell?, this]
    have ca1 : ∀ u, W0.drew.grownBy u (some (w.heap.size + 1 + 1)) → u.cell? ⟨w.heap.size, 1, none⟩ = some (.string a2) := fun u hu => by have := (hu.block w.heap.size (by show _ < W0.heap.size; omega) (fun e => by have := Option.some.inj e; omega)).trans hA; simp [World.cell?, this]
    have ca2 : ∀ u, W0.drew.grownBy u (some (w.heap.size + 1 + 1)) → u.cell? ⟨w.heap.size, 2, none⟩ = some (.int .u64 a3) := fun u hu => by have := (hu.block w.heap.size (by show _ < W0.heap.size; omega) (fun e => by have := Option.some.inj e; omega)).trans hA; simp [World.cell?, this]
    have ca3 : ∀ u, W0.drew.grownBy u (some (w.heap.size + 1 + 1)) → u.cell? ⟨w.heap.size, 3, none⟩ = some (.int .u64 a4) := fun u hu => by have := (hu.block w.heap.size (by show _ < W0.heap.size; omega) (fun e => by have := Option.some.inj e; omega)).trans hA; simp [World.cell?, this]
    have ca4 : ∀ u, W0.drew.grownBy u (some (w.heap.size + 1 + 1)) → u.cell? ⟨w.heap.size, 4, none⟩ = some (.string a5) := fun u hu => by have := (hu.block w.heap.size (by show _ < W0.heap.size; omega) (fun e => by have := Option.some.inj e; omega)).trans hA; simp [World.cell?, this]
    have ca5 : ∀ u, W0.drew.grownBy u (some (w.heap.size + 1 + 1)) → u.cell? ⟨w.heap.size, 5, none⟩ = some (.string a6) := fun u hu => by have := (hu.block w.heap.size (by show _ < W0.heap.size; omega) (fun e => by have := Option.some.inj e; omega)).trans hA; simp [World.cell?, this]
    have ca6 : ∀ u, W0.drew.grownBy u (some (w.heap.size + 1 + 1)) → u.cell? ⟨w.heap.size, 6, none⟩ = some (.string a7) := fun u hu => by have := (hu.block w.heap.size (by show _ < W0.heap.size; omega) (fun e => by have := Option.some.inj e; omega)).trans hA; simp [World.cell?, this]
    have ca7 : ∀ u, W0.drew.grownBy u (some (w.heap.size + 1 + 1)) → u.cell? ⟨w.heap.size, 7, none⟩ = some (.string a8) := fun u hu => by have := (hu.block w.heap.size (by show _ < W0.heap.size; omega) (fun e => by have := Option.some.inj e; omega)).trans hA; simp [World.cell?, this]
    have cb0 : ∀ u, W0.drew.grownBy u (some (w.heap.size + 1 + 1)) → u.cell? ⟨w.heap.size + 1, 0, none⟩ = some (.bool b1) := fun u hu => by have := (hu.block (w.heap.size + 1) (by show _ < W0.heap.size; omega) (fun e => by have := Option.some.inj e; omega)).trans hBb; simp [World.cell?, this]
    have cb1 : ∀ u, W0.drew.grownBy u (some (w.heap.size + 1 + 1)) → u.cell? ⟨w.heap.size + 1, 1, none⟩ = some (.string b2) := fun u hu => by have := (hu.block (w.heap.size + 1) (by show _ < W0.heap.size; omega) (fun e => by have := Option.some.inj e; omega)).trans hBb; simp [World.cell?, this]
    have cb2 : ∀ u, W0.drew.grownBy u (some (w.heap.size + 1 + 1)) → u.cell? ⟨w.heap.size + 1, 2, none⟩ = some (.int .u64 b3) := fun u hu => by have := (hu.block (w.heap.size + 1) (by show _ < W0.heap.size; omega) (fun e => by have := Option.some.inj e; omega)).trans hBb; simp [World.cell?, this]
    have cb3 : ∀ u, W0.drew.grownBy u (some (w.heap.size + 1 + 1)) → u.cell? ⟨w.heap.size + 1, 3, none⟩ = some (.int .u64 b4) := fun u hu => by have := (hu.block (w.heap.size + 1) (by show _ < W0.heap.size; omega) (fun e => by have := Option.some.inj e; omega)).trans hBb; simp [World.cell?, this]
    have cb4 : ∀ u, W0.drew.grownBy u (some (w.heap.size + 1 + 1)) → u.cell? ⟨w.heap.size + 1, 4, none⟩ = some (.string b5) := fun u hu => by have := (hu.block (w.heap.size + 1) (by show _ < W0.heap.size; omega) (fun e => by have := Option.some.inj e; omega)).trans hBb; simp [World.cell?, this]
    have cb5 : ∀ u, W0.drew.grownBy u (some (w.heap.size + 1 + 1)) → u.cell? ⟨w.heap.size + 1, 5, none⟩ = some (.string b6) := fun u hu => by have := (hu.block (w.heap.size + 1) (by show _ < W0.heap.size; omega) (fun e => by have := Option.some.inj e; omega)).trans hBb; simp [World.cell?, this]
    have cb6 : ∀ u, W0.drew.grownBy u (some (w.heap.size + 1 + 1)) → u.cell? ⟨w.heap.size + 1, 6, none⟩ = some (.string b7) := fun u hu => by have := (hu.block (w.heap.size + 1) (by show _ < W0.heap.size; omega) (fun e => by have := Option.some.inj e; omega)).trans hBb; simp [World.cell?, this]
    have cb7 : ∀ u, W0.drew.grownBy u (some (w.heap.size + 1 + 1)) → u.cell? ⟨w.heap.size + 1, 7, none⟩ = some (.string b8) := fun u hu => by have := (hu.block (w.heap.size + 1) (by show _ < W0.heap.size; omega) (fun e => by have := Option.some.inj e; omega)).trans hBb; simp [World.cell?, this]
    have cc0 : W0.drew.cell? ⟨w.heap.size + 1 + 1, 0, none⟩ = some (.bool false) := by have : W0.drew.heap[w.heap.size + 1 + 1]? = _ := hC; simp [World.cell?, this]
    have cc1 : W0.drew.cell? ⟨w.heap.size + 1 + 1, 1, none⟩ = some (.string ⟨#[]⟩) := by have : W0.drew.heap[w.heap.size + 1 + 1]? = _ := hC; simp [World.cell?, this]
    have cc2 : W0.drew.cell? ⟨w.heap.size + 1 + 1, 2, none⟩ = some (.int .u64 0) := by have : W0.drew.heap[w.heap.size + 1 + 1]? = _ := hC; simp [World.cell?, this]
    have cc3 : W0.drew.cell? ⟨w.heap.size + 1 + 1, 3, none⟩ = some (.int .u64 0) := by have : W0.drew.heap[w.heap.size + 1 + 1]? = _ := hC; simp [World.cell?, this]
    have cc4 : W0.drew.cell? ⟨w.heap.size + 1 + 1, 4, none⟩ = some (.string ⟨#[]⟩) := by have : W0.drew.heap[w.heap.size + 1 + 1]? = _ := hC; simp [World.cell?, this]
    have cc5 : W0.drew.cell? ⟨w.heap.size + 1 + 1, 5, none⟩ = some (.string ⟨#[]⟩) := by have : W0.drew.heap[w.heap.size + 1 + 1]? = _ := hC; simp [World.cell?, this]
    have cc6 : W0.drew.cell? ⟨w.heap.size + 1 + 1, 6, none⟩ = some (.string ⟨#[]⟩) := by have : W0.drew.heap[w.heap.size + 1 + 1]? = _ := hC; simp [World.cell?, this]
    have cc7 : W0.drew.cell? ⟨w.heap.size + 1 + 1, 7, none⟩ = some (.string ⟨#[]⟩) := by have : W0.drew.heap[w.heap.size + 1 + 1]? = _ := hC; simp [World.cell?, this]
    have cf0 : W0.drew.frozen? ⟨w.heap.size + 1 + 1, 0, none⟩ = false := by have : W0.drew.heap[w.heap.size + 1 + 1]? = _ := hC; simp [World.frozen?, this]
    have cf1 : W0.drew.frozen? ⟨w.heap.size + 1 + 1, 1, none⟩ = false := by have : W0.drew.heap[w.heap.size + 1 + 1]? = _ := hC; simp [World.frozen?, this]
    have cf2 : W0.drew.frozen? ⟨w.heap.size + 1 + 1, 2, none⟩ = false := by have : W0.drew.heap[w.heap.size + 1 + 1]? = _ := hC; simp [World.frozen?, this]
    have cf3 : W0.drew.frozen? ⟨w.heap.size + 1 + 1, 3, none⟩ = false := by have : W0.drew.heap[w.heap.size + 1 + 1]? = _ := hC; simp [World.frozen?, this]
    have cf4 : W0.drew.frozen? ⟨w.heap.size + 1 + 1, 4, none⟩ = false := by have : W0.drew.heap[w.heap.size + 1 + 1]? = _ := hC; simp [World.frozen?, this]
    have cf5 : W0.drew.frozen? ⟨w.heap.size + 1 + 1, 5, none⟩ = false := by have : W0.drew.heap[w.heap.size + 1 + 1]? = _ := hC; simp [World.frozen?, this]
    have cf6 : W0.drew.frozen? ⟨w.heap.size + 1 + 1, 6, none⟩ = false := by have : W0.drew.heap[w.heap.size + 1 + 1]? = _ := hC; simp [World.frozen?, this]
    have cf7 : W0.drew.frozen? ⟨w.heap.size + 1 + 1, 7, none⟩ = false := by have : W0.drew.heap[w.heap.size + 1 + 1]? = _ := hC; simp [World.frozen?, this]
    refine wp_region_LG (besides (w.heap.size + 1 + 1)) 43 [0, 1, 2, 3, 4, 5, 6, 7, 8, 9, 11, 12, 13, 14, 16, 17, 18, 19, 21, 22, 23, 24, 26, 27, 28, 29, 31, 32, 33, 34, 36, 37, 38, 39, 10, 15, 20, 25, 30, 35, 40, 41, 42] rfl (by decide) (by decide) (by kernel_rfl) ?_
    simp only [List.filterMap_cons, List.filterMap_nil, List.getElem?_cons_zero, List.getElem?_cons_succ, Option.map_some]
    have hW1 : Below w.heap.size w W0.drew := hW.drew
    have hZ1 : W0.drew.heap.size = w.heap.size + 3 := hZ
    have hA1 : W0.drew.heap[w.heap.size + 1 + 1]? = _ := hC
    clear hW hZ hA hBb hC
    generalize W0.drew = W1 at *
    iterate 34 (first
    | (refine wpL_takeG _ (v := ?_) (by kernel_rfl) (by kernel_rfl) (by kernel_rfl) (fun _ _ _ h => h) (by rfl) (fun u hu => ?_) ?_
       rotate_left
       focus
         replace hu : W1.grownBy u (some (w.heap.size + 1 + 1)) := hu
         go_simp
         try with_reducible rfl
       simp only [Act.put, List.setIfInBounds_toArray, List.set_cons_zero, List.set_cons_succ])
    | (refine wpL_passG _ (by kernel_rfl) (by kernel_rfl) (by kernel_rfl) (fun _ _ _ h => h) (by rfl) ?_; simp only [Act.put, List.setIfInBounds_toArray, List.set_cons_zero, List.set_cons_succ]))
    iterate 7 (first
    | (refine wpL_doG _ (by kernel_rfl) (by rfl) (fun K hK => ?_); go_simp; go_at_call 33; refine (later_any _ _ _).mono ?_; rintro e w1 ⟨rfl, rfl⟩; refine hK _ _ ((besides _).rf _) ?_; clear hK K)
    | (refine wpL_doG _ (by kernel_rfl) (by rfl) (fun K hK => ?_); go_simp; go_at_call 34; refine (number6_any _ _ _).mono ?_; rintro e w1 ⟨rfl, rfl⟩; refine hK _ _ ((besides _).rf _) ?_; clear hK K))
    iterate 1 (first
    | (refine wpL_takeG _ (v := ?_) (by kernel_rfl) (by kernel_rfl) (by kernel_rfl) (fun _ _ _ h => h) (by rfl) (fun u hu => ?_) ?_
       rotate_left
       focus
         replace hu : W1.grownBy u (some (w.heap.size + 1 + 1)) := hu
         go_simp
         try with_reducible rfl
       simp only [Act.put, List.setIfInBounds_toArray, List.set_cons_zero, List.set_cons_succ]))
    refine wpL_doG _ (by kernel_rfl) (by rfl) (fun K hK => ?_)
    go_simp
    refine hK _ _ ?_ ?_
    · exact ((((((((grown_set W1 _ 0 _).trans (grown_set _ _ 1 _)).trans (grown_set _ _ 2 _)).trans (grown_set _ _ 3 _)).trans (grown_set _ _ 4 _)).trans (grown_set _ _ 5 _)).trans (grown_set _ _ 6 _)).trans (grown_set _ _ 7 _))
    · refine wpL_doneG _ (by kernel_rfl) ?_
      clear hK K
      go_wp2_with fail
      (try simp only [Exit.inBlock, Exit.then])
      refine bodyPost_ret (v := .agg #[.bool b1, .string (mpick a2 b2), .int .u64 (npick a3 b3), .int .u64 (npick a4 b4), .string (mpick a5 b5), .string (mpick a6 b6), .string (mpick a7 b7), .string (mpick a8 b8)]) ?_ rfl ⟨rfl, ?_⟩
      · rw [results_cell rfl]; go_simp
      · exact (((((((hW1.setCell (by show w.heap.size ≤ w.heap.size + 1 + 1; omega) _).setCell (by show w.heap.size ≤ w.heap.size + 1 + 1; omega) _).setCell (by show w.heap.size ≤ w.heap.size + 1 + 1; omega) _).setCell (by show w.heap.size ≤ w.heap.size + 1 + 1; omega) _).setCell (by show w.heap.size ≤ w.heap.size + 1 + 1; omega) _).setCell (by show w.heap.size ≤ w.heap.size + 1 + 1; omega) _).setCell (by show w.heap.size ≤ w.heap.size + 1 + 1; omega) _).setCell (by show w.heap.size ≤ w.heap.size + 1 + 1; omega) _
  · generalize hW0 : ((w.alloc (Obj.cells #[.bool true, .string a2, .int .u64 a3, .int .u64 a4, .string a5, .string a6, .string a7, .string a8] 24)).alloc (Obj.cells #[.bool b1, .string b2, .int .u64 b3, .int .u64 b4, .string b5, .string b6, .string b7, .string b8] 24)).alloc (Obj.cells #[.bool false, .string ⟨#[]⟩, .int .u64 0, .int .u64 0, .string ⟨#[]⟩, .string ⟨#[]⟩, .string ⟨#[]⟩, .string ⟨#[]⟩] 24) = W0
    have hA : W0.heap[w.heap.size]? = some (.cells #[.bool true, .string a2, .int .u64 a3, .int .u64 a4, .string a5, .string a6, .string a7, .string a8] 24 (0, 0)) := by rw [← hW0, Below.heap_alloc _ _ _ (by simp; omega), Below.heap_alloc _ _ _ (by simp)]; exact World.alloc_heap_new w _
    have hBb : W0.heap[w.heap.size + 1]? = some (.cells #[.bool b1, .string b2, .int .u64 b3, .int .u64 b4, .string b5, .string b6, .string b7, .string b8] 24 (0, 0)) := by rw [← hW0, Below.heap_alloc _ _ _ (by simp)]; have := World.alloc_heap_new (w.alloc (Obj.cells #[.bool true, .string a2, .int .u64 a3, .int .u64 a4, .string a5, .string a6, .string a7, .string a8] 24)) (Obj.cells #[.bool b1, .string b2, .int .u64 b3, .int .u64 b4, .string b5, .string b6, .string b7, .string b8] 24); rw [World.size_alloc] at this; exact this
    have hC : W0.heap[w.heap.size + 1 + 1]? = some (.cells #[.bool false, .string ⟨#[]⟩, .int .u64 0, .int .u64 0, .string ⟨#[]⟩, .string ⟨#[]⟩, .string ⟨#[]⟩, .string ⟨#[]⟩] 24 (0, 0)) := by rw [← hW0]; have := World.alloc_heap_new ((w.alloc (Obj.cells #[.bool true, .string a2, .int .u64 a3, .int .u64 a4, .string a5, .string a6, .string a7, .string a8] 24)).alloc (Obj.cells #[.bool b1, .string b2, .int .u64 b3, .int .u64 b4, .string b5, .string b6, .string b7, .string b8] 24)) (Obj.cells #[.bool false, .string ⟨#[]⟩, .int .u64 0, .int .u64 0, .string ⟨#[]⟩, .string ⟨#[]⟩, .string ⟨#[]⟩, .string ⟨#[]⟩] 24); simp only [World.size_alloc] at this; exact this
    have hW : Below w.heap.size w W0 := by rw [← hW0]; exact ((((Below.refl _ w).alloc (Nat.le_refl _) _).alloc (by simp) _).alloc (by simp; omega) _)
    have hZ : W0.heap.size = w.heap.size + 3 := by rw [← hW0]; simp
    clear hW0
    have ca0 : ∀ u, W0.drew.grownBy u (some (w.heap.size + 1 + 1)) → u.cell? ⟨w.heap.size, 0, none⟩ = some (.bool true) := fun u hu => by have := (hu.block w.heap.size (by show _ < W0.heap.size; omega) (fun e => by have := Option.some.inj e; omega)).trans hA; simp [World.cell?, this]
    have ca1 : ∀ u, W0.drew.grownBy u (some (w.heap.size + 1 + 1)) → u.cell? ⟨w.heap.size, 1, none⟩ = some (.string a2) := fun u hu => by have := (hu.block w.heap.size (by show _ < W0.heap.size; omega) (fun e => by have := Option.some.inj e; omega)).trans hA; simp [World.cell?, this]
    have ca2 : ∀ u, W0.drew.grownBy u (some (w.heap.size + 1 + 1)) → u.cell? ⟨w.heap.size, 2, none⟩ = some (.int .u64 a3) := fun u hu => by have := (hu.block w.heap.size (by show _ < W0.heap.size; omega) (fun e => by have := Option.some.inj e; omega)).trans hA; simp [World.cell?, this]
    have ca3 : ∀ u, W0.drew.grownBy u (some (w.heap.size + 1 + 1)) → u.cell? ⟨w.heap.size, 3, none⟩ = some (.int .u64 a4) := fun u hu => by have := (hu.block w.heap.size (by show _ < W0.heap.size; omega) (fun e => by have := Option.some.inj e; omega)).trans hA; simp [World.cell?, this]
    have ca4 : ∀ u, W0.drew.grownBy u (some (w.heap.size + 1 + 1)) → u.cell? ⟨w.heap.size, 4, none⟩ = some (.string a5) := fun u hu => by have := (hu.block w.heap.size (by show _ < W0.heap.size; omega) (fun e => by have := Option.some.inj e; omega)).trans hA; simp [World.cell?, this]
    have ca5 : ∀ u, W0.drew.grownBy u (some (w.heap.size + 1 + 1)) → u.cell? ⟨w.heap.size, 5, none⟩ = some (.string a6) := fun u hu => by have := (hu.block w.heap.size (by show _ < W0.heap.size; omega) (fun e => by have := Option.some.inj e; omega)).trans hA; simp [World.cell?, this]
    have ca6 : ∀ u, W0.drew.grownBy u (some (w.heap.size + 1 + 1)) → u.cell? ⟨w.heap.size, 6, none⟩ = some (.string a7) := fun u hu => by have := (hu.block w.heap.size (by show _ < W0.heap.size; omega) (fun e => by have := Option.some.inj e; omega)).trans hA; simp [World.cell?, this]
    have ca7 : ∀ u, W0.drew.grownBy u (some (w.heap.size + 1 + 1)) → u.cell? ⟨w.heap.size, 7, none⟩ = some (.string a8) := fun u hu => by have := (hu.block w.heap.size (by show _ < W0.heap.size; omega) (fun e => by have := Option.some.inj e; omega)).trans hA; simp [World.cell?, this]
    have cb0 : ∀ u, W0.drew.grownBy u (some (w.heap.size + 1 + 1)) → u.cell? ⟨w.heap.size + 1, 0, none⟩ = some (.bool b1) := fun u hu => by have := (hu.block (w.heap.size + 1) (by show _ < W0.heap.size; omega) (fun e => by have := Option.some.inj e; omega)).trans hBb; simp [World.cell?, this]
    have cb1 : ∀ u, W0.drew.grownBy u (some (w.heap.size + 1 + 1)) → u.cell? ⟨w.heap.size + 1, 1, none⟩ = some (.string b2) := fun u hu => by have := (hu.block (w.heap.size + 1) (by show _ < W0.heap.size; omega) (fun e => by have := Option.some.inj e; omega)).trans hBb; simp [World.cell?, this]
    have cb2 : ∀ u, W0.drew.grownBy u (some (w.heap.size + 1 + 1)) → u.cell? ⟨w.heap.size + 1, 2, none⟩ = some (.int .u64 b3) := fun u hu => by have := (hu.block (w.heap.size + 1) (by show _ < W0.heap.size; omega) (fun e => by have := Option.some.inj e; omega)).trans hBb; simp [World.cell?, this]
    have cb3 : ∀ u, W0.drew.grownBy u (some (w.heap.size + 1 + 1)) → u.cell? ⟨w.heap.size + 1, 3, none⟩ = some (.int .u64 b4) := fun u hu => by have := (hu.block (w.heap.size + 1) (by show _ < W0.heap.size; omega) (fun e => by have := Option.some.inj e; omega)).trans hBb; simp [World.cell?, this]
    have cb4 : ∀ u, W0.drew.grownBy u (some (w.heap.size + 1 + 1)) → u.cell? ⟨w.heap.size + 1, 4, none⟩ = some (.string b5) := fun u hu => by have := (hu.block (w.heap.size + 1) (by show _ < W0.heap.size; omega) (fun e => by have := Option.some.inj e; omega)).trans hBb; simp [World.cell?, this]
    have cb5 : ∀ u, W0.drew.grownBy u (some (w.heap.size + 1 + 1)) → u.cell? ⟨w.heap.size + 1, 5, none⟩ = some (.string b6) := fun u hu => by have := (hu.block (w.heap.size + 1) (by show _ < W0.heap.size; omega) (fun e => by have := Option.some.inj e; omega)).trans hBb; simp [World.cell?, this]
    have cb6 : ∀ u, W0.drew.grownBy u (some (w.heap.size + 1 + 1)) → u.cell? ⟨w.heap.size + 1, 6, none⟩ = some (.string b7) := fun u hu => by have := (hu.block (w.heap.size + 1) (by show _ < W0.heap.size; omega) (fun e => by have := Option.some.inj e; omega)).trans hBb; simp [World.cell?, this]
    have cb7 : ∀ u, W0.drew.grownBy u (some (w.heap.size + 1 + 1)) → u.cell? ⟨w.heap.size + 1, 7, none⟩ = some (.string b8) := fun u hu => by have := (hu.block (w.heap.size + 1) (by show _ < W0.heap.size; omega) (fun e => by have := Option.some.inj e; omega)).trans hBb; simp [World.cell?, this]
    have cc0 : W0.drew.cell? ⟨w.heap.size + 1 + 1, 0, none⟩ = some (.bool false) := by have : W0.drew.heap[w.heap.size + 1 + 1]? = _ := hC; simp [World.cell?, this]
    have cc1 : W0.drew.cell? ⟨w.heap.size + 1 + 1, 1, none⟩ = some (.string ⟨#[]⟩) := by have : W0.drew.heap[w.heap.size + 1 + 1]? = _ := hC; simp [World.cell?, this]
    have cc2 : W0.drew.cell? ⟨w.heap.size + 1 + 1, 2, none⟩ = some (.int .u64 0) := by have : W0.drew.heap[w.heap.size + 1 + 1]? = _ := hC; simp [World.cell?, this]
    have cc3 : W0.drew.cell? ⟨w.heap.size + 1 + 1, 3, none⟩ = some (.int .u64 0) := by have : W0.drew.heap[w.heap.size + 1 + 1]? = _ := hC; simp [World.cell?, this]
    have cc4 : W0.drew.cell? ⟨w.heap.size + 1 + 1, 4, none⟩ = some (.string ⟨#[]⟩) := by have : W0.drew.heap[w.heap.size + 1 + 1]? = _ := hC; simp [World.cell?, this]
    have cc5 : W0.drew.cell? ⟨w.heap.size + 1 + 1, 5, none⟩ = some (.string ⟨#[]⟩) := by have : W0.drew.heap[w.heap.size + 1 + 1]? = _ := hC; simp [World.cell?, this]
    have cc6 : W0.drew.cell? ⟨w.heap.size + 1 + 1, 6, none⟩ = some (.string ⟨#[]⟩) := by have : W0.drew.heap[w.heap.size + 1 + 1]? = _ := hC; simp [World.cell?, this]
    have cc7 : W0.drew.cell? ⟨w.heap.size + 1 + 1, 7, none⟩ = some (.string ⟨#[]⟩) := by have : W0.drew.heap[w.heap.size + 1 + 1]? = _ := hC; simp [World.cell?, this]
    have cf0 : W0.drew.frozen? ⟨w.heap.size + 1 + 1, 0, none⟩ = false := by have : W0.drew.heap[w.heap.size + 1 + 1]? = _ := hC; simp [World.frozen?, this]
    have cf1 : W0.drew.frozen? ⟨w.heap.size + 1 + 1, 1, none⟩ = false := by have : W0.drew.heap[w.heap.size + 1 + 1]? = _ := hC; simp [World.frozen?, this]
    have cf2 : W0.drew.frozen? ⟨w.heap.size + 1 + 1, 2, none⟩ = false := by have : W0.drew.heap[w.heap.size + 1 + 1]? = _ := hC; simp [World.frozen?, this]
    have cf3 : W0.drew.frozen? ⟨w.heap.size + 1 + 1, 3, none⟩ = false := by have : W0.drew.heap[w.heap.size + 1 + 1]? = _ := hC; simp [World.frozen?, this]
    have cf4 : W0.drew.frozen? ⟨w.heap.size + 1 + 1, 4, none⟩ = false := by have : W0.drew.heap[w.heap.size + 1 + 1]? = _ := hC; simp [World.frozen?, this]
    have cf5 : W0.drew.frozen? ⟨w.heap.size + 1 + 1, 5, none⟩ = false := by have : W0.drew.heap[w.heap.size + 1 + 1]? = _ := hC; simp [World.frozen?, this]
    have cf6 : W0.drew.frozen? ⟨w.heap.size + 1 + 1, 6, none⟩ = false := by have : W0.drew.heap[w.heap.size + 1 + 1]? = _ := hC; simp [World.frozen?, this]
    have cf7 : W0.drew.frozen? ⟨w.heap.size + 1 + 1, 7, none⟩ = false := by have : W0.drew.heap[w.heap.size + 1 + 1]? = _ := hC; simp [World.frozen?, this]
    refine wp_region_LG (besides (w.heap.size + 1 + 1)) 43 [0, 1, 2, 3, 4, 5, 6, 7, 8, 9, 11, 12, 13, 14, 16, 17, 18, 19, 21, 22, 23, 24, 26, 27, 28, 29, 31, 32, 33, 34, 36, 37, 38, 39, 10, 15, 20, 25, 30, 35, 40, 41, 42] rfl (by decide) (by decide) (by kernel_rfl) ?_
    simp only [List.filterMap_cons, List.filterMap_nil, List.getElem?_cons_zero, List.getElem?_cons_succ, Option.map_some]
    have hW1 : Below w.heap.size w W0.drew := hW.drew
    have hZ1 : W0.drew.heap.size = w.heap.size + 3 := hZ
    have hA1 : W0.drew.heap[w.heap.size + 1 + 1]? = _ := hC
    clear hW hZ hA hBb hC
    generalize W0.drew = W1 at *
    iterate 34 (first
    | (refine wpL_takeG _ (v := ?_) (by kernel_rfl) (by kernel_rfl) (by kernel_rfl) (fun _ _ _ h => h) (by rfl) (fun u hu => ?_) ?_
       rotate_left
       focus
         replace hu : W1.grownBy u (some (w.heap.size + 1 + 1)) := hu
         go_simp
         try with_reducible rfl
       simp only [Act.put, List.setIfInBounds_toArray, List.set_cons_zero, List.set_cons_succ])
    | (refine wpL_passG _ (by kernel_rfl) (by kernel_rfl) (by kernel_rfl) (fun _ _ _ h => h) (by rfl) ?_; simp only [Act.put, List.setIfInBounds_toArray, List.set_cons_zero, List.set_cons_succ]))
    iterate 7 (first
    | (refine wpL_doG _ (by kernel_rfl) (by rfl) (fun K hK => ?_); go_simp; go_at_call 33; refine (later_any _ _ _).mono ?_; rintro e w1 ⟨rfl, rfl⟩; refine hK _ _ ((besides _).rf _) ?_; clear hK K)
    | (refine wpL_doG _ (by kernel_rfl) (by rfl) (fun K hK => ?_); go_simp; go_at_call 34; refine (number6_any _ _ _).mono ?_; rintro e w1 ⟨rfl, rfl⟩; refine hK _ _ ((besides _).rf _) ?_; clear hK K))
    iterate 1 (first
    | (refine wpL_takeG _ (v := ?_) (by kernel_rfl) (by kernel_rfl) (by kernel_rfl) (fun _ _ _ h => h) (by rfl) (fun u hu => ?_) ?_
       rotate_left
       focus
         replace hu : W1.grownBy u (some (w.heap.size + 1 + 1)) := hu
         go_simp
         try with_reducible rfl
       simp only [Act.put, List.setIfInBounds_toArray, List.set_cons_zero, List.set_cons_succ]))
    refine wpL_doG _ (by kernel_rfl) (by rfl) (fun K hK => ?_)
    go_simp
    refine hK _ _ ?_ ?_
    · exact ((((((((grown_set W1 _ 0 _).trans (grown_set _ _ 1 _)).trans (grown_set _ _ 2 _)).trans (grown_set _ _ 3 _)).trans (grown_set _ _ 4 _)).trans (grown_set _ _ 5 _)).trans (grown_set _ _ 6 _)).trans (grown_set _ _ 7 _))
    · refine wpL_doneG _ (by kernel_rfl) ?_
      clear hK K
      go_wp2_with fail
      (try simp only [Exit.inBlock, Exit.then])
      refine bodyPost_ret (v := .agg #[.bool true, .string (mpick a2 b2), .int .u64 (npick a3 b3), .int .u64 (npick a4 b4), .string (mpick a5 b5), .string (mpick a6 b6), .string (mpick a7 b7), .string (mpick a8 b8)]) ?_ rfl ⟨rfl, ?_⟩
      · rw [results_cell rfl]; go_simp
      · exact (((((((hW1.setCell (by show w.heap.size ≤ w.heap.size + 1 + 1; omega) _).setCell (by show w.heap.size ≤ w.heap.size + 1 + 1; omega) _).setCell (by show w.heap.size ≤ w.heap.size + 1 + 1; omega) _).setCell (by show w.heap.size ≤ w.heap.size + 1 + 1; omega) _).setCell (by show w.heap.size ≤ w.heap.size + 1 + 1; omega) _).setCell (by show w.heap.size ≤ w.heap.size + 1 + 1; omega) _).setCell (by show w.heap.size ≤ w.heap.size + 1 + 1; omega) _).setCell (by show w.heap.size ≤ w.heap.size + 1 + 1; omega) _
end Go.Proofs.Ytkanhggmhjldmaa
