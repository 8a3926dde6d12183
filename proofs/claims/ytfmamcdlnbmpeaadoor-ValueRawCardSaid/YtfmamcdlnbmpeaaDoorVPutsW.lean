/- LAW WALK: ValuePuts -/
import Derived.Test.YtfmamcdlnbmpeaaDoorValQ
import Derived.Test.YtfmamcdlnbmpeaaDoorSame
namespace Go.Proofs.YtfmamcdlnbmpeaaDoor
open Go.RowKit Plain

theorem put5 (w : World) (hK : Kinds w) : Calls Tryd.prog 6 #[.agg #[.int .i64 5, .int .u64 1, .string ⟨#[]⟩], .int .i64 10, .bool true] w fun e w' =>
    ∃ b o c, e = .returned (.tuple #[.slice (some ⟨b, o, none⟩) 1 c, .int .i64 0]) ∧ w'.cell? ⟨b, o, none⟩ = some (.int .i64 14) ∧ w'.cell? ⟨b, o + 1, none⟩ = some (.int .i64 0) ∧ w'.cell? ⟨b, o + 2, none⟩ = some (.int .u64 1) ∧ w'.cell? ⟨b, o + 3, none⟩ = some (.string ⟨#[]⟩) ∧ Below w.heap.size w w' := by
  refine (vput_any 5 1 ⟨#[]⟩ 10 true (by omega) (by omega) w hK).mono ?_
  rintro e w1 ⟨A, c, rfl, hc1, hc2, hr, hB⟩
  have e2 : verr 5 ((1 : Nat) : Int) (ByteArray.mk #[]).toList.isEmpty 10 true = 0 := by decide +kernel
  have e1 : vfls 5 1 ⟨#[]⟩ 10 true = [⟨14, 0, 1, ⟨#[]⟩⟩] := by
    unfold vfls
    rw [e2]
    rfl
  rw [e1] at hr
  obtain ⟨b, o, rfl, _, hc⟩ := hr.some_ (by decide)
  exact ⟨b, o, c, by rw [e1, e2]; rfl, hc 0 (by decide), hc 1 (by decide), hc 2 (by decide), hc 3 (by decide), hB⟩
theorem awake5_any (w : World) (hK : Kinds w) : Calls Tryd.prog 13 #[] w fun e w' => e = .returned (.bool true) ∧ Below w.heap.size w w' := by
  go_enter Tryd.func13, Tryd.ntmps13
  go_wp2_with fail
  refine (put5 w hK).mono ?_
  rintro e w1 ⟨b, o, c, rfl, g0, g1, g2, g3, hB⟩
  go_wp2_with fail
  go_ret
  exact ⟨rfl, hB⟩

set_option maxHeartbeats 800000 in
theorem vputs_any (k : Int) (n : Nat) (s : ByteArray) (base : Int) (raw : Bool) (hn : n < 18446744073709551616) (hb0 : -9223372036854775808 ≤ base) (hb1 : base ≤ 9223372036854775807) (w : World) (hK : Kinds w) :
    Calls Tryd.prog 3 #[.agg #[.int .i64 k, .int .u64 n, .string s], .int .i64 base, .bool raw] w fun e w' => e = .returned (.bool true) ∧ Below w.heap.size w w' := by
  have hBa : Below w.heap.size w (w.alloc (Obj.cells #[Value.int IntKind.i64 k, Value.int IntKind.u64 n, Value.string s] 24)) := (Below.refl _ _).alloc (Nat.le_refl _) _
  have hKa := hK.below hBa hK.pos
  go_enter Tryd.func3, Tryd.ntmps3
  go_wp2_with fail
  refine (vput_any k n s base raw hb0 hb1 _ hKa).mono ?_
  rintro e w1 ⟨A1, c1, rfl, hc10, hc11, hr1, hB1⟩
  obtain ⟨d0, d1, d2, hB⟩ := boxV1 hB1
  clear hB1 hBa hKa
  generalize hL : vfls k n s base raw = L at *
  generalize hE : verr k n s.toList.isEmpty base raw = E at *
  have hL1 : L.length ≤ 1 := by omega
  go_wp2_with fail
  refine (rvput_any k n s base raw hn _).mono ?_
  rintro e w2 ⟨A2, c2, rfl, hc20, hc21, hr2, hB2⟩
  rw [hL] at *
  rw [hE]
  have hr1' := hr1.below hB2 (Nat.le_refl _)
  have d0' := (hB2.cell (World.block_lt_of_cell? _ _ d0)).trans d0
  have d1' := (hB2.cell (World.block_lt_of_cell? _ _ d1)).trans d1
  have d2' := (hB2.cell (World.block_lt_of_cell? _ _ d2)).trans d2
  replace hB := bel_step hB hB2
  obtain ⟨f0, f1, f2⟩ := boxU d0' d1' d2'
  have hrA : Rd w2.drew w2.drew.heap.size A1 (flc L) := hr1'.more hB2.size
  have hrB : Rd w2.drew w2.drew.heap.size A2 (flc L) := hr2
  have hK5 : Kinds w2.drew := hK.below hB.drew hK.pos
  replace hB : Below w.heap.size w w2.drew := hB.drew
  clear d0 d1 d2 hr1 d0' d1' d2' hr1' hr2 hB2 hK
  go_wp2_with fail
  refine wp_region_L 26 [0, 1, 2, 3, 4, 5, 6, 7, 8, 9, 11, 10, 12, 13, 14, 15, 16, 18, 17, 19, 20, 21, 22, 23, 24, 25] rfl (by decide) (by decide) (by kernel_rfl) ?_
  generalize w2.drew = w5 at *
  have d0 := f0
  have d1 := f1
  have d2 := f2
  clear f0 f1 f2
  simp only [List.filterMap_cons, List.filterMap_nil, List.getElem?_cons_zero, List.getElem?_cons_succ, Option.map_some]
  repeat (first
    | (refine wpL_take (v := ?_) (by kernel_rfl) (by kernel_rfl) (by kernel_rfl) (fun _ _ _ h => h) (by rfl) (fun u hu => ?_) ?_
       rotate_left
       focus
         unfold Grows at hu
         go_simp
         try with_reducible rfl
       simp only [Act.put, List.setIfInBounds_toArray, List.set_cons_zero, List.set_cons_succ])
    | (refine wpL_pass (by kernel_rfl) (by kernel_rfl) (by kernel_rfl) (fun _ _ _ h => h) (by rfl) ?_; simp only [Act.put, List.setIfInBounds_toArray, List.set_cons_zero, List.set_cons_succ])
    | (refine wpL_do (by kernel_rfl) (by rfl) (fun K hK => ?_); go_simp; go_at_call 8; refine (same_any A1 A2 c1 c2 L (by omega) _ (Nat.le_refl _) (Nat.le_refl _) hrA hrB).mono ?_; rintro e w6 ⟨rfl, hB6⟩; replace d0 := fun u (hu : Below w6.heap.size w6 u) => d0 u (bel_step hB6 hu); replace d1 := fun u (hu : Below w6.heap.size w6 u) => d1 u (bel_step hB6 hu); replace d2 := fun u (hu : Below w6.heap.size w6 u) => d2 u (bel_step hB6 hu); replace hB := bel_step hB hB6; replace hK5 := hK5.below hB6 hK5.pos; refine hK _ _ hB6 ?_; clear hK K hB6)
    | (refine wpL_do (by kernel_rfl) (by rfl) (fun K hK => ?_); go_simp; go_at_call 9; refine (right_any k n s _).mono ?_; rintro e w6 ⟨rfl, hB6⟩; replace d0 := fun u (hu : Below w6.heap.size w6 u) => d0 u (bel_step hB6 hu); replace d1 := fun u (hu : Below w6.heap.size w6 u) => d1 u (bel_step hB6 hu); replace d2 := fun u (hu : Below w6.heap.size w6 u) => d2 u (bel_step hB6 hu); replace hB := bel_step hB hB6; replace hK5 := hK5.below hB6 hK5.pos; refine hK _ _ hB6 ?_; clear hK K hB6)
    | (refine wpL_do (by kernel_rfl) (by rfl) (fun K hK => ?_); go_simp; go_at_call 10; refine (rright_any k n s hn _).mono ?_; rintro e w6 ⟨rfl, hB6⟩; replace d0 := fun u (hu : Below w6.heap.size w6 u) => d0 u (bel_step hB6 hu); replace d1 := fun u (hu : Below w6.heap.size w6 u) => d1 u (bel_step hB6 hu); replace d2 := fun u (hu : Below w6.heap.size w6 u) => d2 u (bel_step hB6 hu); replace hB := bel_step hB hB6; replace hK5 := hK5.below hB6 hK5.pos; refine hK _ _ hB6 ?_; clear hK K hB6)
    | (refine wpL_do (by kernel_rfl) (by rfl) (fun K hK => ?_); go_simp; go_at_call 11; refine (zero_any k n s _).mono ?_; rintro e w6 ⟨rfl, hB6⟩; replace d0 := fun u (hu : Below w6.heap.size w6 u) => d0 u (bel_step hB6 hu); replace d1 := fun u (hu : Below w6.heap.size w6 u) => d1 u (bel_step hB6 hu); replace d2 := fun u (hu : Below w6.heap.size w6 u) => d2 u (bel_step hB6 hu); replace hB := bel_step hB hB6; replace hK5 := hK5.below hB6 hK5.pos; refine hK _ _ hB6 ?_; clear hK K hB6)
    | (refine wpL_do (by kernel_rfl) (by rfl) (fun K hK => ?_); go_simp; go_at_call 12; refine (rzero_any k n s _).mono ?_; rintro e w6 ⟨rfl, hB6⟩; replace d0 := fun u (hu : Below w6.heap.size w6 u) => d0 u (bel_step hB6 hu); replace d1 := fun u (hu : Below w6.heap.size w6 u) => d1 u (bel_step hB6 hu); replace d2 := fun u (hu : Below w6.heap.size w6 u) => d2 u (bel_step hB6 hu); replace hB := bel_step hB hB6; replace hK5 := hK5.below hB6 hK5.pos; refine hK _ _ hB6 ?_; clear hK K hB6)
    | (refine wpL_do (by kernel_rfl) (by rfl) (fun K hK => ?_); go_simp; go_at_call 13; refine (awake5_any _ hK5).mono ?_; rintro e w6 ⟨rfl, hB6⟩; replace d0 := fun u (hu : Below w6.heap.size w6 u) => d0 u (bel_step hB6 hu); replace d1 := fun u (hu : Below w6.heap.size w6 u) => d1 u (bel_step hB6 hu); replace d2 := fun u (hu : Below w6.heap.size w6 u) => d2 u (bel_step hB6 hu); replace hB := bel_step hB hB6; replace hK5 := hK5.below hB6 hK5.pos; refine hK _ _ hB6 ?_; clear hK K hB6))
  refine wpL_done (by kernel_rfl) ?_
  go_wp2_with fail
  go_ret
  exact ⟨rfl, hB⟩
end Go.Proofs.YtfmamcdlnbmpeaaDoor
