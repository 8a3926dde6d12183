/- LAW WALK: MetaPuts -/
import Derived.Test.YtkanhggmhjldmaaRMetaJ
import Derived.Test.YtkanhggmhjldmaaRegion
namespace Go.Proofs.Ytkanhggmhjldmaa
open Go.RowKit Plain

theorem strB {w : World} {B : Nat} {A : Option Addr} {l : List UInt8} (hr : Rd w B A (bcl l)) {n : Nat} (hn : l.length = n) (c : Nat) :
    (convert 25 9 (.slice A n c)).run Try.prog w = .ok (.string ⟨l.toArray⟩) w :=
  hn ▸ run_str _ _ _ Try.underlying25 Try.underlying5 Try.underlying9 hr c
theorem str_ever {base : Nat} {w : World} {A : Option Addr} {n c : Nat} {l : List UInt8} (h : w.ownsRow base 5 1 (.slice A n c) n (bcl l)) (hn : l.length = n) :
    ∀ W, Below w.heap.size w W → (convert 25 9 (.slice A n c)).run Try.prog W = .ok (.string ⟨l.toArray⟩) W :=
  fun _ hW => strB ((Rd.of_own h).below hW (Nat.le_refl _)) hn c
theorem mput_x (w : World) : Calls Try.prog 12 #[.agg #[.bool false, .string ⟨#[]⟩, .int .u64 0, .int .u64 0, .string ⟨#[]⟩, .string ⟨#[]⟩, .string ⟨#[]⟩, .string ⟨#[120]⟩]] w fun e w' => ∃ A c, e = .returned (.tuple #[.slice A 3 c, .int .i64 0]) ∧
    (convert 25 9 (.slice A 3 c)).run Try.prog w' = .ok (.string ⟨#[66, 1, 120]⟩) w' ∧ (convert 25 9 (.slice A 3 c)).run Try.prog w'.drew = .ok (.string ⟨#[66, 1, 120]⟩) w'.drew ∧ Below w.heap.size w w' := by
  refine (mput_any ⟨false, ⟨#[]⟩, 0, 0, ⟨#[]⟩, ⟨#[]⟩, ⟨#[]⟩, ⟨#[120]⟩⟩ ⟨by decide, by decide⟩ w).mono ?_
  rintro e w1 ⟨A, c, rfl, hown, hB⟩
  have e1 : wput (mfields ⟨false, ⟨#[]⟩, 0, 0, ⟨#[]⟩, ⟨#[]⟩, ⟨#[]⟩, ⟨#[120]⟩⟩) = ([66, 1, 120], 0) := by decide +kernel
  rw [e1] at hown ⊢
  exact ⟨A, c, rfl, str_ever hown rfl w1 (Below.refl _ _), str_ever hown rfl w1.drew (Below.refl _ _).drew, hB⟩
theorem awake6_any (w : World) : Calls Try.prog 16 #[] w fun e w' => e = .returned (.bool true) ∧ Below w.heap.size w w' := by
  go_enter Try.func16, Try.ntmps16
  go_wp2_with fail
  refine (mput_x w).mono ?_
  rintro e w1 ⟨A, c, rfl, hs1, hs2, hB⟩
  go_wp2_with fail
  go_ret
  exact ⟨rfl, hB⟩
set_option maxRecDepth 100000 in
set_option maxHeartbeats 4000000 in
theorem mputs_any (m n : MM) (hm : MOk m) (hn : MOk n) (w : World) :
    Calls Try.prog 3 #[.agg m.cells, .agg n.cells] w fun e w' => e = .returned (.bool true) ∧ Below w.heap.size w w' := by
  have hpa := mput_any m hm
  have hra := rmput_any m hm
  have hja := mjoined_any m n
  have hrj := rmjoined_any m n
  obtain ⟨J, hJ⟩ : ∃ J, mjoin m n = J := ⟨_, rfl⟩
  rw [hJ] at hja hrj
  clear hJ
  obtain ⟨j1, j2, j3, j4, j5, j6, j7, j8⟩ := J
  obtain ⟨m1, m2, m3, m4, m5, m6, m7, m8⟩ := m
  obtain ⟨n1, n2, n3, n4, n5, n6, n7, n8⟩ := n
  unfold MM.cells at hja hrj ⊢
  go_enter Try.func3, Try.ntmps3
  go_wp2_with fail
  refine (hpa _).mono ?_
  rintro e w1 ⟨A1, c1, rfl, hown1, hB1⟩
  generalize hL : wput (mfields ⟨m1, m2, m3, m4, m5, m6, m7, m8⟩) = r at *
  obtain ⟨l, er⟩ := r
  have hMm : BoxM w1 w.heap.size ⟨m1, m2, m3, m4, m5, m6, m7, m8⟩ := by
    refine (hB1.block _ (by simp; omega)).trans ?_
    rw [Below.heap_alloc _ _ _ (by simp)]
    exact World.alloc_heap_new w _
  have hMn : BoxM w1 (w.heap.size + 1) ⟨n1, n2, n3, n4, n5, n6, n7, n8⟩ := by
    refine (hB1.block _ (by simp)).trans ?_
    have := World.alloc_heap_new (w.alloc (Obj.cells #[.bool m1, .string m2, .int .u64 m3, .int .u64 m4, .string m5, .string m6, .string m7, .string m8] 24)) (Obj.cells #[.bool n1, .string n2, .int .u64 n3, .int .u64 n4, .string n5, .string n6, .string n7, .string n8] 24)
    rw [World.size_alloc] at this
    exact this
  have hW : Below w.heap.size w w1 := (((Below.refl _ w).alloc (Nat.le_refl _) _).alloc (by simp) _).trans (hB1.mono (by simp; omega))
  clear hB1 hpa
  obtain ⟨x0, x1, x2, x3, x4, x5, x6, x7⟩ := hMm.cells8
  go_wp2_with fail
  refine (hra _).mono ?_
  rintro e w2 ⟨A2, c2, rfl, hown2, hB2⟩
  rw [hL] at hown2 ⊢
  have hown1' := own_kept hown1 hB2 (Nat.le_refl _)
  have hMm2 := hMm.below hB2 hMm.lt
  have hMn2 := hMn.below hB2 hMn.lt
  have hW2 := bel_step hW hB2
  have hs1 := str_ever hown1' rfl
  have hs2 := str_ever hown2 rfl
  clear hown1 hown1' hown2 hB2 hW hMm hMn hra hL x0 x1 x2 x3 x4 x5 x6 x7
  have hW3 : Below w.heap.size w w2.drew := hW2.drew
  have hMm3 : BoxM w2.drew w.heap.size _ := hMm2
  have hMn3 : BoxM w2.drew (w.heap.size + 1) _ := hMn2
  have hs3 : ∀ W, Below w2.drew.heap.size w2.drew W → (convert 25 9 (.slice A1 l.length c1)).run Try.prog W = .ok (.string ⟨l.toArray⟩) W := fun W h => hs1 W ((Below.refl _ w2).drew.trans h)
  have hs4 : ∀ W, Below w2.drew.heap.size w2.drew W → (convert 25 9 (.slice A2 l.length c2)).run Try.prog W = .ok (.string ⟨l.toArray⟩) W := fun W h => hs2 W ((Below.refl _ w2).drew.trans h)
  clear hs1 hs2 hW2 hMm2 hMn2
  go_wp2_with fail
  refine wp_region_L 23 [0, 1, 2, 3, 4, 5, 6, 7, 8, 9, 10, 11, 12, 14, 15, 13, 16, 17, 18, 19, 20, 21, 22] rfl (by decide) (by decide) (by kernel_rfl) ?_
  generalize w2.drew = W2 at *
  have xm0 : ∀ u, Below W2.heap.size W2 u → u.cell? ⟨w.heap.size, 0, none⟩ = some (.bool m1) := fun u hu => (hMm3.below hu hMm3.lt).cell 0
  have xm1 : ∀ u, Below W2.heap.size W2 u → u.cell? ⟨w.heap.size, 1, none⟩ = some (.string m2) := fun u hu => (hMm3.below hu hMm3.lt).cell 1
  have xm2 : ∀ u, Below W2.heap.size W2 u → u.cell? ⟨w.heap.size, 2, none⟩ = some (.int .u64 m3) := fun u hu => (hMm3.below hu hMm3.lt).cell 2
  have xm3 : ∀ u, Below W2.heap.size W2 u → u.cell? ⟨w.heap.size, 3, none⟩ = some (.int .u64 m4) := fun u hu => (hMm3.below hu hMm3.lt).cell 3
  have xm4 : ∀ u, Below W2.heap.size W2 u → u.cell? ⟨w.heap.size, 4, none⟩ = some (.string m5) := fun u hu => (hMm3.below hu hMm3.lt).cell 4
  have xm5 : ∀ u, Below W2.heap.size W2 u → u.cell? ⟨w.heap.size, 5, none⟩ = some (.string m6) := fun u hu => (hMm3.below hu hMm3.lt).cell 5
  have xm6 : ∀ u, Below W2.heap.size W2 u → u.cell? ⟨w.heap.size, 6, none⟩ = some (.string m7) := fun u hu => (hMm3.below hu hMm3.lt).cell 6
  have xm7 : ∀ u, Below W2.heap.size W2 u → u.cell? ⟨w.heap.size, 7, none⟩ = some (.string m8) := fun u hu => (hMm3.below hu hMm3.lt).cell 7
  have xn0 : ∀ u, Below W2.heap.size W2 u → u.cell? ⟨w.heap.size + 1, 0, none⟩ = some (.bool n1) := fun u hu => (hMn3.below hu hMn3.lt).cell 0
  have xn1 : ∀ u, Below W2.heap.size W2 u → u.cell? ⟨w.heap.size + 1, 1, none⟩ = some (.string n2) := fun u hu => (hMn3.below hu hMn3.lt).cell 1
  have xn2 : ∀ u, Below W2.heap.size W2 u → u.cell? ⟨w.heap.size + 1, 2, none⟩ = some (.int .u64 n3) := fun u hu => (hMn3.below hu hMn3.lt).cell 2
  have xn3 : ∀ u, Below W2.heap.size W2 u → u.cell? ⟨w.heap.size + 1, 3, none⟩ = some (.int .u64 n4) := fun u hu => (hMn3.below hu hMn3.lt).cell 3
  have xn4 : ∀ u, Below W2.heap.size W2 u → u.cell? ⟨w.heap.size + 1, 4, none⟩ = some (.string n5) := fun u hu => (hMn3.below hu hMn3.lt).cell 4
  have xn5 : ∀ u, Below W2.heap.size W2 u → u.cell? ⟨w.heap.size + 1, 5, none⟩ = some (.string n6) := fun u hu => (hMn3.below hu hMn3.lt).cell 5
  have xn6 : ∀ u, Below W2.heap.size W2 u → u.cell? ⟨w.heap.size + 1, 6, none⟩ = some (.string n7) := fun u hu => (hMn3.below hu hMn3.lt).cell 6
  have xn7 : ∀ u, Below W2.heap.size W2 u → u.cell? ⟨w.heap.size + 1, 7, none⟩ = some (.string n8) := fun u hu => (hMn3.below hu hMn3.lt).cell 7
  simp only [List.filterMap_cons, List.filterMap_nil, List.getElem?_cons_zero, List.getElem?_cons_succ, Option.map_some]
  repeat (first
    | (refine wpL_take (v := ?_) (by kernel_rfl) (by kernel_rfl) (by kernel_rfl) (fun _ _ _ h => h) (by rfl) (fun u hu => ?_) ?_
       rotate_left
       focus
         unfold Grows at hu
         go_simp
         try with_reducible rfl
       simp only [Act.put, List.setIfInBounds_toArray, List.set_cons_zero, List.set_cons_succ])
    | (refine wpL_pass (by kernel_rfl) (by kernel_rfl) (by kernel_rfl) (fun _ _ _ h => h) (by rfl) ?_; simp only [Act.put, List.setIfInBounds_toArray, List.set_cons_zero, List.set_cons_succ])
    | (refine wpL_do (by kernel_rfl) (by rfl) (fun K hK => ?_); go_simp; go_at_call 14; refine (hja _).mono ?_; rintro e w1 ⟨rfl, hB1⟩; replace hW3 := bel_step hW3 hB1; refine hK _ _ hB1 ?_; clear hK K hB1)
    | (refine wpL_do (by kernel_rfl) (by rfl) (fun K hK => ?_); go_simp; go_at_call 15; refine (hrj _).mono ?_; rintro e w1 ⟨rfl, hB1⟩; replace hW3 := bel_step hW3 hB1; refine hK _ _ hB1 ?_; clear hK K hB1)
    | (refine wpL_do (by kernel_rfl) (by rfl) (fun K hK => ?_); go_simp; go_at_call 16; refine (awake6_any _).mono ?_; rintro e w1 ⟨rfl, hB1⟩; replace hW3 := bel_step hW3 hB1; refine hK _ _ hB1 ?_; clear hK K hB1))
  refine wpL_done (by kernel_rfl) ?_
  go_wp2_with fail
  go_ret
  exact ⟨rfl, hW3⟩
end Go.Proofs.Ytkanhggmhjldmaa
