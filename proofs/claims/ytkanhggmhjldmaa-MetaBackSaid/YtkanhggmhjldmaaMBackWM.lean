/- LAW WALKS: MetaBack -/
import Derived.Test.YtkanhggmhjldmaaMRdWM
import Derived.Test.YtkanhggmhjldmaaWPutOkM
import Derived.Test.YtkanhggmhjldmaaMeta1
namespace Go.Proofs.Ytkanhggmhjldmaa
open Go.RowKit Plain

theorem BoxM.ever8 {W : World} {B : Nat} {m1 : Bool} {m2 : ByteArray} {m3 m4 : Nat} {m5 m6 m7 m8 : ByteArray} (h : BoxM W B ⟨m1, m2, m3, m4, m5, m6, m7, m8⟩) :
    (∀ u, Below W.heap.size W u → u.cell? ⟨B, 0, none⟩ = some (.bool m1)) ∧ (∀ u, Below W.heap.size W u → u.cell? ⟨B, 1, none⟩ = some (.string m2)) ∧ (∀ u, Below W.heap.size W u → u.cell? ⟨B, 2, none⟩ = some (.int .u64 m3)) ∧ (∀ u, Below W.heap.size W u → u.cell? ⟨B, 3, none⟩ = some (.int .u64 m4)) ∧
    (∀ u, Below W.heap.size W u → u.cell? ⟨B, 4, none⟩ = some (.string m5)) ∧ (∀ u, Below W.heap.size W u → u.cell? ⟨B, 5, none⟩ = some (.string m6)) ∧ (∀ u, Below W.heap.size W u → u.cell? ⟨B, 6, none⟩ = some (.string m7)) ∧ (∀ u, Below W.heap.size W u → u.cell? ⟨B, 7, none⟩ = some (.string m8)) :=
  ⟨fun u hu => (h.below hu h.lt).cell 0, fun u hu => (h.below hu h.lt).cell 1, fun u hu => (h.below hu h.lt).cell 2, fun u hu => (h.below hu h.lt).cell 3, fun u hu => (h.below hu h.lt).cell 4, fun u hu => (h.below hu h.lt).cell 5, fun u hu => (h.below hu h.lt).cell 6, fun u hu => (h.below hu h.lt).cell 7⟩
set_option maxRecDepth 100000 in
set_option maxHeartbeats 4000000 in
theorem mback_any (m n : MM) (hm : MOk m) (hn : MOk n) (w : World) :
    Calls Try.prog 11 #[.agg m.cells, .agg n.cells] w fun e w' => e = .returned (.bool true) ∧ Below w.heap.size w w' := by
  have hpa := mput_any m hm
  have hpb := mput_any n hn
  unfold PutsPost at hpa hpb
  obtain ⟨ra, hra⟩ : ∃ r, wput (mfields m) = r := ⟨_, rfl⟩
  obtain ⟨rb, hrb⟩ : ∃ r, wput (mfields n) = r := ⟨_, rfl⟩
  rw [hra] at hpa
  rw [hrb] at hpb
  obtain ⟨x, e1⟩ := ra
  obtain ⟨y, e2⟩ := rb
  simp only at hpa hpb
  have HRA := Lib.hid hra
  have HRB := Lib.hid hrb
  clear hra hrb
  obtain ⟨m1, m2, m3, m4, m5, m6, m7, m8⟩ := m
  obtain ⟨n1, n2, n3, n4, n5, n6, n7, n8⟩ := n
  unfold MM.cells at hpa hpb ⊢
  simp only at hpa hpb ⊢
  go_enter Try.func11, Try.ntmps11
  go_wp2_with fail
  refine (hpa _).mono ?_
  rintro e w1 ⟨A1, c1, rfl, hown1, hB1⟩
  have hMm : BoxM w1 w.heap.size ⟨m1, m2, m3, m4, m5, m6, m7, m8⟩ := by
    refine (hB1.block _ (by simp; omega)).trans ?_
    rw [Below.heap_alloc _ _ _ (by simp)]
    exact World.alloc_heap_new w _
  have hMn : BoxM w1 (w.heap.size + 1) ⟨n1, n2, n3, n4, n5, n6, n7, n8⟩ := by
    refine (hB1.block _ (by simp)).trans ?_
    have := World.alloc_heap_new (w.alloc (Obj.cells #[.bool m1, .string m2, .int .u64 m3, .int .u64 m4, .string m5, .string m6, .string m7, .string m8] 24)) (Obj.cells #[.bool n1, .string n2, .int .u64 n3, .int .u64 n4, .string n5, .string n6, .string n7, .string n8] 24)
    rw [World.size_alloc] at this
    exact this
  have hW : Below w.heap.size w w1 := (((Below.refl _ w).alloc (Nat.le_refl _) _).alloc (by simp) _).trans (hB1.mono (by simp; omega))
  clear hB1 hpa
  obtain ⟨x0, x1, x2, x3, x4, x5, x6, x7⟩ := hMn.cells8
  go_wp2_with fail
  refine (hpb _).mono ?_
  rintro e w2 ⟨A2, c2, rfl, hown2, hB2⟩
  have hown1' := own_kept hown1 hB2 (Nat.le_refl _)
  have hMm2 := hMm.below hB2 hMm.lt
  have hMn2 := hMn.below hB2 hMn.lt
  have hW2 := bel_step hW hB2
  clear hown1 hB2 hW hMm hMn hpb x0 x1 x2 x3 x4 x5 x6 x7
  by_cases h1 : e1 = 0
  · subst h1
    by_cases h2 : e2 = 0
    · subst h2
      obtain ⟨p1, p2, p3, p4⟩ := wput_ok (show (wput (mfields ⟨m1, m2, m3, m4, m5, m6, m7, m8⟩)).2 = 0 by rw [HRA.out])
      obtain ⟨q1, q2, q3, q4⟩ := wput_ok (show (wput (mfields ⟨n1, n2, n3, n4, n5, n6, n7, n8⟩)).2 = 0 by rw [HRB.out])
      have hx : wencs (mfields ⟨m1, m2, m3, m4, m5, m6, m7, m8⟩) = x := by rw [HRA.out] at p1; exact (congrArg Prod.fst p1).symm
      have hy : wencs (mfields ⟨n1, n2, n3, n4, n5, n6, n7, n8⟩) = y := by rw [HRB.out] at q1; exact (congrArg Prod.fst q1).symm
      have hback := mof_put p2 hm (by omega)
      have htwo := fun h => mof_two p2 q2 hm hn h
      rw [hx] at hback htwo p4
      rw [hy] at htwo q4
      have HBK := Lib.hid hback
      have HTW := Lib.hid htwo
      have HM := Lib.hid hm
      have HN := Lib.hid hn
      obtain ⟨nx, hnx⟩ : ∃ k, x.length = k := ⟨_, rfl⟩
      obtain ⟨ny, hny⟩ : ∃ k, y.length = k := ⟨_, rfl⟩
      rw [hnx] at hown1' p4 ⊢
      rw [hny] at hown2 q4 ⊢
      have HNX := Lib.hid hnx
      have HNY := Lib.hid hny
      clear hback htwo p1 p2 p3 q1 q2 q3 hx hy hm hn hnx hny
      have hcap1 := own_cap hown1'
      have hof := mof_any x A1 nx c1 HNX.out hcap1.1 hcap1.2 w2 (Rd.of_own hown1')
      rw [HBK.out] at hof
      unfold MM.cells at hof
      simp only at hof
      clear hcap1
      go_wp2_with fail
      refine hof.mono ?_
      rintro e w3 ⟨rfl, hB3⟩
      have hown1 := own_kept hown1' hB3 (Nat.le_refl _)
      have hown3 := own_kept hown2 hB3 (Nat.le_refl _)
      have hMm3 := hMm2.below hB3 hMm2.lt
      have hMn3 := hMn2.below hB3 hMn2.lt
      have hW3 := bel_step hW2 hB3
      clear hof hown1' hown2 hMm2 hMn2 hB3 hW2
      go_wp2_with fail
      have hE3 := (Below.refl w3.heap.size w3).alloc (Nat.le_refl _) (Obj.cells #[.bool m1, .string m2, .int .u64 m3, .int .u64 m4, .string m5, .string m6, .string m7, .string m8] 24)
      have hMx : BoxM (w3.alloc (Obj.cells #[.bool m1, .string m2, .int .u64 m3, .int .u64 m4, .string m5, .string m6, .string m7, .string m8] 24)) w3.heap.size ⟨m1, m2, m3, m4, m5, m6, m7, m8⟩ := World.alloc_heap_new w3 _
      have hpx := mput_any ⟨m1, m2, m3, m4, m5, m6, m7, m8⟩ HM.out (w3.alloc (Obj.cells #[.bool m1, .string m2, .int .u64 m3, .int .u64 m4, .string m5, .string m6, .string m7, .string m8] 24))
      unfold PutsPost MM.cells at hpx
      rw [HRA.out, HNX.out] at hpx
      simp only at hpx
      refine hpx.mono ?_
      rintro e w4 ⟨A4, c4, rfl, hown4, hB4⟩
      have hE4 := bel_step' hE3 (Nat.le_refl _) hB4
      have ho1 := own_kept hown1 hE4 (Nat.le_refl _)
      have ho3 := own_kept hown3 hE4 (Nat.le_refl _)
      have hMm4 := hMm3.below hE4 hMm3.lt
      have hMn4 := hMn3.below hE4 hMn3.lt
      have hMx4 := hMx.below hB4 hMx.lt
      have hW4 := bel_step hW3 hE4
      have hs1 := strB (w := w4) (Rd.of_own ho1) HNX.out c1
      have hs4 := strB (w := w4) (Rd.of_own hown4) HNX.out c4
      obtain ⟨x0, x1, x2, x3, x4, x5, x6, x7⟩ := hMm4.cells8
      obtain ⟨y0, y1, y2, y3, y4, y5, y6, y7⟩ := hMx4.cells8
      clear hE3 hpx hown1 hown3 hown4 hMm3 hMn3 hMx hB4 hE4 hW3
      obtain ⟨S, hS⟩ : ∃ S, nx + ny = S := ⟨_, rfl⟩
      have hts : wrap64 ((nx : Int) + (ny : Int)) = (S : Int) := by unfold wrap64; omega
      by_cases hbig : 4096 < S
      · have hdS : decide ((4096 : Int) < (S : Int)) = true := decide_eq_true (by omega)
        clear hbig hS ho1 ho3 hMm4 hMn4 hMx4 p4 q4
        go_wp2_with fail
        refine (awake6_any _).mono ?_
        rintro e w5 ⟨rfl, hB5⟩
        go_wp2_with fail
        go_ret
        exact ⟨rfl, bel_step hW4 hB5⟩
      · have hdS : decide ((4096 : Int) < (S : Int)) = false := decide_eq_false (by omega)
        have HH : Hid (S ≤ 4096 ∧ nx + ny = S) := Lib.hid ⟨by omega, hS⟩
        have hws := hW4.size
        have hE := own_emptyB w4 (Nat.le_refl w4.heap.size)
        have hE0 : Below w4.heap.size w4 (w4.alloc (.cells #[] 5)) := (Below.refl _ w4).alloc (Nat.le_refl _) _
        have hrA : Rd (w4.alloc (.cells #[] 5)) w4.heap.size A1 (bcl x) := (Rd.of_own ho1).alloc (Nat.le_refl _) _
        have hrB := Rd.of_own ho3
        clear hbig hS p4 q4 ho1 ho3
        go_wp2_with (at_builtin; first
          | (refine wpList_appB rfl _ _ rfl rfl hE rfl hrA HNX.out nx (by omega) (by have := HH.out; omega) (by simp) ?_; intro A5 c5 w5 ho5 hg5; have hB5 := own_grown hE0 hE (by simp) hg5; have hrB5 := hrB.below hB5 (Nat.le_refl _); have hs5 := hB5.size; clear hE hE0 hrA hg5)
          | (refine wpList_appB rfl _ _ rfl rfl ho5 rfl hrB5 HNY.out S (by have := HH.out; omega) (by have := HH.out; omega) hs5 ?_; intro A6 c6 w6 ho6 hg6; have hB6 := own_grown hB5 ho5 hs5 hg6; clear hg6 ho5 hrB5 hB5))
        have hcap6 := own_cap ho6
        have hof := mof_any (([] ++ x) ++ y) A6 S c6 (by have := HH.out; have := HNX.out; have := HNY.out; simp; omega) hcap6.1 hcap6.2 w6 (Rd.of_own ho6)
        rw [List.nil_append, HTW.out (by have := HH.out; have := HNX.out; have := HNY.out; omega)] at hof
        obtain ⟨J, hJ⟩ : ∃ J, mjoin ⟨m1, m2, m3, m4, m5, m6, m7, m8⟩ ⟨n1, n2, n3, n4, n5, n6, n7, n8⟩ = J := ⟨_, rfl⟩
        have hja := fun W => mjoined_any ⟨m1, m2, m3, m4, m5, m6, m7, m8⟩ ⟨n1, n2, n3, n4, n5, n6, n7, n8⟩ W
        rw [hJ] at hof hja
        obtain ⟨j1, j2, j3, j4, j5, j6, j7, j8⟩ := J
        unfold MM.cells at hof hja
        simp only at hof hja
        refine hof.mono ?_
        rintro e w7 ⟨rfl, hB7⟩
        have hE7 := hB6.trans (hB7.mono hB6.size)
        have hMm7 := hMm4.below hE7 hMm4.lt
        have hMn7 := hMn4.below hE7 hMn4.lt
        have hW7 := bel_step hW4 hE7
        clear hof hcap6 ho6 hMm4 hMn4 hMx4 hB6 hB7 hE7 hW4 hws x0 x1 x2 x3 x4 x5 x6 x7 y0 y1 y2 y3 y4 y5 y6 y7 hs1 hs4 hJ
        go_wp2_with fail
        have hEy := (Below.refl w7.heap.size w7).alloc (Nat.le_refl _) (Obj.cells #[.bool j1, .string j2, .int .u64 j3, .int .u64 j4, .string j5, .string j6, .string j7, .string j8] 24)
        have hMy : BoxM (w7.alloc (Obj.cells #[.bool j1, .string j2, .int .u64 j3, .int .u64 j4, .string j5, .string j6, .string j7, .string j8] 24)) w7.heap.size ⟨j1, j2, j3, j4, j5, j6, j7, j8⟩ := World.alloc_heap_new w7 _
        have hMyd : BoxM (w7.alloc (Obj.cells #[.bool j1, .string j2, .int .u64 j3, .int .u64 j4, .string j5, .string j6, .string j7, .string j8] 24)).drew w7.heap.size ⟨j1, j2, j3, j4, j5, j6, j7, j8⟩ := hMy
        have hMmd : BoxM (w7.alloc (Obj.cells #[.bool j1, .string j2, .int .u64 j3, .int .u64 j4, .string j5, .string j6, .string j7, .string j8] 24)).drew w.heap.size ⟨m1, m2, m3, m4, m5, m6, m7, m8⟩ := hMm7.below hEy.drew hMm7.lt
        have hMnd : BoxM (w7.alloc (Obj.cells #[.bool j1, .string j2, .int .u64 j3, .int .u64 j4, .string j5, .string j6, .string j7, .string j8] 24)).drew (w.heap.size + 1) ⟨n1, n2, n3, n4, n5, n6, n7, n8⟩ := hMn7.below hEy.drew hMn7.lt
        have hWd := (bel_step hW7 hEy).drew
        clear hMy hMm7 hMn7 hEy hW7
        refine wp_region_L 13 [0, 1, 2, 3, 4, 5, 6, 7, 8, 9, 10, 11, 12] rfl (by decide) (by decide) (by kernel_rfl) ?_
        generalize (w7.alloc (Obj.cells #[.bool j1, .string j2, .int .u64 j3, .int .u64 j4, .string j5, .string j6, .string j7, .string j8] 24)).drew = W2 at *
        generalize w7.heap.size = yb at *
        obtain ⟨xy0, xy1, xy2, xy3, xy4, xy5, xy6, xy7⟩ := hMyd.ever8
        obtain ⟨xm0, xm1, xm2, xm3, xm4, xm5, xm6, xm7⟩ := hMmd.ever8
        obtain ⟨xn0, xn1, xn2, xn3, xn4, xn5, xn6, xn7⟩ := hMnd.ever8
        simp only [List.filterMap_cons, List.filterMap_nil, List.getElem?_cons_zero, List.getElem?_cons_succ, Option.map_some]
        repeat (first
          | (refine wpL_take (v := ?_) (by kernel_rfl) (by kernel_rfl) (by kernel_rfl) (fun _ _ _ h => h) (by rfl) (fun u hu => ?_) ?_
             rotate_left
             focus
               unfold Grows at hu
               go_simp
               try with_reducible rfl
             simp only [Act.put, List.setIfInBounds_toArray, List.set_cons_zero, List.set_cons_succ])
          | (refine wpL_pass (by kernel_rfl) (by kernel_rfl) (by kernel_rfl) (fun _ _ _ h => h) (by rfl) ?_; simp only [Act.put, List.setIfInBounds_toArray, List.set_cons_zero, List.set_cons_succ])
          | (refine wpL_do (by kernel_rfl) (by rfl) (fun K hK => ?_); go_simp; go_at_call 14; refine (hja _).mono ?_; rintro e w1 ⟨rfl, hB1⟩; replace hWd := bel_step hWd hB1; refine hK _ _ hB1 ?_; clear hK K hB1)
          | (refine wpL_do (by kernel_rfl) (by rfl) (fun K hK => ?_); go_simp; go_at_call 16; refine (awake6_any _).mono ?_; rintro e w1 ⟨rfl, hB1⟩; replace hWd := bel_step hWd hB1; refine hK _ _ hB1 ?_; clear hK K hB1))
        refine wpL_done (by kernel_rfl) ?_
        go_wp2_with fail
        go_ret
        exact ⟨rfl, hWd⟩
    · have hy : y = [] := by have := wput_bad (l := mfields ⟨n1, n2, n3, n4, n5, n6, n7, n8⟩) (by rw [HRB.out]; exact h2); rw [HRB.out] at this; exact this
      subst hy
      have hbe : (e2 != 0) = true := by simpa using h2
      have hbe2 : (e2 == 0) = false := by simpa using h2
      simp only [List.length_nil] at hown2 ⊢
      clear h2 hown1' hown2 hMm2 hMn2 hm hn HRA HRB
      go_wp2_with fail
      refine (awake6_any _).mono ?_
      rintro e w5 ⟨rfl, hB5⟩
      go_wp2_with fail
      go_ret
      exact ⟨rfl, bel_step hW2 hB5⟩
  · have hx : x = [] := by have := wput_bad (l := mfields ⟨m1, m2, m3, m4, m5, m6, m7, m8⟩) (by rw [HRA.out]; exact h1); rw [HRA.out] at this; exact this
    subst hx
    have hbe : (e1 != 0) = true := by simpa using h1
    have hbe2 : (e1 == 0) = false := by simpa using h1
    simp only [List.length_nil] at hown1' ⊢
    clear h1 hown1' hm hMm2
    by_cases h2 : e2 = 0
    · subst h2
      clear hown2 hMn2 hn HRA HRB
      go_wp2_with fail
      refine (awake6_any _).mono ?_
      rintro e w5 ⟨rfl, hB5⟩
      go_wp2_with fail
      go_ret
      exact ⟨rfl, bel_step hW2 hB5⟩
    · have hy : y = [] := by have := wput_bad (l := mfields ⟨n1, n2, n3, n4, n5, n6, n7, n8⟩) (by rw [HRB.out]; exact h2); rw [HRB.out] at this; exact this
      subst hy
      have hbf : (e2 != 0) = true := by simpa using h2
      have hbf2 : (e2 == 0) = false := by simpa using h2
      simp only [List.length_nil] at hown2 ⊢
      clear h2 hown2 hMn2 hn HRA HRB
      go_wp2_with fail
      refine (awake6_any _).mono ?_
      rintro e w5 ⟨rfl, hB5⟩
      go_wp2_with fail
      go_ret
      exact ⟨rfl, bel_step hW2 hB5⟩
end Go.Proofs.Ytkanhggmhjldmaa
