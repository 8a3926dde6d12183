/- WALKS: crierref08.Same. -/
import Derived.Test.YtaahhommfpohhaaSlE
namespace Go.Proofs.Ytaahhommfpohhaa
open Go.RowKit

set_option maxRecDepth 100000 in
set_option maxHeartbeats 4000000 in
theorem rdsame_any (a b : DS) (ha : DSOk a) (hb : DSOk b) (w : World) (h1 : a.At w w.heap.size) (h2 : b.At w w.heap.size) :
    Calls Try.prog 41 #[a.agg, b.agg] w fun e w' => e = .returned (.bool (dsame a b)) ∧ Below w.heap.size w w' := by
  obtain ⟨q, hq⟩ : ∃ q, dsame a b = q := ⟨_, rfl⟩
  rw [hq]
  have HQ := Lib.hid hq
  have H1 := Lib.hid h1
  have H2 := Lib.hid h2
  have HA := Lib.hid ha
  have HB := Lib.hid hb
  have b1 := ha.l1
  have b2 := ha.l2
  have b3 := ha.l3
  have b4 := hb.l1
  have b5 := hb.l2
  have b6 := hb.l3
  clear h1 h2 ha hb hq
  obtain ⟨A1, c1, cols, A2, c2, types, A3, c3, rows⟩ := a
  obtain ⟨B1, d1, cols', B2, d2, types', B3, d3, rows'⟩ := b
  unfold DS.agg
  simp only at b1 b2 b3 b4 b5 b6 ⊢
  obtain ⟨n1, hn1⟩ : ∃ n, cols.length = n := ⟨_, rfl⟩
  obtain ⟨n2, hn2⟩ : ∃ n, types.length = n := ⟨_, rfl⟩
  obtain ⟨n3, hn3⟩ : ∃ n, rows.length = n := ⟨_, rfl⟩
  obtain ⟨m1, hm1⟩ : ∃ n, cols'.length = n := ⟨_, rfl⟩
  obtain ⟨m2, hm2⟩ : ∃ n, types'.length = n := ⟨_, rfl⟩
  obtain ⟨m3, hm3⟩ : ∃ n, rows'.length = n := ⟨_, rfl⟩
  rw [hn1] at b1 ⊢
  rw [hn2] at b2 ⊢
  rw [hn3] at b3 ⊢
  rw [hm1] at b4 ⊢
  rw [hm2] at b5 ⊢
  rw [hm3] at b6 ⊢
  have HN1 := Lib.hid hn1
  have HN2 := Lib.hid hn2
  have HN3 := Lib.hid hn3
  have HM1 := Lib.hid hm1
  have HM2 := Lib.hid hm2
  have HM3 := Lib.hid hm3
  clear hn1 hn2 hn3 hm1 hm2 hm3
  have hE0 : Below w.heap.size w ((w.alloc (Obj.cells #[.slice A1 n1 c1, .slice A2 n2 c2, .slice A3 n3 c3] 79)).alloc (Obj.cells #[.slice B1 m1 d1, .slice B2 m2 d2, .slice B3 m3 d3] 79)) := ((Below.refl _ w).alloc (Nat.le_refl _) _).alloc (by simp) _
  have hDa : BoxD ((w.alloc (Obj.cells #[.slice A1 n1 c1, .slice A2 n2 c2, .slice A3 n3 c3] 79)).alloc (Obj.cells #[.slice B1 m1 d1, .slice B2 m2 d2, .slice B3 m3 d3] 79)) w.heap.size (.slice A1 n1 c1) (.slice A2 n2 c2) (.slice A3 n3 c3) :=
    (Below.heap_alloc _ _ _ (by simp)).trans (World.alloc_heap_new w _)
  have hDb : BoxD ((w.alloc (Obj.cells #[.slice A1 n1 c1, .slice A2 n2 c2, .slice A3 n3 c3] 79)).alloc (Obj.cells #[.slice B1 m1 d1, .slice B2 m2 d2, .slice B3 m3 d3] 79)) (w.heap.size + 1) (.slice B1 m1 d1) (.slice B2 m2 d2) (.slice B3 m3 d3) := by
    have := World.alloc_heap_new (w.alloc (Obj.cells #[.slice A1 n1 c1, .slice A2 n2 c2, .slice A3 n3 c3] 79)) (Obj.cells #[.slice B1 m1 d1, .slice B2 m2 d2, .slice B3 m3 d3] 79)
    rw [World.size_alloc] at this
    exact this
  go_enter Try.func41, Try.ntmps41
  by_cases h1 : n1 = m1
  · by_cases h2 : n2 = m2
    · by_cases h3 : n3 = m3
      · subst h1 h2 h3
        have H1' := Lib.hid ((H1.out.below hE0 (Nat.le_refl _)).more hE0.size)
        have H2' := Lib.hid ((H2.out.below hE0 (Nat.le_refl _)).more hE0.size)
        have HQ2 : Hid ((alleq seq cols cols' && (alleq neq types types' && alleq req (rows.map RowH.vals) (rows'.map RowH.vals))) = q) := HQ
        clear H1 H2 HQ
        have H1 := H1'
        have H2 := H2'
        clear H1' H2'
        go_wp2_with fail
        generalize hW0 : (w.alloc (Obj.cells #[.slice A1 n1 c1, .slice A2 n2 c2, .slice A3 n3 c3] 79)).alloc (Obj.cells #[.slice B1 n1 d1, .slice B2 n2 d2, .slice B3 n3 d3] 79) = W0 at *
        clear hW0
        go_loopw [5] (fun i wr => ∃ j : Nat, i = .int .i64 j ∧ j ≤ n1 ∧ (alleq seq (cols.drop j) (cols'.drop j) && (alleq neq types types' && alleq req (rows.map RowH.vals) (rows'.map RowH.vals))) = q ∧ Below W0.heap.size W0 wr) (fun i _ => n1 - (intOf i).toNat)
        case atStart => exact ⟨0, rfl, Nat.zero_le _, HQ2.out, Below.refl _ _⟩
        case round =>
          obtain ⟨j, rfl, hj, he, hB⟩ := hrel
          have HE := Lib.hid he
          obtain ⟨x0, x1, x2⟩ := (hDa.below hB).cells
          obtain ⟨y0, y1, y2⟩ := (hDb.below hB).cells
          clear he
          by_cases hlt : j < n1
          · obtain ⟨x, hx⟩ : ∃ x, cols[j]? = some x := ⟨_, List.getElem?_eq_getElem (by rw [HN1.out]; exact hlt)⟩
            obtain ⟨y, hy⟩ : ∃ y, cols'[j]? = some y := ⟨_, List.getElem?_eq_getElem (by rw [HM1.out]; exact hlt)⟩
            obtain ⟨u1, o1, rfl, hu1, g0⟩ := one_at (H1.out.r1.below hB (Nat.le_refl _)) hx
            obtain ⟨u2, o2, rfl, hu2, g1⟩ := one_at (H2.out.r1.below hB (Nat.le_refl _)) hy
            have he2 := HE.out
            rw [drop_cons hx, drop_cons hy, alleq] at he2
            unfold seq at he2
            clear hx hy HE
            cases heq : (x.toList == y.toList)
            · rw [heq, Bool.false_and, Bool.false_and] at he2
              subst he2
              go_wp2_with fail
              go_quiet (fail)
              go_wp2_with fail
              go_ret
              exact ⟨rfl, bel_step hE0 (below_drewN hB nq)⟩
            · rw [heq, Bool.true_and] at he2
              have HE := Lib.hid he2
              clear he2
              go_wp2_with fail
              go_quiet (fail)
              go_wp2_with fail
              go_roundw
              case rel => exact ⟨j + 1, by go_num, by omega, HE.out, below_drewN hB nq⟩
              case measure => simp [intOf]; omega
          · rw [List.drop_eq_nil_of_le (by rw [HN1.out]; omega), List.drop_eq_nil_of_le (by rw [HM1.out]; omega), show alleq seq [] [] = true from rfl, Bool.true_and] at HE
            have HQ2 := HE
            clear hj HE
            go_wp2_with fail
            clear x0 x1 x2 y0 y1 y2
            have hB1 := hB
            go_loopw [6] (fun i wr => ∃ j : Nat, i = .int .i64 j ∧ j ≤ n2 ∧ (alleq neq (types.drop j) (types'.drop j) && alleq req (rows.map RowH.vals) (rows'.map RowH.vals)) = q ∧ Below W0.heap.size W0 wr) (fun i _ => n2 - (intOf i).toNat)
            case atStart => exact ⟨0, rfl, Nat.zero_le _, HQ2.out, hB1⟩
            case round =>
              obtain ⟨j, rfl, hj, he, hB⟩ := hrel
              have HE := Lib.hid he
              obtain ⟨x0, x1, x2⟩ := (hDa.below hB).cells
              obtain ⟨y0, y1, y2⟩ := (hDb.below hB).cells
              clear he
              by_cases hlt : j < n2
              · obtain ⟨x, hx⟩ : ∃ x, types[j]? = some x := ⟨_, List.getElem?_eq_getElem (by rw [HN2.out]; exact hlt)⟩
                obtain ⟨y, hy⟩ : ∃ y, types'[j]? = some y := ⟨_, List.getElem?_eq_getElem (by rw [HM2.out]; exact hlt)⟩
                obtain ⟨u1, o1, rfl, hu1, g0⟩ := one_at (H1.out.r2.below hB (Nat.le_refl _)) hx
                obtain ⟨u2, o2, rfl, hu2, g1⟩ := one_at (H2.out.r2.below hB (Nat.le_refl _)) hy
                have he2 := HE.out
                rw [drop_cons hx, drop_cons hy, alleq] at he2
                unfold neq at he2
                clear hx hy HE
                cases heq : ((x : Int) == (y : Int))
                · rw [heq, Bool.false_and, Bool.false_and] at he2
                  subst he2
                  go_wp2_with fail
                  go_quiet (fail)
                  go_wp2_with fail
                  go_ret
                  exact ⟨rfl, bel_step hE0 (below_drewN hB nq)⟩
                · rw [heq, Bool.true_and] at he2
                  have HE := Lib.hid he2
                  clear he2
                  go_wp2_with fail
                  go_quiet (fail)
                  go_wp2_with fail
                  go_roundw
                  case rel => exact ⟨j + 1, by go_num, by omega, HE.out, below_drewN hB nq⟩
                  case measure => simp [intOf]; omega
              · rw [List.drop_eq_nil_of_le (by rw [HN2.out]; omega), List.drop_eq_nil_of_le (by rw [HM2.out]; omega), show alleq neq [] [] = true from rfl, Bool.true_and] at HE
                have HQ2 := HE
                clear hj HE
                go_wp2_with fail
                go_loopw [7] (fun i wr => ∃ j : Nat, i = .int .i64 j ∧ j ≤ n3 ∧ alleq req ((rows.map RowH.vals).drop j) ((rows'.map RowH.vals).drop j) = q ∧ Below W0.heap.size W0 wr) (fun i _ => n3 - (intOf i).toNat)
                case atStart => exact ⟨0, rfl, Nat.zero_le _, HQ2.out, hB⟩
                case round =>
                  clear hB x0 x1 x2 y0 y1 y2
                  obtain ⟨j, rfl, hj, he, hB⟩ := hrel
                  have HE := Lib.hid he
                  obtain ⟨x0, x1, x2⟩ := (hDa.below hB).cells
                  obtain ⟨y0, y1, y2⟩ := (hDb.below hB).cells
                  clear he
                  by_cases hlt : j < n3
                  · obtain ⟨x, hx⟩ : ∃ x, rows[j]? = some x := ⟨_, List.getElem?_eq_getElem (by rw [HN3.out]; exact hlt)⟩
                    obtain ⟨y, hy⟩ : ∃ y, rows'[j]? = some y := ⟨_, List.getElem?_eq_getElem (by rw [HM3.out]; exact hlt)⟩
                    obtain ⟨u1, o1, rfl, hu1, g0⟩ := one_at (H1.out.r3.below (Below.refl _ _) (Nat.le_refl _)) hx
                    obtain ⟨u2, o2, rfl, hu2, g1⟩ := one_at (H2.out.r3.below (Below.refl _ _) (Nat.le_refl _)) hy
                    have hxr := H1.out.rs x (List.mem_of_getElem? hx)
                    have hyr := H2.out.rs y (List.mem_of_getElem? hy)
                    have hxl := HA.out.ls x (List.mem_of_getElem? hx)
                    have hyl := HB.out.ls y (List.mem_of_getElem? hy)
                    have he2 := HE.out
                    rw [drop_cons (show (rows.map RowH.vals)[j]? = some x.vals by rw [List.getElem?_map, hx]; rfl), drop_cons (show (rows'.map RowH.vals)[j]? = some y.vals by rw [List.getElem?_map, hy]; rfl), alleq] at he2
                    obtain ⟨xa, xc, xv⟩ := x
                    obtain ⟨ya, yc, yv⟩ := y
                    simp only at g0 g1 hxr hyr he2 hxl hyl
                    obtain ⟨xl, hXX⟩ : ∃ k, xv.length = k := ⟨_, rfl⟩
                    obtain ⟨yl, hYY⟩ : ∃ k, yv.length = k := ⟨_, rfl⟩
                    rw [hXX] at g0 hxl
                    rw [hYY] at g1 hyl
                    have HG := Lib.hid (And.intro g0 g1)
                    have HX := Lib.hid hXX
                    have HY := Lib.hid hYY
                    have HX2 := Lib.hid hxr
                    have HY2 := Lib.hid hyr
                    have HE2 := Lib.hid he2
                    replace g0 := (hB.cell (p := ⟨u1, o1 + j, none⟩) hu1).trans g0
                    replace g1 := (hB.cell (p := ⟨u2, o2 + j, none⟩) hu2).trans g1
                    clear hx hy HE hXX hYY hxr hyr he2
                    by_cases hll : xl = yl
                    · subst hll
                      have HE := HE2
                      unfold req at HE
                      clear HE2
                      go_wp2_with fail
                      go_quiet (fail)
                      replace hB := below_drewN hB nq
                      obtain ⟨x0', x1', x2'⟩ := (hDa.below hB).cells
                      obtain ⟨y0', y1', y2'⟩ := (hDb.below hB).cells
                      clear x0 x1 x2 y0 y1 y2 g0 g1
                      have g0 := (hB.cell (p := ⟨u1, o1 + j, none⟩) hu1).trans HG.out.1
                      have g1 := (hB.cell (p := ⟨u2, o2 + j, none⟩) hu2).trans HG.out.2
                      have x0 := x0'
                      have x1 := x1'
                      have x2 := x2'
                      have y0 := y0'
                      have y1 := y1'
                      have y2 := y2'
                      clear x0' x1' x2' y0' y1' y2'
                      generalize wr.drewN nq = W3 at *
                      go_wp2_with fail
                      go_loopw [8] (fun k wz => ∃ i : Nat, k = .int .i64 i ∧ i ≤ xl ∧ (alleq veq (xv.drop i) (yv.drop i) && alleq req ((rows.map RowH.vals).drop (j + 1)) ((rows'.map RowH.vals).drop (j + 1))) = q ∧ Below W0.heap.size W0 wz) (fun k _ => xl - (intOf k).toNat)
                      case atStart => exact ⟨0, rfl, Nat.zero_le _, HE.out, hB⟩
                      case round =>
                        clear hB x0 x1 x2 y0 y1 y2 g0 g1 HE
                        obtain ⟨i, rfl, hi, he, hB⟩ := hrel
                        have HE := Lib.hid he
                        obtain ⟨x0, x1, x2⟩ := (hDa.below hB).cells
                        obtain ⟨y0, y1, y2⟩ := (hDb.below hB).cells
                        have g0 := (hB.cell (p := ⟨u1, o1 + j, none⟩) hu1).trans HG.out.1
                        have g1 := (hB.cell (p := ⟨u2, o2 + j, none⟩) hu2).trans HG.out.2
                        clear he
                        by_cases hlt2 : i < xl
                        · obtain ⟨x, hx⟩ : ∃ x, xv[i]? = some x := ⟨_, List.getElem?_eq_getElem (by rw [HX.out]; exact hlt2)⟩
                          obtain ⟨y, hy⟩ : ∃ y, yv[i]? = some y := ⟨_, List.getElem?_eq_getElem (by rw [HY.out]; exact hlt2)⟩
                          obtain ⟨v1, p1, rfl, hv1, s0, s1, s2⟩ := val_at (HX2.out.below hB (Nat.le_refl _)) hx
                          obtain ⟨v2, p2, rfl, hv2, t0, t1, t2⟩ := val_at (HY2.out.below hB (Nat.le_refl _)) hy
                          have he2 := HE.out
                          rw [drop_cons hx, drop_cons hy, alleq] at he2
                          obtain ⟨xk, xn, xs⟩ := x
                          obtain ⟨yk, yn, ys⟩ := y
                          unfold veq seq at he2
                          simp only at he2 s0 s1 s2 t0 t1 t2
                          have HE2 := Lib.hid he2
                          clear hx hy HE he2
                          cases e0 : (xk == yk) <;> cases e1 : ((xn : Int) == (yn : Int)) <;> cases e2 : (xs.toList == ys.toList)
                          all_goals
                            have he2 := HE2.out
                            rw [e0, e1, e2] at he2
                            simp only [Bool.and_self, Bool.and_true, Bool.true_and, Bool.false_and, Bool.and_false] at he2
                          rotate_right
                          · have HE := Lib.hid he2
                            clear he2 HE2
                            go_wp2_with fail
                            go_quiet (fail)
                            go_wp2_with fail
                            go_roundw
                            case rel => exact ⟨i + 1, by go_num, by omega, HE.out, below_drewN hB nq⟩
                            case measure => simp [intOf]; omega
                          all_goals
                            subst he2
                            clear HE2
                            go_wp2_with fail
                            go_quiet (fail)
                            go_wp2_with fail
                            go_ret
                            exact ⟨rfl, bel_step hE0 (below_drewN hB nq)⟩
                        · rw [List.drop_eq_nil_of_le (by rw [HX.out]; omega), List.drop_eq_nil_of_le (by rw [HY.out]; omega), show alleq veq [] [] = true from rfl, Bool.true_and] at HE
                          clear hi
                          go_wp2_with fail
                          go_roundw
                          case rel => exact ⟨j + 1, by go_num, by omega, HE.out, hB⟩
                          case measure => simp [intOf]; omega
                    · have hbn : ((xl : Int) != (yl : Int)) = true := by simp; omega
                      have hq : false = q := by rw [← HE2.out]; unfold req; rw [alleq_len (by rw [HX.out, HY.out]; exact hll), Bool.false_and]
                      subst hq
                      clear hll HE2
                      go_wp2_with fail
                      go_quiet (fail)
                      go_wp2_with fail
                      go_ret
                      exact ⟨rfl, bel_step hE0 (below_drewN hB nq)⟩
                  · rw [List.drop_eq_nil_of_le (by rw [List.length_map, HN3.out]; omega), List.drop_eq_nil_of_le (by rw [List.length_map, HM3.out]; omega)] at HE
                    have hq : true = q := HE.out
                    subst hq
                    clear HE
                    go_wp2_with fail
                    go_ret
                    exact ⟨rfl, bel_step hE0 hB⟩
      · have hb3 : ((n3 : Int) != (m3 : Int)) = true := by simp; omega
        subst h1 h2
        have hq : false = q := by rw [← HQ.out]; unfold dsame; simp only [DS.plain]; rw [alleq_len (l := rows.map RowH.vals) (m := rows'.map RowH.vals) (by rw [List.length_map, List.length_map, HN3.out, HM3.out]; exact h3)]; simp
        subst hq
        clear HQ
        go_wp2_with fail
        go_ret
        exact ⟨rfl, hE0⟩
    · have hb2 : ((n2 : Int) != (m2 : Int)) = true := by simp; omega
      subst h1
      have hq : false = q := by rw [← HQ.out]; unfold dsame; simp only [DS.plain]; rw [alleq_len (l := types) (m := types') (by rw [HN2.out, HM2.out]; exact h2)]; simp
      subst hq
      clear HQ
      go_wp2_with fail
      go_ret
      exact ⟨rfl, hE0⟩
  · have hb1 : ((n1 : Int) != (m1 : Int)) = true := by simp; omega
    have hq : false = q := by rw [← HQ.out]; unfold dsame; simp only [DS.plain]; rw [alleq_len (l := cols) (m := cols') (by rw [HN1.out, HM1.out]; exact h1)]; simp
    subst hq
    clear HQ
    go_wp2_with fail
    go_ret
    exact ⟨rfl, hE0⟩
end Go.Proofs.Ytaahhommfpohhaa
