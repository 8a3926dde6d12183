/- WALKS: dataset.Same. -/
import Derived.Test.YtaahhommfpohhaaSlS
import Derived.RangeFuncBox
namespace Go.Proofs.Ytaahhommfpohhaa
open Go.RowKit

set_option maxRecDepth 100000 in
theorem same1_any (r1 r2 : RowH) (h1 : r1.vals.length ≤ 9223372036854775807) (h2 : r2.vals.length ≤ 9223372036854775807) (w : World) (hr1 : Rd w w.heap.size r1.adr (vvl r1.vals)) (hr2 : Rd w w.heap.size r2.adr (vvl r2.vals)) :
    Calls Try.prog 61 #[.slice r1.adr r1.vals.length r1.cap, .slice r2.adr r2.vals.length r2.cap] w fun e w' => e = .returned (.bool (req r1.vals r2.vals)) ∧ Below w.heap.size w w' := by
  have h := eqv_any r1.vals r2.vals r1.adr r2.adr r1.cap r2.cap h1 h2 w hr1 hr2
  obtain ⟨q, hq⟩ : ∃ q, req r1.vals r2.vals = q := ⟨_, rfl⟩
  rw [hq]
  unfold req at hq
  rw [hq] at h
  clear hr1 hr2 hq h1 h2
  generalize r1.vals.length = n1 at *
  generalize r2.vals.length = n2 at *
  go_enter Try.func61, Try.ntmps61
  go_wp2_with fail
  refine h.mono ?_
  rintro e w1 ⟨rfl, hB⟩
  go_wp2_with fail
  go_ret
  exact ⟨rfl, hB⟩
theorem cfs1 (args : Array Value) (W : World) : (callFunc 61 args).run Try.prog W = .ok (.enter 61 args) W := by go_simp
set_option maxRecDepth 100000 in
set_option maxHeartbeats 2000000 in
theorem eqf_any (l m : List RowH) (A1 A2 : Option Addr) (c1 c2 : Nat) (hl : l.length ≤ 9223372036854775807) (hm : m.length ≤ 9223372036854775807) (hl2 : ∀ r ∈ l, r.vals.length ≤ 9223372036854775807) (hm2 : ∀ r ∈ m, r.vals.length ≤ 9223372036854775807) (w : World)
    (hr1 : Rd w w.heap.size A1 (rcl l)) (hr2 : Rd w w.heap.size A2 (rcl m)) (hs1 : ∀ r ∈ l, Rd w w.heap.size r.adr (vvl r.vals)) (hs2 : ∀ r ∈ m, Rd w w.heap.size r.adr (vvl r.vals)) :
    Calls Try.prog 60 #[.slice A1 l.length c1, .slice A2 m.length c2, .func (.func 61) #[] #[]] w fun e w' => e = .returned (.bool (alleq req (l.map RowH.vals) (m.map RowH.vals))) ∧ Below w.heap.size w w' := by
  obtain ⟨q, hq⟩ : ∃ q, alleq req (l.map RowH.vals) (m.map RowH.vals) = q := ⟨_, rfl⟩
  rw [hq]
  have hcf := cfs1
  have hcall := fun (W : World) (hB : Below w.heap.size w W) (r1 : RowH) (h1 : r1 ∈ l) (r2 : RowH) (h2 : r2 ∈ m) => same1_any r1 r2 (hl2 r1 h1) (hm2 r2 h2) W (((hs1 r1 h1).below hB (Nat.le_refl _)).more hB.size) (((hs2 r2 h2).below hB (Nat.le_refl _)).more hB.size)
  have HQ := Lib.hid hq
  have HR1 := Lib.hid hr1
  have HR2 := Lib.hid hr2
  have HCALL := Lib.hid hcall
  obtain ⟨n, hn⟩ : ∃ n, l.length = n := ⟨_, rfl⟩
  obtain ⟨n2, hn2⟩ : ∃ n, m.length = n := ⟨_, rfl⟩
  rw [hn] at hl ⊢
  rw [hn2] at hm ⊢
  have HN := Lib.hid hn
  have HN2 := Lib.hid hn2
  clear hq hr1 hr2 hn hn2 hcall hs1 hs2 hl2 hm2
  by_cases hne : n = n2
  · subst hne
    go_enter Try.func60, Try.ntmps60
    go_wp2_with fail
    go_loopw [17] (fun i wr => ∃ j : Nat, i = .int .i64 j ∧ j ≤ n ∧ alleq req ((l.map RowH.vals).drop j) ((m.map RowH.vals).drop j) = q ∧ Below w.heap.size w wr) (fun i _ => n - (intOf i).toNat)
    case atStart => exact ⟨0, rfl, Nat.zero_le _, HQ.out, Below.refl _ _⟩
    case round =>
      obtain ⟨j, rfl, hj, he, hB⟩ := hrel
      have HE := Lib.hid he
      clear he
      by_cases hlt : j < n
      · obtain ⟨x, hx⟩ : ∃ x, l[j]? = some x := ⟨_, List.getElem?_eq_getElem (by rw [HN.out]; exact hlt)⟩
        obtain ⟨y, hy⟩ : ∃ y, m[j]? = some y := ⟨_, List.getElem?_eq_getElem (by rw [HN2.out]; exact hlt)⟩
        obtain ⟨b1, o1, rfl, hb1, g0⟩ := one_at (HR1.out.below hB (Nat.le_refl _)) hx
        obtain ⟨b2, o2, rfl, hb2, g1⟩ := one_at (HR2.out.below hB (Nat.le_refl _)) hy
        have hc := HCALL.out wr hB x (List.mem_of_getElem? hx) y (List.mem_of_getElem? hy)
        have he2 := HE.out
        rw [drop_cons (show (l.map RowH.vals)[j]? = some x.vals by rw [List.getElem?_map, hx]; rfl), drop_cons (show (m.map RowH.vals)[j]? = some y.vals by rw [List.getElem?_map, hy]; rfl), alleq] at he2
        obtain ⟨t, ht⟩ : ∃ t, req x.vals y.vals = t := ⟨_, rfl⟩
        rw [ht] at he2 hc
        obtain ⟨xa, xc, xv⟩ := x
        obtain ⟨ya, yc, yv⟩ := y
        simp only at g0 g1 hc
        generalize xv.length = xn at *
        generalize yv.length = yn at *
        clear hx hy HE ht
        go_wp2_with fail
        refine hc.mono ?_
        rintro e w1 ⟨rfl, hB1⟩
        have hB2 := bel_step hB hB1
        clear hc hB1
        cases t
        · rw [Bool.false_and] at he2
          subst he2
          go_wp2_with fail
          go_ret
          exact ⟨rfl, hB2⟩
        · rw [Bool.true_and] at he2
          have HE := Lib.hid he2
          clear he2
          go_wp2_with fail
          go_roundw
          case rel => exact ⟨j + 1, by go_num, by omega, HE.out, hB2⟩
          case measure => simp [intOf]; omega
      · rw [List.drop_eq_nil_of_le (by rw [List.length_map, HN.out]; omega), List.drop_eq_nil_of_le (by rw [List.length_map, HN2.out]; omega)] at HE
        have hq : true = q := HE.out
        subst hq
        clear HE
        go_wp2_with fail
        go_ret
        exact ⟨rfl, hB⟩
  · have hb : ((n : Int) != (n2 : Int)) = true := by simp; omega
    have hq : false = q := by rw [← HQ.out, alleq_len (by rw [List.length_map, List.length_map, HN.out, HN2.out]; exact hne)]
    subst hq
    clear hne
    go_enter Try.func60, Try.ntmps60
    go_wp2_with fail
    go_ret
    exact ⟨rfl, Below.refl _ _⟩
def dsame (a b : DS) : Bool := alleq seq a.cols b.cols && (alleq neq a.types b.types && alleq req a.plain b.plain)
set_option maxRecDepth 100000 in
set_option maxHeartbeats 2000000 in
theorem dsame_any (a b : DS) (ha : DSOk a) (hb : DSOk b) (w : World) (h1 : a.At w w.heap.size) (h2 : b.At w w.heap.size) :
    Calls Try.prog 37 #[a.agg, b.agg] w fun e w' => e = .returned (.bool (dsame a b)) ∧ Below w.heap.size w w' := by
  have e1 := fun W (hB : Below w.heap.size w W) => eqs_any a.cols b.cols a.A1 b.A1 a.c1 b.c1 ha.l1 hb.l1 W ((h1.r1.below hB (Nat.le_refl _)).more hB.size) ((h2.r1.below hB (Nat.le_refl _)).more hB.size)
  have e2 := fun W (hB : Below w.heap.size w W) => equ_any a.types b.types a.A2 b.A2 a.c2 b.c2 ha.l2 hb.l2 W ((h1.r2.below hB (Nat.le_refl _)).more hB.size) ((h2.r2.below hB (Nat.le_refl _)).more hB.size)
  have e3 := fun W (hB : Below w.heap.size w W) => eqf_any a.rows b.rows a.A3 b.A3 a.c3 b.c3 ha.l3 hb.l3 ha.ls hb.ls W ((h1.r3.below hB (Nat.le_refl _)).more hB.size) ((h2.r3.below hB (Nat.le_refl _)).more hB.size) (fun r hr => ((h1.rs r hr).below hB (Nat.le_refl _)).more hB.size) (fun r hr => ((h2.rs r hr).below hB (Nat.le_refl _)).more hB.size)
  obtain ⟨q, hq⟩ : ∃ q, dsame a b = q := ⟨_, rfl⟩
  rw [hq]
  unfold dsame DS.plain at hq
  generalize alleq seq a.cols b.cols = q1 at *
  generalize alleq neq a.types b.types = q2 at *
  generalize alleq req (a.rows.map RowH.vals) (b.rows.map RowH.vals) = q3 at *
  obtain ⟨A1, c1, cols, A2, c2, types, A3, c3, rows⟩ := a
  obtain ⟨B1, d1, cols', B2, d2, types', B3, d3, rows'⟩ := b
  unfold DS.agg
  simp only at e1 e2 e3 ⊢
  generalize cols.length = n1 at *
  generalize types.length = n2 at *
  generalize rows.length = n3 at *
  generalize cols'.length = m1 at *
  generalize types'.length = m2 at *
  generalize rows'.length = m3 at *
  have HQ := Lib.hid hq
  clear h1 h2 ha hb hq
  have hE0 : Below w.heap.size w ((w.alloc (Obj.cells #[.slice A1 n1 c1, .slice A2 n2 c2, .slice A3 n3 c3] 79)).alloc (Obj.cells #[.slice B1 m1 d1, .slice B2 m2 d2, .slice B3 m3 d3] 79)) := ((Below.refl _ w).alloc (Nat.le_refl _) _).alloc (by simp) _
  have hDa : BoxD ((w.alloc (Obj.cells #[.slice A1 n1 c1, .slice A2 n2 c2, .slice A3 n3 c3] 79)).alloc (Obj.cells #[.slice B1 m1 d1, .slice B2 m2 d2, .slice B3 m3 d3] 79)) w.heap.size (.slice A1 n1 c1) (.slice A2 n2 c2) (.slice A3 n3 c3) :=
    (Below.heap_alloc _ _ _ (by simp)).trans (World.alloc_heap_new w _)
  have hDb : BoxD ((w.alloc (Obj.cells #[.slice A1 n1 c1, .slice A2 n2 c2, .slice A3 n3 c3] 79)).alloc (Obj.cells #[.slice B1 m1 d1, .slice B2 m2 d2, .slice B3 m3 d3] 79)) (w.heap.size + 1) (.slice B1 m1 d1) (.slice B2 m2 d2) (.slice B3 m3 d3) := by
    have := World.alloc_heap_new (w.alloc (Obj.cells #[.slice A1 n1 c1, .slice A2 n2 c2, .slice A3 n3 c3] 79)) (Obj.cells #[.slice B1 m1 d1, .slice B2 m2 d2, .slice B3 m3 d3] 79)
    rw [World.size_alloc] at this
    exact this
  go_enter Try.func37, Try.ntmps37
  go_wp2_with fail
  refine (e1 _ hE0).mono ?_
  rintro e w1 ⟨rfl, hB1⟩
  have hW1 := bel_step hE0 hB1
  obtain ⟨x0, x1, x2⟩ := (hDa.below hB1).cells
  obtain ⟨y0, y1, y2⟩ := (hDb.below hB1).cells
  have hDa1 := hDa.below hB1
  have hDb1 := hDb.below hB1
  clear e1 hE0 hB1 hDa hDb
  cases q1
  · rw [Bool.false_and] at HQ
    have hq : false = q := HQ.out
    subst hq
    clear HQ
    go_wp2_with fail
    go_ret
    exact ⟨rfl, hW1⟩
  rw [Bool.true_and] at HQ
  go_wp2_with fail
  refine (e2 _ hW1).mono ?_
  rintro e w2 ⟨rfl, hB2⟩
  have hW2 := bel_step hW1 hB2
  clear x0 x1 x2 y0 y1 y2
  obtain ⟨x0, x1, x2⟩ := (hDa1.below hB2).cells
  obtain ⟨y0, y1, y2⟩ := (hDb1.below hB2).cells
  clear e2 hW1 hB2 hDa1 hDb1
  cases q2
  · rw [Bool.false_and] at HQ
    have hq : false = q := HQ.out
    subst hq
    clear HQ
    go_wp2_with fail
    go_ret
    exact ⟨rfl, hW2⟩
  rw [Bool.true_and] at HQ
  have hq : q3 = q := HQ.out
  subst hq
  clear HQ
  go_wp2_with fail
  refine (e3 _ hW2).mono ?_
  rintro e w3 ⟨rfl, hB3⟩
  go_wp2_with fail
  go_ret
  exact ⟨rfl, bel_step hW2 hB3⟩
end Go.Proofs.Ytaahhommfpohhaa
