/- WALK: dataset.Of (printed by gendsod.py) -/
import Derived.Test.YtlgokfgbcohioaaDoorDsOd0M
namespace Go.Proofs.YtlgokfgbcohioaaDoor
open Go.RowKit Plain

theorem u32_wrap {n : Nat} (h : n < 4294967296) : IntKind.u32.wrap (n : Int) = (n : Int) := by
  simp [IntKind.wrap, IntKind.signed, IntKind.bits]
  omega
set_option maxRecDepth 100000 in
set_option maxHeartbeats 8000000 in
theorem dof_any (b : List UInt8) (A : Option Addr) (n c : Nat) (hn : b.length = n) (hnc : n ≤ c) (hcm : c ≤ 9223372036854775807) (w : World) (hr : Rd w w.heap.size A (bcl b)) (hK : Kinds w) :
    Calls Tryd.prog 36 #[.slice A n c] w (DPost (dof b) w) := by
  obtain ⟨q, hq⟩ : ∃ q, dof b = q := ⟨_, rfl⟩
  rw [hq]
  unfold dof at hq
  have hX0 : BoxD (w.alloc (.cells #[.slice none 0 0, .slice none 0 0, .slice none 0 0] 26)) w.heap.size (.slice none 0 0) (.slice none 0 0) (.slice none 0 0) := World.alloc_heap_new w _
  have hE0 : Below w.heap.size w (w.alloc (.cells #[.slice none 0 0, .slice none 0 0, .slice none 0 0] 26)) := (Below.refl _ w).alloc (Nat.le_refl _) _
  have hof := of_any b A n c hn hnc hcm _ ((hr.below hE0 (Nat.le_refl _)).more hE0.size)
  unfold OfPost at hof
  have HRD := Lib.hid (wof_rd b)
  have h256 := wof_256R b
  obtain ⟨o, ho⟩ : ∃ o, wof b = o := ⟨_, rfl⟩
  rw [ho] at hof hq HRD h256
  obtain ⟨l, er⟩ := o
  simp only at hof hq HRD h256
  have HQ := Lib.hid hq
  obtain ⟨m, hm⟩ : ∃ m, l.length = m := ⟨_, rfl⟩
  rw [hm] at hof h256
  have HM := Lib.hid hm
  clear ho hq hm hr hn
  go_enter Tryd.func36, Tryd.ntmps36
  go_wp2_with fail
  refine hof.mono ?_
  rintro e w1 ⟨A1, c1, rfl, ho1, hB1⟩
  have hX1 := hX0.below hB1
  have hW1 := bel_step hE0 hB1
  clear hof hX0 hE0 hB1
  by_cases he : er = 0
  rotate_left
  · have hbe : ((er : Int) != 0) = true := by simp; omega
    have HQ2 : Hid (q = (DTab.none, (er : Int))) := Lib.hid (by have := HQ.out; rw [if_neg he] at this; exact this.symm)
    obtain ⟨x0, x1, x2⟩ := hX1.cells
    have y0 := hX1.frozen 0
    have y1 := hX1.frozen 1
    have y2 := hX1.frozen 2
    clear he HQ ho1 hX1
    go_wp2_with fail
    refine bodyPost_ret (v := .tuple #[.agg #[.slice none 0 0, .slice none 0 0, .slice none 0 0], .int .i64 (er : Int)]) ?_ rfl (dpost_err HQ2.out (below_set3v hW1 (Nat.le_refl _) _ _ _))
    rw [results_cell_tmp rfl]; go_simp
  subst he
  have hso := dsort_any l A1 c1 (by rw [HM.out]; exact h256) w1 (Rd.of_own ho1) (fun f hf => (HRD.out f hf).2.2.2.2.1)
  rw [HM.out] at hso
  unfold SPost at hso
  have HQ2 : Hid ((if dsorted l = 0 then (if ferr ((wall 4 l).map fun f => (drd f.text.data.toList (wall 2 l).length).2) = 0 then (⟨(wall 2 l).map Fld.text, (wall 3 l).map Fld.val, (wall 4 l).map fun f => (drd f.text.data.toList (wall 2 l).length).1⟩, 0) else (DTab.none, ferr ((wall 4 l).map fun f => (drd f.text.data.toList (wall 2 l).length).2))) else (DTab.none, dsorted l)) = q) := Lib.hid (by have := HQ.out; rwa [if_pos rfl] at this)
  have HSO := Lib.hid (dsorted_ok (l := l))
  obtain ⟨ds, hds⟩ : ∃ d, dsorted l = d := ⟨_, rfl⟩
  rw [hds] at hso HQ2 HSO
  clear HQ ho1 hds
  go_wp2_with fail
  refine hso.mono ?_
  rintro e w2 ⟨N, T, R, A2, c2, A3, c3, A4, c4, rfl, hrr, hlk, hB2⟩
  have hX2 := hX1.below hB2
  have hW2 := bel_step hW1 hB2
  have HLK := Lib.hid hlk
  have HRR := Lib.hid hrr
  clear hso hX1 hB2 hlk hrr hW1
  obtain ⟨nn, hnn⟩ : ∃ k, N.length = k := ⟨_, rfl⟩
  obtain ⟨nt, hnt⟩ : ∃ k, T.length = k := ⟨_, rfl⟩
  obtain ⟨nr, hnr⟩ : ∃ k, R.length = k := ⟨_, rfl⟩
  rw [hnn, hnt, hnr]
  have HLN := Lib.hid (And.intro hnn (And.intro hnt hnr))
  clear hnn hnt hnr
  have hS3 : BoxS (w2.alloc (Obj.cells #[.slice A2 nn c2, .slice A3 nt c3, .slice A4 nr c4] 102)) w2.heap.size (.slice A2 nn c2) (.slice A3 nt c3) (.slice A4 nr c4) := World.alloc_heap_new w2 _
  have hX3 := hX2.alloc (Obj.cells #[.slice A2 nn c2, .slice A3 nt c3, .slice A4 nr c4] 102)
  have hW3 := hW2.alloc hW2.size (Obj.cells #[.slice A2 nn c2, .slice A3 nt c3, .slice A4 nr c4] 102)
  have h23 := (Below.refl w2.heap.size w2).alloc (Nat.le_refl _) (Obj.cells #[.slice A2 nn c2, .slice A3 nt c3, .slice A4 nr c4] 102)
  by_cases h0 : ds = 0
  rotate_left
  · have hbe : (ds != 0) = true := by simpa using h0
    have HQ3 : Hid (q = (DTab.none, ds)) := Lib.hid (by have := HQ2.out; rw [if_neg h0] at this; exact this.symm)
    obtain ⟨x0, x1, x2⟩ := hX2.cells
    have y0 := hX2.frozen 0
    have y1 := hX2.frozen 1
    have y2 := hX2.frozen 2
    have hxl := hX2.lt
    clear h0 HQ2 hS3 hX3 hX2 hW3 h23
    go_wp2_with fail
    refine bodyPost_ret (v := .tuple #[.agg #[.slice none 0 0, .slice none 0 0, .slice none 0 0], .int .i64 ds]) ?_ rfl (dpost_err HQ3.out (bel_sa hW2 (Nat.le_refl _)))
    rw [results_cell_tmp rfl]; go_simp
  subst h0
  have hrr := HRR.out
  have hlk := HLK.out rfl
  have hso := HSO.out rfl
  obtain ⟨l1, l2, l3⟩ := HLN.out
  rw [← hlk.1, ← hlk.2.1, ← hlk.2.2, l1, l2, l3] at hso
  obtain ⟨_, k2, k3, k4, k23, _⟩ := hso
  have HTY : Hid (∀ f ∈ T, f.val < 4294967296) := Lib.hid (by rw [hlk.2.1]; exact dtype_lt (HSO.out rfl).1)
  have HSZT : Hid (∀ f ∈ R, f.text.size ≤ 4096) := Lib.hid (by
    intro f hf
    rw [hlk.2.2] at hf
    obtain ⟨_, _, _, _, _, h⟩ := HRD.out f (wall_mem hf).1
    exact h)
  have HQ3 : Hid ((if ferr (R.map fun f => (drd f.text.data.toList nn).2) = 0 then (⟨N.map Fld.text, T.map Fld.val, R.map fun f => (drd f.text.data.toList nn).1⟩, 0) else (DTab.none, ferr (R.map fun f => (drd f.text.data.toList nn).2))) = q) := Lib.hid (by
    have := HQ2.out
    rw [if_pos rfl, ← hlk.1, ← hlk.2.1, ← hlk.2.2, l1] at this
    exact this)
  have HN := Lib.hid l1
  have HT := Lib.hid l2
  have HR := Lib.hid l3
  subst k23
  have hrN := (hrr.1.below h23 (Nat.le_refl _)).more h23.size
  have hrT := (hrr.2.1.below h23 (Nat.le_refl _)).more h23.size
  have hrR := (hrr.2.2.below h23 (Nat.le_refl _)).more h23.size
  have hs6 : w2.heap.size < w2.heap.size + 1 := Nat.lt_succ_self _
  have hz : (w2.alloc (Obj.cells #[.slice A2 nn c2, .slice A3 nn c3, .slice A4 nr c4] 102)).heap.size = w2.heap.size + 1 := by simp
  have hK3 := hK.below hW3 hK.pos
  clear hrr hlk l1 l2 l3 HQ2 HSO HLK HRR HLN hX2 hW2 h23 hK HRD
  go_wp2_with fail
  generalize w2.alloc (Obj.cells #[.slice A2 nn c2, .slice A3 nn c3, .slice A4 nr c4] 102) = Wb at *
  obtain ⟨⟨s0, s1, s2⟩, _, _, _⟩ := hS3.cells
  have hD0 : BoxD (Wb.alloc (.cells #[.slice none 0 0, .slice none 0 0, .slice none 0 0] 26)) (w2.heap.size + 1) (.slice none 0 0) (.slice none 0 0) (.slice none 0 0) := by have := World.alloc_heap_new Wb (.cells #[.slice none 0 0, .slice none 0 0, .slice none 0 0] 26); rw [hz] at this; exact this
  have hB0 : Below (w2.heap.size + 1) Wb (Wb.alloc (.cells #[.slice none 0 0, .slice none 0 0, .slice none 0 0] 26)) := (Below.refl _ _).alloc (by rw [hz]; exact Nat.le_refl _) _
  rw [hz] at hrN hrT hrR
  have hwl : w.heap.size < w2.heap.size + 1 := by have := hX3.lt; omega
  go_loopw [33] (fun i wr => ∃ (j : Nat) (A5 : Option Addr) (c5 : Nat) (A6 : Option Addr) (c6 : Nat), i = .int .i64 j ∧ j ≤ nn ∧ BoxD wr (w2.heap.size + 1) (.slice A5 j c5) (.slice A6 j c6) (.slice none 0 0) ∧
    wr.ownsRow ((w2.heap.size + 1) + 1) 9 1 (.slice A5 j c5) j (scl ((N.take j).map Fld.text)) ∧ wr.ownsRow ((w2.heap.size + 1) + 1) 69 1 (.slice A6 j c6) j (ucl ((T.take j).map Fld.val)) ∧ Below (w2.heap.size + 1) Wb wr) (fun i _ => nn - (intOf i).toNat)
  case atStart => exact ⟨0, none, 0, none, 0, rfl, Nat.zero_le _, hD0, World.ownsRow_nil _ _ _ _, World.ownsRow_nil _ _ _ _, hB0⟩
  case round =>
    clear hD0 hB0
    obtain ⟨j, A5, c5, A6, c6, rfl, hj, hD, ho1, ho2, hBw⟩ := hrel
    have hs : (w2.heap.size + 1) ≤ wr.heap.size := hz ▸ hBw.size
    have v0 := (hBw.cell (p := ⟨w2.heap.size, 0, none⟩) hs6).trans s0
    have v1 := (hBw.cell (p := ⟨w2.heap.size, 1, none⟩) hs6).trans s1
    have v2 := (hBw.cell (p := ⟨w2.heap.size, 2, none⟩) hs6).trans s2
    by_cases hlt : j < nn
    · obtain ⟨f, hf⟩ : ∃ f, N[j]? = some f := ⟨_, List.getElem?_eq_getElem (by rw [HN.out]; exact hlt)⟩
      obtain ⟨g, hg⟩ : ∃ f, T[j]? = some f := ⟨_, List.getElem?_eq_getElem (by rw [HT.out]; exact hlt)⟩
      obtain ⟨bN, oN, rfl, hbN, q0, _, _, q3⟩ := fld_at hrN hf
      obtain ⟨bT, oT, rfl, hbT, p0, _, q2, _⟩ := fld_at hrT hg
      have htv := HTY.out g (List.mem_of_getElem? hg)
      have HT1 : Hid (scl ((N.take (j + 1)).map Fld.text) = scl ((N.take j).map Fld.text) ++ [.string f.text]) := Lib.hid (by rw [List.take_add_one, hf]; simp [scl])
      have HT2 : Hid (ucl ((T.take (j + 1)).map Fld.val) = ucl ((T.take j).map Fld.val) ++ [.int .u32 g.val]) := Lib.hid (by rw [List.take_add_one, hg]; simp [ucl])
      clear hf hg q0 p0
      obtain ⟨nnum, nkind, nval, ntext⟩ := f
      obtain ⟨tnum, tkind, tval, ttext⟩ := g
      simp only at q3 q2 htv HT1 HT2
      have HWR := Lib.hid (u32_wrap htv)
      go_wp2_with fail
      have hD := (show BoxD wr.drew (w2.heap.size + 1) _ _ _ from hD)
      have ho1 := (show World.ownsRow wr.drew _ _ _ _ _ _ from ho1)
      have ho2 := (show World.ownsRow wr.drew _ _ _ _ _ _ from ho2)
      have hBw := hBw.drew
      have f0 := fun u (hu : Below (w2.heap.size + 1) wr.drew u) => (hBw.trans hu).cell (p := ⟨w2.heap.size, 0, none⟩) hs6
      have f1 := fun u (hu : Below (w2.heap.size + 1) wr.drew u) => (hBw.trans hu).cell (p := ⟨bN, oN + j * 4 + 3, none⟩) hbN
      simp only [s0, q3] at f0 f1
      have hal : Below (w2.heap.size + 1) wr.drew (wr.drew.alloc (Obj.cells #[.string ntext] 9)) := (Below.refl _ _).alloc (by have := hBw.size; rw [hz] at this; exact this) _
      have hbb : (w2.heap.size + 1) + 1 ≤ (wr.drew.alloc (Obj.cells #[.string ntext] 9)).heap.size := by have := hD.lt; simp at this ⊢; omega
      obtain ⟨z0, z1, z2⟩ := hD.cells
      obtain ⟨zz0, zz1, zz2⟩ := (hD.alloc (Obj.cells #[.string ntext] 9)).cells
      clear v0 v1 v2 hs
      refine wp_region_LG (belB (w2.heap.size + 1)) 12 [0, 2, 3, 4, 5, 6, 7, 1, 8, 9, 10, 11] rfl (by decide) (by decide) (by kernel_rfl) ?_
      generalize wr.drew = W2 at *
      simp only [List.filterMap_cons, List.filterMap_nil, List.getElem?_cons_zero, List.getElem?_cons_succ, Option.map_some]
      refine wpL_takeG _ (v := ?_) (by kernel_rfl) (by kernel_rfl) (by kernel_rfl) (fun _ _ _ h => h) (by rfl) (fun u hu => ?_) ?_
      rotate_left
      focus
        replace hu : Below (w2.heap.size + 1) W2 u := hu
        go_simp
        try with_reducible rfl
      simp only [Act.put, List.setIfInBounds_toArray, List.set_cons_zero, List.set_cons_succ]
      refine wpL_takeG _ (v := ?_) (by kernel_rfl) (by kernel_rfl) (by kernel_rfl) (fun _ _ _ h => h) (by rfl) (fun u hu => ?_) ?_
      rotate_left
      focus
        replace hu : Below (w2.heap.size + 1) W2 u := hu
        go_simp
        try with_reducible rfl
      simp only [Act.put, List.setIfInBounds_toArray, List.set_cons_zero, List.set_cons_succ]
      refine wpL_takeG _ (v := ?_) (by kernel_rfl) (by kernel_rfl) (by kernel_rfl) (fun _ _ _ h => h) (by rfl) (fun u hu => ?_) ?_
      rotate_left
      focus
        replace hu : Below (w2.heap.size + 1) W2 u := hu
        go_simp
        try with_reducible rfl
      simp only [Act.put, List.setIfInBounds_toArray, List.set_cons_zero, List.set_cons_succ]
      refine wpL_takeG _ (v := ?_) (by kernel_rfl) (by kernel_rfl) (by kernel_rfl) (fun _ _ _ h => h) (by rfl) (fun u hu => ?_) ?_
      rotate_left
      focus
        replace hu : Below (w2.heap.size + 1) W2 u := hu
        go_simp
        try with_reducible rfl
      simp only [Act.put, List.setIfInBounds_toArray, List.set_cons_zero, List.set_cons_succ]
      refine wpL_takeG _ (v := ?_) (by kernel_rfl) (by kernel_rfl) (by kernel_rfl) (fun _ _ _ h => h) (by rfl) (fun u hu => ?_) ?_
      rotate_left
      focus
        replace hu : Below (w2.heap.size + 1) W2 u := hu
        go_simp
        try with_reducible rfl
      simp only [Act.put, List.setIfInBounds_toArray, List.set_cons_zero, List.set_cons_succ]
      refine wpL_takeG _ (v := ?_) (by kernel_rfl) (by kernel_rfl) (by kernel_rfl) (fun _ _ _ h => h) (by rfl) (fun u hu => ?_) ?_
      rotate_left
      focus
        replace hu : Below (w2.heap.size + 1) W2 u := hu
        go_simp
        try with_reducible rfl
      simp only [Act.put, List.setIfInBounds_toArray, List.set_cons_zero, List.set_cons_succ]
      refine wpL_takeG _ (v := ?_) (by kernel_rfl) (by kernel_rfl) (by kernel_rfl) (fun _ _ _ h => h) (by rfl) (fun u hu => ?_) ?_
      rotate_left
      focus
        replace hu : Below (w2.heap.size + 1) W2 u := hu
        go_simp
        try with_reducible rfl
      simp only [Act.put, List.setIfInBounds_toArray, List.set_cons_zero, List.set_cons_succ]
      refine wpL_do2G _ (by kernel_rfl) (by rfl) (by rfl) (fun K hK => ?_) (fun K hK => ?_)
      · go_simp
        refine hK _ _ (Below.refl _ _) ?_
        clear hK K
        refine wpL_doG _ (by kernel_rfl) (by rfl) (fun K hK => ?_)
        go_simp
        refine hK _ _ hal ?_
        clear hK K
        refine wpL_doG _ (by kernel_rfl) (by rfl) (fun K hK => ?_)
        refine wp_app (.tmp 37) (.tmp 44) 22 rfl elemS rfl (ho1.alloc _) rfl (Rd.cells W2 #[.string ntext] _) rfl (by intro u hu; simp at hu; subst hu; rfl) (by unfold maxLen; omega) (by omega) hbb ?_
        intro A5 c5 w5 ho5 hg5 _
        have hgb := (own_grown (Below.refl _ _) (ho1.alloc (Obj.cells #[.string ntext] 9)) hbb hg5).mono (Nat.le_succ (w2.heap.size + 1))
        have hD5 := (hD.alloc (Obj.cells #[.string ntext] 9)).grown (ho1.alloc _) (by decide) hg5
        have ho2k := own_two (ho2.alloc (Obj.cells #[.string ntext] 9)) (ho1.alloc _) (by decide) hg5
        obtain ⟨z0, z1, z2⟩ := hD5.cells
        have y0 := hD5.frozen 0
        have hD6 := hD5.set0 (.slice A5 (j + 1) c5)
        have hst : Below (w2.heap.size + 1) w5 (w5.setCell ⟨w2.heap.size + 1, 0, none⟩ (.slice A5 (j + 1) c5)) := (Below.refl (w2.heap.size + 1) w5).setCell (p := ⟨w2.heap.size + 1, 0, none⟩) (Nat.le_refl _) _
        refine hK _ _ hgb ?_
        clear hK K
        simp only [Act.put, List.setIfInBounds_toArray, List.set_cons_zero, List.set_cons_succ]
        refine wpL_takeG _ (v := ?_) (by kernel_rfl) (by kernel_rfl) (by kernel_rfl) (fun _ _ _ h => h) (by rfl) (fun u hu => ?_) ?_
        rotate_left
        focus
          go_simp
          try with_reducible rfl
        simp only [Act.put, List.setIfInBounds_toArray, List.set_cons_zero, List.set_cons_succ]
        refine wpL_doG _ (by kernel_rfl) (by rfl) (fun K hK => ?_)
        go_simp
        refine hK _ _ hst ?_
        clear hK K
        refine wpL_doneG _ (by kernel_rfl) ?_
        have hD7 := hD6
        have ho1n := own_low ho5 (Nat.lt_succ_self (w2.heap.size + 1)) (i := 0) (.slice A5 (j + 1) c5)
        have ho2n := own_low ho2k (Nat.lt_succ_self (w2.heap.size + 1)) (i := 0) (.slice A5 (j + 1) c5)
        have hBn := ((hBw.trans hal).trans hgb).trans hst
        clear hD5 hD6 ho5 ho2k hst hgb hg5 hal hbb hD ho1 ho2 z0 z1 z2 zz0 zz1 zz2 y0 hBw f0 f1
        generalize w5.setCell ⟨w2.heap.size + 1, 0, none⟩ (.slice A5 (j + 1) c5) = W1 at *
        go_wp2_with fail
        have hD := (show BoxD W1.drew (w2.heap.size + 1) _ _ _ from hD7)
        have ho1 := (show World.ownsRow W1.drew _ _ _ _ _ _ from ho1n)
        have ho2 := (show World.ownsRow W1.drew _ _ _ _ _ _ from ho2n)
        have hBw := hBn.drew
        clear hD7 ho1n ho2n hBn
        have hwr := HWR.out
        have f0 := fun u (hu : Below (w2.heap.size + 1) W1.drew u) => (hBw.trans hu).cell (p := ⟨w2.heap.size, 1, none⟩) hs6
        have f1 := fun u (hu : Below (w2.heap.size + 1) W1.drew u) => (hBw.trans hu).cell (p := ⟨bT, oT + j * 4 + 2, none⟩) hbT
        simp only [s1, q2] at f0 f1
        have hal : Below (w2.heap.size + 1) W1.drew (W1.drew.alloc (Obj.cells #[.int .u32 tval] 69)) := (Below.refl _ _).alloc (by have := hBw.size; rw [hz] at this; exact this) _
        have hbb : (w2.heap.size + 1) + 1 ≤ (W1.drew.alloc (Obj.cells #[.int .u32 tval] 69)).heap.size := by have := hD.lt; simp at this ⊢; omega
        obtain ⟨z0, z1, z2⟩ := hD.cells
        obtain ⟨zz0, zz1, zz2⟩ := (hD.alloc (Obj.cells #[.int .u32 tval] 69)).cells
        refine wp_region_LG (belB (w2.heap.size + 1)) 13 [0, 2, 3, 4, 5, 6, 7, 8, 1, 9, 10, 11, 12] rfl (by decide) (by decide) (by kernel_rfl) ?_
        generalize W1.drew = W2 at *
        simp only [List.filterMap_cons, List.filterMap_nil, List.getElem?_cons_zero, List.getElem?_cons_succ, Option.map_some]
        refine wpL_takeG _ (v := ?_) (by kernel_rfl) (by kernel_rfl) (by kernel_rfl) (fun _ _ _ h => h) (by rfl) (fun u hu => ?_) ?_
        rotate_left
        focus
          replace hu : Below (w2.heap.size + 1) W2 u := hu
          go_simp
          try with_reducible rfl
        simp only [Act.put, List.setIfInBounds_toArray, List.set_cons_zero, List.set_cons_succ]
        refine wpL_takeG _ (v := ?_) (by kernel_rfl) (by kernel_rfl) (by kernel_rfl) (fun _ _ _ h => h) (by rfl) (fun u hu => ?_) ?_
        rotate_left
        focus
          replace hu : Below (w2.heap.size + 1) W2 u := hu
          go_simp
          try with_reducible rfl
        simp only [Act.put, List.setIfInBounds_toArray, List.set_cons_zero, List.set_cons_succ]
        refine wpL_takeG _ (v := ?_) (by kernel_rfl) (by kernel_rfl) (by kernel_rfl) (fun _ _ _ h => h) (by rfl) (fun u hu => ?_) ?_
        rotate_left
        focus
          replace hu : Below (w2.heap.size + 1) W2 u := hu
          go_simp
          try with_reducible rfl
        simp only [Act.put, List.setIfInBounds_toArray, List.set_cons_zero, List.set_cons_succ]
        refine wpL_takeG _ (v := ?_) (by kernel_rfl) (by kernel_rfl) (by kernel_rfl) (fun _ _ _ h => h) (by rfl) (fun u hu => ?_) ?_
        rotate_left
        focus
          replace hu : Below (w2.heap.size + 1) W2 u := hu
          go_simp
          try with_reducible rfl
        simp only [Act.put, List.setIfInBounds_toArray, List.set_cons_zero, List.set_cons_succ]
        refine wpL_takeG _ (v := ?_) (by kernel_rfl) (by kernel_rfl) (by kernel_rfl) (fun _ _ _ h => h) (by rfl) (fun u hu => ?_) ?_
        rotate_left
        focus
          replace hu : Below (w2.heap.size + 1) W2 u := hu
          go_simp
          try with_reducible rfl
        simp only [Act.put, List.setIfInBounds_toArray, List.set_cons_zero, List.set_cons_succ]
        refine wpL_takeG _ (v := ?_) (by kernel_rfl) (by kernel_rfl) (by kernel_rfl) (fun _ _ _ h => h) (by rfl) (fun u hu => ?_) ?_
        rotate_left
        focus
          replace hu : Below (w2.heap.size + 1) W2 u := hu
          go_simp
          try with_reducible rfl
        simp only [Act.put, List.setIfInBounds_toArray, List.set_cons_zero, List.set_cons_succ]
        refine wpL_takeG _ (v := ?_) (by kernel_rfl) (by kernel_rfl) (by kernel_rfl) (fun _ _ _ h => h) (by rfl) (fun u hu => ?_) ?_
        rotate_left
        focus
          replace hu : Below (w2.heap.size + 1) W2 u := hu
          go_simp
          try with_reducible rfl
        simp only [Act.put, List.setIfInBounds_toArray, List.set_cons_zero, List.set_cons_succ]
        refine wpL_takeG _ (v := ?_) (by kernel_rfl) (by kernel_rfl) (by kernel_rfl) (fun _ _ _ h => h) (by rfl) (fun u hu => ?_) ?_
        rotate_left
        focus
          replace hu : Below (w2.heap.size + 1) W2 u := hu
          go_simp
          try with_reducible rfl
        simp only [Act.put, List.setIfInBounds_toArray, List.set_cons_zero, List.set_cons_succ]
        refine wpL_do2G _ (by kernel_rfl) (by rfl) (by rfl) (fun K hK => ?_) (fun K hK => ?_)
        · go_simp
          refine hK _ _ (Below.refl _ _) ?_
          clear hK K
          refine wpL_doG _ (by kernel_rfl) (by rfl) (fun K hK => ?_)
          go_simp
          refine hK _ _ hal ?_
          clear hK K
          refine wpL_doG _ (by kernel_rfl) (by rfl) (fun K hK => ?_)
          refine wp_app (.tmp 48) (.tmp 56) 23 rfl elemU rfl (ho2.alloc _) rfl (Rd.cells W2 #[.int .u32 tval] _) rfl (by intro u hu; simp at hu; subst hu; rfl) (by unfold maxLen; omega) (by omega) hbb ?_
          intro A9 c9 w9 ho9 hg9 _
          have hgb := (own_grown (Below.refl _ _) (ho2.alloc (Obj.cells #[.int .u32 tval] 69)) hbb hg9).mono (Nat.le_succ (w2.heap.size + 1))
          have hD9 := (hD.alloc (Obj.cells #[.int .u32 tval] 69)).grown (ho2.alloc _) (by decide) hg9
          have ho1k := own_two (ho1.alloc (Obj.cells #[.int .u32 tval] 69)) (ho2.alloc _) (by decide) hg9
          obtain ⟨z0, z1, z2⟩ := hD9.cells
          have y1 := hD9.frozen 1
          have hD10 := hD9.set1 (.slice A9 (j + 1) c9)
          have hst : Below (w2.heap.size + 1) w9 (w9.setCell ⟨w2.heap.size + 1, 1, none⟩ (.slice A9 (j + 1) c9)) := (Below.refl (w2.heap.size + 1) w9).setCell (p := ⟨w2.heap.size + 1, 1, none⟩) (Nat.le_refl _) _
          refine hK _ _ hgb ?_
          clear hK K
          simp only [Act.put, List.setIfInBounds_toArray, List.set_cons_zero, List.set_cons_succ]
          refine wpL_takeG _ (v := ?_) (by kernel_rfl) (by kernel_rfl) (by kernel_rfl) (fun _ _ _ h => h) (by rfl) (fun u hu => ?_) ?_
          rotate_left
          focus
            go_simp
            try with_reducible rfl
          simp only [Act.put, List.setIfInBounds_toArray, List.set_cons_zero, List.set_cons_succ]
          refine wpL_doG _ (by kernel_rfl) (by rfl) (fun K hK => ?_)
          go_simp
          refine hK _ _ hst ?_
          clear hK K
          refine wpL_doneG _ (by kernel_rfl) ?_
          clear hwr
          go_wp2_with fail
          go_roundw
          case rel => exact ⟨j + 1, A5, c5, A9, c9, by go_num, by omega, hD10, by rw [HT1.out]; exact own_low ho1k (Nat.lt_succ_self _) _, by rw [HT2.out]; exact own_low ho9 (Nat.lt_succ_self _) _, ((hBw.trans hal).trans hgb).trans hst⟩
          case measure => simp [intOf]; omega
        · go_simp
          refine hK _ _ hal ?_
          clear hK K
          refine wpL_doG _ (by kernel_rfl) (by rfl) (fun K hK => ?_)
          go_simp
          refine hK _ _ (Below.refl _ _) ?_
          clear hK K
          refine wpL_doG _ (by kernel_rfl) (by rfl) (fun K hK => ?_)
          refine wp_app (.tmp 48) (.tmp 56) 23 rfl elemU rfl (ho2.alloc _) rfl (Rd.cells W2 #[.int .u32 tval] _) rfl (by intro u hu; simp at hu; subst hu; rfl) (by unfold maxLen; omega) (by omega) hbb ?_
          intro A9 c9 w9 ho9 hg9 _
          have hgb := (own_grown (Below.refl _ _) (ho2.alloc (Obj.cells #[.int .u32 tval] 69)) hbb hg9).mono (Nat.le_succ (w2.heap.size + 1))
          have hD9 := (hD.alloc (Obj.cells #[.int .u32 tval] 69)).grown (ho2.alloc _) (by decide) hg9
          have ho1k := own_two (ho1.alloc (Obj.cells #[.int .u32 tval] 69)) (ho2.alloc _) (by decide) hg9
          obtain ⟨z0, z1, z2⟩ := hD9.cells
          have y1 := hD9.frozen 1
          have hD10 := hD9.set1 (.slice A9 (j + 1) c9)
          have hst : Below (w2.heap.size + 1) w9 (w9.setCell ⟨w2.heap.size + 1, 1, none⟩ (.slice A9 (j + 1) c9)) := (Below.refl (w2.heap.size + 1) w9).setCell (p := ⟨w2.heap.size + 1, 1, none⟩) (Nat.le_refl _) _
          refine hK _ _ hgb ?_
          clear hK K
          simp only [Act.put, List.setIfInBounds_toArray, List.set_cons_zero, List.set_cons_succ]
          refine wpL_takeG _ (v := ?_) (by kernel_rfl) (by kernel_rfl) (by kernel_rfl) (fun _ _ _ h => h) (by rfl) (fun u hu => ?_) ?_
          rotate_left
          focus
            go_simp
            try with_reducible rfl
          simp only [Act.put, List.setIfInBounds_toArray, List.set_cons_zero, List.set_cons_succ]
          refine wpL_doG _ (by kernel_rfl) (by rfl) (fun K hK => ?_)
          go_simp
          refine hK _ _ hst ?_
          clear hK K
          refine wpL_doneG _ (by kernel_rfl) ?_
          clear hwr
          go_wp2_with fail
          go_roundw
          case rel => exact ⟨j + 1, A5, c5, A9, c9, by go_num, by omega, hD10, by rw [HT1.out]; exact own_low ho1k (Nat.lt_succ_self _) _, by rw [HT2.out]; exact own_low ho9 (Nat.lt_succ_self _) _, ((hBw.trans hal).trans hgb).trans hst⟩
          case measure => simp [intOf]; omega
      · go_simp
        refine hK _ _ hal ?_
        clear hK K
        refine wpL_doG _ (by kernel_rfl) (by rfl) (fun K hK => ?_)
        go_simp
        refine hK _ _ (Below.refl _ _) ?_
        clear hK K
        refine wpL_doG _ (by kernel_rfl) (by rfl) (fun K hK => ?_)
        refine wp_app (.tmp 37) (.tmp 44) 22 rfl elemS rfl (ho1.alloc _) rfl (Rd.cells W2 #[.string ntext] _) rfl (by intro u hu; simp at hu; subst hu; rfl) (by unfold maxLen; omega) (by omega) hbb ?_
        intro A5 c5 w5 ho5 hg5 _
        have hgb := (own_grown (Below.refl _ _) (ho1.alloc (Obj.cells #[.string ntext] 9)) hbb hg5).mono (Nat.le_succ (w2.heap.size + 1))
        have hD5 := (hD.alloc (Obj.cells #[.string ntext] 9)).grown (ho1.alloc _) (by decide) hg5
        have ho2k := own_two (ho2.alloc (Obj.cells #[.string ntext] 9)) (ho1.alloc _) (by decide) hg5
        obtain ⟨z0, z1, z2⟩ := hD5.cells
        have y0 := hD5.frozen 0
        have hD6 := hD5.set0 (.slice A5 (j + 1) c5)
        have hst : Below (w2.heap.size + 1) w5 (w5.setCell ⟨w2.heap.size + 1, 0, none⟩ (.slice A5 (j + 1) c5)) := (Below.refl (w2.heap.size + 1) w5).setCell (p := ⟨w2.heap.size + 1, 0, none⟩) (Nat.le_refl _) _
        refine hK _ _ hgb ?_
        clear hK K
        simp only [Act.put, List.setIfInBounds_toArray, List.set_cons_zero, List.set_cons_succ]
        refine wpL_takeG _ (v := ?_) (by kernel_rfl) (by kernel_rfl) (by kernel_rfl) (fun _ _ _ h => h) (by rfl) (fun u hu => ?_) ?_
        rotate_left
        focus
          go_simp
          try with_reducible rfl
        simp only [Act.put, List.setIfInBounds_toArray, List.set_cons_zero, List.set_cons_succ]
        refine wpL_doG _ (by kernel_rfl) (by rfl) (fun K hK => ?_)
        go_simp
        refine hK _ _ hst ?_
        clear hK K
        refine wpL_doneG _ (by kernel_rfl) ?_
        have hD7 := hD6
        have ho1n := own_low ho5 (Nat.lt_succ_self (w2.heap.size + 1)) (i := 0) (.slice A5 (j + 1) c5)
        have ho2n := own_low ho2k (Nat.lt_succ_self (w2.heap.size + 1)) (i := 0) (.slice A5 (j + 1) c5)
        have hBn := ((hBw.trans hal).trans hgb).trans hst
        clear hD5 hD6 ho5 ho2k hst hgb hg5 hal hbb hD ho1 ho2 z0 z1 z2 zz0 zz1 zz2 y0 hBw f0 f1
        generalize w5.setCell ⟨w2.heap.size + 1, 0, none⟩ (.slice A5 (j + 1) c5) = W1 at *
        go_wp2_with fail
        have hD := (show BoxD W1.drew (w2.heap.size + 1) _ _ _ from hD7)
        have ho1 := (show World.ownsRow W1.drew _ _ _ _ _ _ from ho1n)
        have ho2 := (show World.ownsRow W1.drew _ _ _ _ _ _ from ho2n)
        have hBw := hBn.drew
        clear hD7 ho1n ho2n hBn
        have hwr := HWR.out
        have f0 := fun u (hu : Below (w2.heap.size + 1) W1.drew u) => (hBw.trans hu).cell (p := ⟨w2.heap.size, 1, none⟩) hs6
        have f1 := fun u (hu : Below (w2.heap.size + 1) W1.drew u) => (hBw.trans hu).cell (p := ⟨bT, oT + j * 4 + 2, none⟩) hbT
        simp only [s1, q2] at f0 f1
        have hal : Below (w2.heap.size + 1) W1.drew (W1.drew.alloc (Obj.cells #[.int .u32 tval] 69)) := (Below.refl _ _).alloc (by have := hBw.size; rw [hz] at this; exact this) _
        have hbb : (w2.heap.size + 1) + 1 ≤ (W1.drew.alloc (Obj.cells #[.int .u32 tval] 69)).heap.size := by have := hD.lt; simp at this ⊢; omega
        obtain ⟨z0, z1, z2⟩ := hD.cells
        obtain ⟨zz0, zz1, zz2⟩ := (hD.alloc (Obj.cells #[.int .u32 tval] 69)).cells
        refine wp_region_LG (belB (w2.heap.size + 1)) 13 [0, 2, 3, 4, 5, 6, 7, 8, 1, 9, 10, 11, 12] rfl (by decide) (by decide) (by kernel_rfl) ?_
        generalize W1.drew = W2 at *
        simp only [List.filterMap_cons, List.filterMap_nil, List.getElem?_cons_zero, List.getElem?_cons_succ, Option.map_some]
        refine wpL_takeG _ (v := ?_) (by kernel_rfl) (by kernel_rfl) (by kernel_rfl) (fun _ _ _ h => h) (by rfl) (fun u hu => ?_) ?_
        rotate_left
        focus
          replace hu : Below (w2.heap.size + 1) W2 u := hu
          go_simp
          try with_reducible rfl
        simp only [Act.put, List.setIfInBounds_toArray, List.set_cons_zero, List.set_cons_succ]
        refine wpL_takeG _ (v := ?_) (by kernel_rfl) (by kernel_rfl) (by kernel_rfl) (fun _ _ _ h => h) (by rfl) (fun u hu => ?_) ?_
        rotate_left
        focus
          replace hu : Below (w2.heap.size + 1) W2 u := hu
          go_simp
          try with_reducible rfl
        simp only [Act.put, List.setIfInBounds_toArray, List.set_cons_zero, List.set_cons_succ]
        refine wpL_takeG _ (v := ?_) (by kernel_rfl) (by kernel_rfl) (by kernel_rfl) (fun _ _ _ h => h) (by rfl) (fun u hu => ?_) ?_
        rotate_left
        focus
          replace hu : Below (w2.heap.size + 1) W2 u := hu
          go_simp
          try with_reducible rfl
        simp only [Act.put, List.setIfInBounds_toArray, List.set_cons_zero, List.set_cons_succ]
        refine wpL_takeG _ (v := ?_) (by kernel_rfl) (by kernel_rfl) (by kernel_rfl) (fun _ _ _ h => h) (by rfl) (fun u hu => ?_) ?_
        rotate_left
        focus
          replace hu : Below (w2.heap.size + 1) W2 u := hu
          go_simp
          try with_reducible rfl
        simp only [Act.put, List.setIfInBounds_toArray, List.set_cons_zero, List.set_cons_succ]
        refine wpL_takeG _ (v := ?_) (by kernel_rfl) (by kernel_rfl) (by kernel_rfl) (fun _ _ _ h => h) (by rfl) (fun u hu => ?_) ?_
        rotate_left
        focus
          replace hu : Below (w2.heap.size + 1) W2 u := hu
          go_simp
          try with_reducible rfl
        simp only [Act.put, List.setIfInBounds_toArray, List.set_cons_zero, List.set_cons_succ]
        refine wpL_takeG _ (v := ?_) (by kernel_rfl) (by kernel_rfl) (by kernel_rfl) (fun _ _ _ h => h) (by rfl) (fun u hu => ?_) ?_
        rotate_left
        focus
          replace hu : Below (w2.heap.size + 1) W2 u := hu
          go_simp
          try with_reducible rfl
        simp only [Act.put, List.setIfInBounds_toArray, List.set_cons_zero, List.set_cons_succ]
        refine wpL_takeG _ (v := ?_) (by kernel_rfl) (by kernel_rfl) (by kernel_rfl) (fun _ _ _ h => h) (by rfl) (fun u hu => ?_) ?_
        rotate_left
        focus
          replace hu : Below (w2.heap.size + 1) W2 u := hu
          go_simp
          try with_reducible rfl
        simp only [Act.put, List.setIfInBounds_toArray, List.set_cons_zero, List.set_cons_succ]
        refine wpL_takeG _ (v := ?_) (by kernel_rfl) (by kernel_rfl) (by kernel_rfl) (fun _ _ _ h => h) (by rfl) (fun u hu => ?_) ?_
        rotate_left
        focus
          replace hu : Below (w2.heap.size + 1) W2 u := hu
          go_simp
          try with_reducible rfl
        simp only [Act.put, List.setIfInBounds_toArray, List.set_cons_zero, List.set_cons_succ]
        refine wpL_do2G _ (by kernel_rfl) (by rfl) (by rfl) (fun K hK => ?_) (fun K hK => ?_)
        · go_simp
          refine hK _ _ (Below.refl _ _) ?_
          clear hK K
          refine wpL_doG _ (by kernel_rfl) (by rfl) (fun K hK => ?_)
          go_simp
          refine hK _ _ hal ?_
          clear hK K
          refine wpL_doG _ (by kernel_rfl) (by rfl) (fun K hK => ?_)
          refine wp_app (.tmp 48) (.tmp 56) 23 rfl elemU rfl (ho2.alloc _) rfl (Rd.cells W2 #[.int .u32 tval] _) rfl (by intro u hu; simp at hu; subst hu; rfl) (by unfold maxLen; omega) (by omega) hbb ?_
          intro A9 c9 w9 ho9 hg9 _
          have hgb := (own_grown (Below.refl _ _) (ho2.alloc (Obj.cells #[.int .u32 tval] 69)) hbb hg9).mono (Nat.le_succ (w2.heap.size + 1))
          have hD9 := (hD.alloc (Obj.cells #[.int .u32 tval] 69)).grown (ho2.alloc _) (by decide) hg9
          have ho1k := own_two (ho1.alloc (Obj.cells #[.int .u32 tval] 69)) (ho2.alloc _) (by decide) hg9
          obtain ⟨z0, z1, z2⟩ := hD9.cells
          have y1 := hD9.frozen 1
          have hD10 := hD9.set1 (.slice A9 (j + 1) c9)
          have hst : Below (w2.heap.size + 1) w9 (w9.setCell ⟨w2.heap.size + 1, 1, none⟩ (.slice A9 (j + 1) c9)) := (Below.refl (w2.heap.size + 1) w9).setCell (p := ⟨w2.heap.size + 1, 1, none⟩) (Nat.le_refl _) _
          refine hK _ _ hgb ?_
          clear hK K
          simp only [Act.put, List.setIfInBounds_toArray, List.set_cons_zero, List.set_cons_succ]
          refine wpL_takeG _ (v := ?_) (by kernel_rfl) (by kernel_rfl) (by kernel_rfl) (fun _ _ _ h => h) (by rfl) (fun u hu => ?_) ?_
          rotate_left
          focus
            go_simp
            try with_reducible rfl
          simp only [Act.put, List.setIfInBounds_toArray, List.set_cons_zero, List.set_cons_succ]
          refine wpL_doG _ (by kernel_rfl) (by rfl) (fun K hK => ?_)
          go_simp
          refine hK _ _ hst ?_
          clear hK K
          refine wpL_doneG _ (by kernel_rfl) ?_
          clear hwr
          go_wp2_with fail
          go_roundw
          case rel => exact ⟨j + 1, A5, c5, A9, c9, by go_num, by omega, hD10, by rw [HT1.out]; exact own_low ho1k (Nat.lt_succ_self _) _, by rw [HT2.out]; exact own_low ho9 (Nat.lt_succ_self _) _, ((hBw.trans hal).trans hgb).trans hst⟩
          case measure => simp [intOf]; omega
        · go_simp
          refine hK _ _ hal ?_
          clear hK K
          refine wpL_doG _ (by kernel_rfl) (by rfl) (fun K hK => ?_)
          go_simp
          refine hK _ _ (Below.refl _ _) ?_
          clear hK K
          refine wpL_doG _ (by kernel_rfl) (by rfl) (fun K hK => ?_)
          refine wp_app (.tmp 48) (.tmp 56) 23 rfl elemU rfl (ho2.alloc _) rfl (Rd.cells W2 #[.int .u32 tval] _) rfl (by intro u hu; simp at hu; subst hu; rfl) (by unfold maxLen; omega) (by omega) hbb ?_
          intro A9 c9 w9 ho9 hg9 _
          have hgb := (own_grown (Below.refl _ _) (ho2.alloc (Obj.cells #[.int .u32 tval] 69)) hbb hg9).mono (Nat.le_succ (w2.heap.size + 1))
          have hD9 := (hD.alloc (Obj.cells #[.int .u32 tval] 69)).grown (ho2.alloc _) (by decide) hg9
          have ho1k := own_two (ho1.alloc (Obj.cells #[.int .u32 tval] 69)) (ho2.alloc _) (by decide) hg9
          obtain ⟨z0, z1, z2⟩ := hD9.cells
          have y1 := hD9.frozen 1
          have hD10 := hD9.set1 (.slice A9 (j + 1) c9)
          have hst : Below (w2.heap.size + 1) w9 (w9.setCell ⟨w2.heap.size + 1, 1, none⟩ (.slice A9 (j + 1) c9)) := (Below.refl (w2.heap.size + 1) w9).setCell (p := ⟨w2.heap.size + 1, 1, none⟩) (Nat.le_refl _) _
          refine hK _ _ hgb ?_
          clear hK K
          simp only [Act.put, List.setIfInBounds_toArray, List.set_cons_zero, List.set_cons_succ]
          refine wpL_takeG _ (v := ?_) (by kernel_rfl) (by kernel_rfl) (by kernel_rfl) (fun _ _ _ h => h) (by rfl) (fun u hu => ?_) ?_
          rotate_left
          focus
            go_simp
            try with_reducible rfl
          simp only [Act.put, List.setIfInBounds_toArray, List.set_cons_zero, List.set_cons_succ]
          refine wpL_doG _ (by kernel_rfl) (by rfl) (fun K hK => ?_)
          go_simp
          refine hK _ _ hst ?_
          clear hK K
          refine wpL_doneG _ (by kernel_rfl) ?_
          clear hwr
          go_wp2_with fail
          go_roundw
          case rel => exact ⟨j + 1, A5, c5, A9, c9, by go_num, by omega, hD10, by rw [HT1.out]; exact own_low ho1k (Nat.lt_succ_self _) _, by rw [HT2.out]; exact own_low ho9 (Nat.lt_succ_self _) _, ((hBw.trans hal).trans hgb).trans hst⟩
          case measure => simp [intOf]; omega
    · obtain rfl : j = nn := by omega
      rw [List.take_of_length_le (by rw [HN.out]; exact Nat.le_refl _)] at ho1
      rw [List.take_of_length_le (by rw [HT.out]; exact Nat.le_refl _)] at ho2
      obtain ⟨Wc, rfl⟩ : ∃ W, W = wr := ⟨_, rfl⟩
      clear hlt
      go_wp2_with fail
      go_loopw [63] (fun q2 wz => ∃ (i : Nat) (A7 : Option Addr) (c7 : Nat) (new : List RowH), q2 = .int .i64 i ∧ i ≤ nr ∧ BoxD wz (w2.heap.size + 1) (.slice A5 j c5) (.slice A6 j c6) (.slice A7 i c7) ∧
        wz.ownsRow ((w2.heap.size + 1) + 1) 9 1 (.slice A5 j c5) j (scl (N.map Fld.text)) ∧ wz.ownsRow ((w2.heap.size + 1) + 1) 69 1 (.slice A6 j c6) j (ucl (T.map Fld.val)) ∧
        wz.ownsRow ((w2.heap.size + 1) + 1) 45 1 (.slice A7 i c7) i (rcl new) ∧ (∀ x ∈ new, wz.ownsRow ((w2.heap.size + 1) + 1) 42 3 (.slice x.adr x.vals.length x.cap) x.vals.length (vvl x.vals)) ∧
        new.map RowH.vals = (R.take i).map (fun f => (drd f.text.data.toList j).1) ∧ ferr (R.map fun f => (drd f.text.data.toList j).2) = ferr ((R.drop i).map fun f => (drd f.text.data.toList j).2) ∧ Below (w2.heap.size + 1) Wb wz) (fun q2 _ => nr - (intOf q2).toNat)
      case atStart => exact ⟨0, none, 0, [], rfl, Nat.zero_le _, hD, ho1, ho2, World.ownsRow_nil _ _ _ _, by simp, by simp, rfl, hBw⟩
      case round =>
        clear hD ho1 ho2 hBw v0 v1 v2 hs
        obtain ⟨i, A7, c7, new, rfl, hi, hD, ho1, ho2, ho3, hrows, hnew, he, hBw⟩ := hrel
        have hs : (w2.heap.size + 1) ≤ wr.heap.size := hz ▸ hBw.size
        have v0 := (hBw.cell (p := ⟨w2.heap.size, 0, none⟩) hs6).trans s0
        have v2 := (hBw.cell (p := ⟨w2.heap.size, 2, none⟩) hs6).trans s2
        have HNEW := Lib.hid hnew
        have HROWS0 := Lib.hid hrows
        have HFE0 := Lib.hid he
        clear hnew hrows he
        by_cases hlt : i < nr
        · obtain ⟨f, hf⟩ : ∃ f, R[i]? = some f := ⟨_, List.getElem?_eq_getElem (by rw [HR.out]; exact hlt)⟩
          obtain ⟨bR, oR, rfl, hbR, p0, _, _, q3⟩ := fld_at hrR hf
          have htz := HSZT.out f (List.mem_of_getElem? hf)
          have hrd := dread_any f.text j htz (by omega) wr.drew ((hK3.below hBw (by omega)).below (below_drewN (Below.refl 1 wr) 1) (by omega))
          have HTK : Hid ((R.take (i + 1)).map (fun f => (drd f.text.data.toList j).1) = (R.take i).map (fun f => (drd f.text.data.toList j).1) ++ [(drd f.text.data.toList j).1]) := Lib.hid (by rw [List.take_add_one, hf]; simp)
          have HFE1 : Hid (ferr (R.map fun f => (drd f.text.data.toList j).2) = if (drd f.text.data.toList j).2 = 0 then ferr ((R.drop (i + 1)).map fun f => (drd f.text.data.toList j).2) else (drd f.text.data.toList j).2) := Lib.hid (by rw [HFE0.out, ferr_cons (f := fun f => (drd f.text.data.toList j).2) hf])
          obtain ⟨num, kind, val, text⟩ := f
          simp only at q3 hrd HTK HFE1
          unfold RPost at hrd
          obtain ⟨dq, hdq⟩ : ∃ d, drd text.data.toList j = d := ⟨_, rfl⟩
          rw [hdq] at hrd HTK HFE1
          obtain ⟨vals, ve⟩ := dq
          simp only at hrd HTK HFE1
          obtain ⟨L8, hL8⟩ : ∃ k, vals.length = k := ⟨_, rfl⟩
          rw [hL8] at hrd
          have HVL := Lib.hid hL8
          clear hf p0 hdq hL8 HFE0 htz
          go_wp2_with fail
          have hD := (show BoxD wr.drew (w2.heap.size + 1) _ _ _ from hD)
          have ho1 := (show World.ownsRow wr.drew _ _ _ _ _ _ from ho1)
          have ho2 := (show World.ownsRow wr.drew _ _ _ _ _ _ from ho2)
          have ho3 := (show World.ownsRow wr.drew _ _ _ _ _ _ from ho3)
          have hrows : ∀ x ∈ new, wr.drew.ownsRow ((w2.heap.size + 1) + 1) 42 3 (.slice x.adr x.vals.length x.cap) x.vals.length (vvl x.vals) := HROWS0.out
          have hBw := hBw.drew
          have hs : (w2.heap.size + 1) ≤ wr.drew.heap.size := hs
          have f0 := fun u (hu : Below wr.drew.heap.size wr.drew u) => (hBw.trans (hu.mono hs)).cell (p := ⟨w2.heap.size, 0, none⟩) hs6
          have f1 := fun u (hu : Below wr.drew.heap.size wr.drew u) => (hBw.trans (hu.mono hs)).cell (p := ⟨w2.heap.size, 2, none⟩) hs6
          have f2 := fun u (hu : Below wr.drew.heap.size wr.drew u) => (hBw.trans (hu.mono hs)).cell (p := ⟨bR, oR + i * 4 + 3, none⟩) hbR
          simp only [s0, s2, q3] at f0 f1 f2
          have HROWS1 := Lib.hid hrows
          clear v0 v2 HROWS0 hrows
          refine wp_region_L 15 [0, 1, 2, 3, 4, 5, 6, 7, 8, 9, 10, 11, 12, 13, 14] rfl (by decide) (by decide) (by kernel_rfl) ?_
          generalize wr.drew = W2 at *
          simp only [List.filterMap_cons, List.filterMap_nil, List.getElem?_cons_zero, List.getElem?_cons_succ, Option.map_some]
          refine wpL_take (v := ?_) (by kernel_rfl) (by kernel_rfl) (by kernel_rfl) (fun _ _ _ h => h) (by rfl) (fun u hu => ?_) ?_
          rotate_left
          focus
            replace hu : Below W2.heap.size W2 u := hu
            go_simp
            try with_reducible rfl
          simp only [Act.put, List.setIfInBounds_toArray, List.set_cons_zero, List.set_cons_succ]
          refine wpL_take (v := ?_) (by kernel_rfl) (by kernel_rfl) (by kernel_rfl) (fun _ _ _ h => h) (by rfl) (fun u hu => ?_) ?_
          rotate_left
          focus
            replace hu : Below W2.heap.size W2 u := hu
            go_simp
            try with_reducible rfl
          simp only [Act.put, List.setIfInBounds_toArray, List.set_cons_zero, List.set_cons_succ]
          refine wpL_take (v := ?_) (by kernel_rfl) (by kernel_rfl) (by kernel_rfl) (fun _ _ _ h => h) (by rfl) (fun u hu => ?_) ?_
          rotate_left
          focus
            replace hu : Below W2.heap.size W2 u := hu
            go_simp
            try with_reducible rfl
          simp only [Act.put, List.setIfInBounds_toArray, List.set_cons_zero, List.set_cons_succ]
          refine wpL_take (v := ?_) (by kernel_rfl) (by kernel_rfl) (by kernel_rfl) (fun _ _ _ h => h) (by rfl) (fun u hu => ?_) ?_
          rotate_left
          focus
            replace hu : Below W2.heap.size W2 u := hu
            go_simp
            try with_reducible rfl
          simp only [Act.put, List.setIfInBounds_toArray, List.set_cons_zero, List.set_cons_succ]
          refine wpL_take (v := ?_) (by kernel_rfl) (by kernel_rfl) (by kernel_rfl) (fun _ _ _ h => h) (by rfl) (fun u hu => ?_) ?_
          rotate_left
          focus
            replace hu : Below W2.heap.size W2 u := hu
            go_simp
            try with_reducible rfl
          simp only [Act.put, List.setIfInBounds_toArray, List.set_cons_zero, List.set_cons_succ]
          refine wpL_take (v := ?_) (by kernel_rfl) (by kernel_rfl) (by kernel_rfl) (fun _ _ _ h => h) (by rfl) (fun u hu => ?_) ?_
          rotate_left
          focus
            replace hu : Below W2.heap.size W2 u := hu
            go_simp
            try with_reducible rfl
          simp only [Act.put, List.setIfInBounds_toArray, List.set_cons_zero, List.set_cons_succ]
          refine wpL_take (v := ?_) (by kernel_rfl) (by kernel_rfl) (by kernel_rfl) (fun _ _ _ h => h) (by rfl) (fun u hu => ?_) ?_
          rotate_left
          focus
            replace hu : Below W2.heap.size W2 u := hu
            go_simp
            try with_reducible rfl
          simp only [Act.put, List.setIfInBounds_toArray, List.set_cons_zero, List.set_cons_succ]
          refine wpL_take (v := ?_) (by kernel_rfl) (by kernel_rfl) (by kernel_rfl) (fun _ _ _ h => h) (by rfl) (fun u hu => ?_) ?_
          rotate_left
          focus
            replace hu : Below W2.heap.size W2 u := hu
            go_simp
            try with_reducible rfl
          simp only [Act.put, List.setIfInBounds_toArray, List.set_cons_zero, List.set_cons_succ]
          refine wpL_take (v := ?_) (by kernel_rfl) (by kernel_rfl) (by kernel_rfl) (fun _ _ _ h => h) (by rfl) (fun u hu => ?_) ?_
          rotate_left
          focus
            replace hu : Below W2.heap.size W2 u := hu
            go_simp
            try with_reducible rfl
          simp only [Act.put, List.setIfInBounds_toArray, List.set_cons_zero, List.set_cons_succ]
          refine wpL_do (by kernel_rfl) (by rfl) (fun K hK => ?_)
          go_simp
          go_at_call 62
          refine hrd.mono ?_
          rintro e w3 ⟨A8, c8, rfl, ho8, hB8⟩
          refine hK _ _ hB8 ?_
          clear hK K hrd f0 f1 f2
          refine wpL_take (v := ?_) (by kernel_rfl) (by kernel_rfl) (by kernel_rfl) (fun _ _ _ h => h) (by rfl) (fun u hu => ?_) ?_
          rotate_left
          focus
            go_simp
            try with_reducible rfl
          simp only [Act.put, List.setIfInBounds_toArray, List.set_cons_zero, List.set_cons_succ]
          refine wpL_take (v := ?_) (by kernel_rfl) (by kernel_rfl) (by kernel_rfl) (fun _ _ _ h => h) (by rfl) (fun u hu => ?_) ?_
          rotate_left
          focus
            go_simp
            try with_reducible rfl
          simp only [Act.put, List.setIfInBounds_toArray, List.set_cons_zero, List.set_cons_succ]
          refine wpL_take (v := ?_) (by kernel_rfl) (by kernel_rfl) (by kernel_rfl) (fun _ _ _ h => h) (by rfl) (fun u hu => ?_) ?_
          rotate_left
          focus
            go_simp
            try with_reducible rfl
          simp only [Act.put, List.setIfInBounds_toArray, List.set_cons_zero, List.set_cons_succ]
          refine wpL_take (v := ?_) (by kernel_rfl) (by kernel_rfl) (by kernel_rfl) (fun _ _ _ h => h) (by rfl) (fun u hu => ?_) ?_
          rotate_left
          focus
            go_simp
            try with_reducible rfl
          simp only [Act.put, List.setIfInBounds_toArray, List.set_cons_zero, List.set_cons_succ]
          refine wpL_take (v := ?_) (by kernel_rfl) (by kernel_rfl) (by kernel_rfl) (fun _ _ _ h => h) (by rfl) (fun u hu => ?_) ?_
          rotate_left
          focus
            go_simp
            try with_reducible rfl
          simp only [Act.put, List.setIfInBounds_toArray, List.set_cons_zero, List.set_cons_succ]
          refine wpL_done (by kernel_rfl) ?_
          
          have hbs : (w2.heap.size + 1) + 1 ≤ W2.heap.size := by have := hD.lt; omega
          have hD := hD.below hB8
          have ho1 := own_kept ho1 hB8 (Nat.le_refl _)
          have ho2 := own_kept ho2 hB8 (Nat.le_refl _)
          have ho3 := own_kept ho3 hB8 (Nat.le_refl _)
          have hrows : ∀ x ∈ new, w3.ownsRow ((w2.heap.size + 1) + 1) 42 3 (.slice x.adr x.vals.length x.cap) x.vals.length (vvl x.vals) := fun x hx => own_kept (HROWS1.out x hx) hB8 (Nat.le_refl _)
          have ho8 := own_base ho8 hbs
          have hBw := hBw.trans (hB8.mono hs)
          have hs : (w2.heap.size + 1) ≤ w3.heap.size := Nat.le_trans hs hB8.size
          have HROWS := Lib.hid hrows
          clear hB8 hrows HROWS1
          by_cases h0 : ve = 0
          rotate_left
          · have hbe : (ve != 0) = true := by simpa using h0
            have HQ4 : Hid (q = (DTab.none, ve)) := Lib.hid (by
              have h1 := HFE1.out
              rw [if_neg h0] at h1
              rw [← HQ3.out, h1, if_neg h0])
            have hX4 : BoxD w3 w.heap.size (.slice none 0 0) (.slice none 0 0) (.slice none 0 0) := (hBw.block _ hwl).trans hX3
            obtain ⟨x0, x1, x2⟩ := hX4.cells
            have y0 := hX4.frozen 0
            have y1 := hX4.frozen 1
            have y2 := hX4.frozen 2
            have hWw := hW3.trans (hBw.mono (Nat.le_of_lt hwl))
            clear h0 HFE1 hX4 hD ho1 ho2 ho3 ho8
            go_wp2_with fail
            refine bodyPost_ret (v := .tuple #[.agg #[.slice none 0 0, .slice none 0 0, .slice none 0 0], .int .i64 ve]) ?_ rfl (dpost_err HQ4.out (below_set3v hWw (Nat.le_refl _) _ _ _))
            rw [results_cell_tmp rfl]; go_simp
          subst h0
          have HFE : Hid (ferr (R.map fun f => (drd f.text.data.toList j).2) = ferr ((R.drop (i + 1)).map fun f => (drd f.text.data.toList j).2)) := Lib.hid (by have := HFE1.out; rwa [if_pos rfl] at this)
          clear HFE1
          obtain ⟨z0, z1, z2⟩ := hD.cells
          have hbb : (w2.heap.size + 1) + 1 ≤ w3.heap.size := by have := hD.lt; omega
          go_wp2_with (at_builtin; refine wpList_app1 rfl _ _ _ rfl elemRR rfl ho3 rfl rfl (by intro u hu; simp at hu; subst hu; rfl) (by unfold maxLen; omega) (by omega) hbb ?_; intro A9 c9 w9 ho9 hg9 _; have hgb := (own_grown (Below.refl _ _) ho3 hbb hg9).mono (Nat.le_succ (w2.heap.size + 1)); have hD9 := hD.grown ho3 (by decide) hg9; have ho1k := own_two ho1 ho3 (by decide) hg9; have ho2k := own_two ho2 ho3 (by decide) hg9; have ho8k := own_two ho8 ho3 (by decide) hg9; have hrk := Lib.hid (fun (x : RowH) (hx : x ∈ new) => own_two (HROWS.out x hx) ho3 (by decide) hg9); clear z0 z1 z2; obtain ⟨z0, z1, z2⟩ := hD9.cells; have y2 := hD9.frozen 2; clear hg9)
          have hD10 := hD9.set2 (.slice A9 (i + 1) c9)
          have hst : Below (w2.heap.size + 1) w9 (w9.setCell ⟨w2.heap.size + 1, 2, none⟩ (.slice A9 (i + 1) c9)) := (Below.refl (w2.heap.size + 1) w9).setCell (p := ⟨w2.heap.size + 1, 2, none⟩) (Nat.le_refl _) _
          go_roundw
          case rel =>
            refine ⟨i + 1, A9, c9, new ++ [⟨A8, c8, vals⟩], by go_num, by omega, hD10, own_low ho1k (Nat.lt_succ_self _) _, own_low ho2k (Nat.lt_succ_self _) _, ?_, ?_, by rw [List.map_append, HNEW.out, HTK.out]; rfl, HFE.out, (hBw.trans hgb).trans hst⟩
            · rw [show rcl (new ++ [⟨A8, c8, vals⟩]) = rcl new ++ [.slice A8 vals.length c8] by simp [rcl], HVL.out]; exact own_low ho9 (Nat.lt_succ_self _) _
            · intro x hx
              rcases List.mem_append.1 hx with hx | hx
              · exact own_low (hrk.out x hx) (Nat.lt_succ_self _) _
              · obtain rfl : x = _ := by simpa using hx
                have := own_low ho8k (Nat.lt_succ_self (w2.heap.size + 1)) (i := 2) (.slice A9 (i + 1) c9)
                rw [HVL.out]
                exact this
          case measure => simp [intOf]; omega
        · obtain rfl : i = nr := by omega
          have hz0 : ferr (R.map fun f => (drd f.text.data.toList j).2) = 0 := by rw [HFE0.out, List.drop_eq_nil_of_le (by rw [HR.out]; exact Nat.le_refl _)]; rfl
          have hnew := HNEW.out
          rw [List.take_of_length_le (by rw [HR.out]; exact Nat.le_refl _)] at hnew
          have hq : q = (⟨N.map Fld.text, T.map Fld.val, new.map RowH.vals⟩, 0) := by rw [← HQ3.out, if_pos hz0, hnew]
          have hnl : new.length = i := by
            have := congrArg List.length hnew
            simpa [HR.out] using this
          have hX4 : BoxD wr w.heap.size (.slice none 0 0) (.slice none 0 0) (.slice none 0 0) := (hBw.block _ hwl).trans hX3
          obtain ⟨x0, x1, x2⟩ := hX4.cells
          have y0 := hX4.frozen 0
          have y1 := hX4.frozen 1
          have y2 := hX4.frozen 2
          obtain ⟨z0, z1, z2⟩ := hD.cells
          have hWw := hW3.trans (hBw.mono (Nat.le_of_lt hwl))
          have HQ4 := Lib.hid hq
          have HNL := Lib.hid hnl
          have hwl2 : w.heap.size < w2.heap.size + 1 + 1 := by omega
          have HVS : Hid (∀ x ∈ new, ∀ v ∈ x.vals, VVOk v) := Lib.hid (by
            intro x hx v hv
            have hm : x.vals ∈ new.map RowH.vals := List.mem_map.2 ⟨x, hx, rfl⟩
            rw [hnew] at hm
            obtain ⟨f, _, hf⟩ := List.mem_map.1 hm
            have hv2 : v ∈ (drd f.text.data.toList j).1 := by
              have e : (drd f.text.data.toList j).1 = x.vals := hf
              rw [e]; exact hv
            exact (drd_rd _ _ v hv2).ok)
          have HO := Lib.hid (And.intro ho1 (And.intro ho2 ho3))
          clear hq hnl hnew hz0 hlt HFE0 hX4 hD ho1 ho2 ho3 HNEW
          go_wp2_with fail
          refine bodyPost_ret (v := .tuple #[.agg #[.slice A5 j c5, .slice A6 j c6, .slice A7 i c7], .int .i64 0]) ?_ rfl ?_
          · rw [results_cell_tmp rfl]; go_simp
          · obtain ⟨p1, p2, p3⟩ := HO.out
            have hk : ∀ {e : TypeId} {size n : Nat} {v : Value} {xs : List Value}, wr.ownsRow (w2.heap.size + 1 + 1) e size v n xs → ((((wr.setCell ⟨w.heap.size, 0, none⟩ (.slice A5 j c5)).setCell ⟨w.heap.size, 1, none⟩ (.slice A6 j c6)).setCell ⟨w.heap.size, 2, none⟩ (.slice A7 i c7))).ownsRow (w2.heap.size + 1 + 1) e size v n xs := fun h => own_low (own_low (own_low h hwl2 _) hwl2 _) hwl2 _
            have e1 : (N.map Fld.text).length = j := by rw [List.length_map]; exact HN.out
            have e2 : (T.map Fld.val).length = j := by rw [List.length_map]; exact HT.out
            refine ⟨⟨A5, c5, N.map Fld.text, A6, c6, T.map Fld.val, A7, c7, new⟩, ?_, ⟨Rd.of_own (hk p1), Rd.of_own (hk p2), Rd.of_own (hk p3), fun x hx => Rd.of_own (hk (HROWS0.out x hx))⟩, ⟨by simp only [e1]; omega, by simp only [e2]; omega, by simp only [HNL.out]; omega, fun x hx => ?_, fun n hn => ?_, HVS.out⟩, by rw [HQ4.out], by rw [HQ4.out], by rw [HQ4.out]; rfl, below_set3v hWw (Nat.le_refl _) _ _ _⟩
            · rw [HQ4.out]; unfold DS.agg; simp only [e1, e2, HNL.out]
            · have := own_cap (HROWS0.out x hx); omega
            · obtain ⟨f, hf, rfl⟩ := List.mem_map.1 hn
              exact HTY.out f hf
end Go.Proofs.YtlgokfgbcohioaaDoor
