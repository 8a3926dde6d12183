/- LAW WALK: DatasetBack -/
import Derived.Test.YtlgokfgbcohioaaDoorDsBpM
import Derived.Test.YtlgokfgbcohioaaDoorDsRlM
namespace Go.Proofs.YtlgokfgbcohioaaDoor
open Go.RowKit Plain

set_option maxRecDepth 100000 in
set_option maxHeartbeats 4000000 in
theorem dback_any (d : DS) (hok : DSOk d) (w : World) (hd : d.At w w.heap.size) (hK : Kinds w) :
    Calls Tryd.prog 13 #[d.agg] w fun e w' => e = .returned (.bool true) ∧ Below w.heap.size w w' := by
  have h1 := fun W (hB : Below w.heap.size w W) => dput_any d hok W ((hd.below hB (Nat.le_refl _)).more hB.size) (hK.below hB hK.pos)
  have hbad := dput_bad (cols := d.cols) (types := d.types) (rows := d.plain)
  have hgood := dof_back (cols := d.cols) (types := d.types) (rows := d.plain) hok.ty (fun r hr v hv => by
    obtain ⟨x, hx, rfl⟩ := List.mem_map.1 hr
    exact (hok.vs x hx v hv).2.2)
  have HPUT : Hid (∀ D : DS, D.cols = d.cols → D.types = d.types → D.plain = d.plain → DSOk D → ∀ W, D.At W W.heap.size → Kinds W → Calls Tryd.prog 14 #[D.agg] W (BPost (dput d.cols d.types d.plain) W)) := Lib.hid (fun D e1 e2 e3 ho W ha hk => by
    have := dput_any D ho W ha hk
    rwa [e1, e2, e3] at this)
  obtain ⟨q, hq⟩ : ∃ q, dput d.cols d.types d.plain = q := ⟨_, rfl⟩
  rw [hq] at h1 hbad hgood HPUT
  clear hq
  obtain ⟨L, er⟩ := q
  have HD := Lib.hid hd
  have HOK := Lib.hid hok
  have HK := Lib.hid hK
  have HBAD := Lib.hid hbad
  have HGOOD := Lib.hid hgood
  clear hd hok hK hbad hgood
  obtain ⟨p1, pc1, pcols, p2, pc2, ptypes, p3, pc3, prows⟩ := d
  unfold DS.agg at h1 ⊢
  unfold BPost at h1 HPUT
  simp only at h1 HPUT HBAD HGOOD ⊢
  obtain ⟨n1, hn1⟩ : ∃ k, pcols.length = k := ⟨_, rfl⟩
  obtain ⟨n2, hn2⟩ : ∃ k, ptypes.length = k := ⟨_, rfl⟩
  obtain ⟨n3, hn3⟩ : ∃ k, prows.length = k := ⟨_, rfl⟩
  rw [hn1, hn2, hn3] at h1 ⊢
  have HL1 := Lib.hid (And.intro hn1 (And.intro hn2 hn3))
  obtain ⟨N, hN⟩ : ∃ N, L.length = N := ⟨_, rfl⟩
  rw [hN] at h1 HPUT
  have HN := Lib.hid hN
  clear hn1 hn2 hn3 hN
  have hE0 : Below w.heap.size w (w.alloc (Obj.cells #[.slice p1 n1 pc1, .slice p2 n2 pc2, .slice p3 n3 pc3] 26)) := (Below.refl _ w).alloc (Nat.le_refl _) _
  have hD0 : BoxD (w.alloc (Obj.cells #[.slice p1 n1 pc1, .slice p2 n2 pc2, .slice p3 n3 pc3] 26)) w.heap.size (.slice p1 n1 pc1) (.slice p2 n2 pc2) (.slice p3 n3 pc3) := World.alloc_heap_new w _
  go_enter Tryd.func13, Tryd.ntmps13
  go_wp2_with fail
  refine (h1 _ hE0).mono ?_
  rintro e w1 ⟨B1, d1, rfl, ho1, hB1⟩
  have hD1 := hD0.below hB1
  have hW1 := bel_step hE0 hB1
  clear h1 hD0 hE0 hB1
  by_cases he : er = 0
  rotate_left
  · have hbe : (er != 0) = true := by simpa using he
    have hL : L = [] := HBAD.out he
    have hN0 : N = 0 := by rw [← HN.out, hL]; rfl
    subst hN0
    clear he hL ho1 hD1 HPUT HGOOD HBAD
    go_wp2_with fail
    refine (awake8_any w1 (HK.out.below hW1 HK.out.pos)).mono ?_
    rintro e w3 ⟨rfl, hB3⟩
    go_wp2_with fail
    go_ret
    exact ⟨rfl, bel_step hW1 hB3⟩
  subst he
  have hback := HGOOD.out (by trivial)
  obtain ⟨hcap1, hcap2⟩ := own_cap ho1
  have hof := dof_any L B1 N d1 HN.out hcap1 hcap2 w1 (Rd.of_own ho1) (HK.out.below hW1 HK.out.pos)
  rw [hback] at hof
  unfold DPost at hof
  simp only at hof
  have HO1 := Lib.hid ho1
  clear hback HBAD HGOOD ho1 hcap1 hcap2
  go_wp2_with fail
  refine hof.mono ?_
  rintro e w2 ⟨D2, rfl, hA2, hok2, f1, f2, f3, hB2⟩
  have hD2 := hD1.below hB2
  have hW2 := bel_step hW1 hB2
  have HO2 := Lib.hid (own_kept HO1.out hB2 (Nat.le_refl _))
  have hput2 := HPUT.out D2 f1 f2 f3 hok2
  have HA2 := Lib.hid hA2
  have HOK2 := Lib.hid hok2
  have HE2 := Lib.hid (And.intro f1 (And.intro f2 f3))
  clear hof hD1 hB2 HO1 HPUT hA2 hok2 f1 f2 f3
  obtain ⟨r1, rc1, rcols, r2, rc2, rtypes, r3, rc3, rrows⟩ := D2
  unfold DS.agg at hput2 ⊢
  simp only at hput2 ⊢
  obtain ⟨m1, hm1⟩ : ∃ k, rcols.length = k := ⟨_, rfl⟩
  obtain ⟨m2, hm2⟩ : ∃ k, rtypes.length = k := ⟨_, rfl⟩
  obtain ⟨m3, hm3⟩ : ∃ k, rrows.length = k := ⟨_, rfl⟩
  rw [hm1, hm2, hm3] at hput2 ⊢
  have HL2 := Lib.hid (And.intro hm1 (And.intro hm2 hm3))
  clear hm1 hm2 hm3
  have hal := (Below.refl w2.heap.size w2).alloc (Nat.le_refl _) (Obj.cells #[.slice r1 m1 rc1, .slice r2 m2 rc2, .slice r3 m3 rc3] 26)
  have hX3 : BoxD (w2.alloc (Obj.cells #[.slice r1 m1 rc1, .slice r2 m2 rc2, .slice r3 m3 rc3] 26)) w2.heap.size (.slice r1 m1 rc1) (.slice r2 m2 rc2) (.slice r3 m3 rc3) := World.alloc_heap_new w2 _
  have hD3 := hD2.below hal
  have hW3 := bel_step hW2 hal
  have HA3 := Lib.hid ((HA2.out.below hal (Nat.le_refl _)).more hal.size)
  have HO3 := Lib.hid (HO2.out.alloc (Obj.cells #[.slice r1 m1 rc1, .slice r2 m2 rc2, .slice r3 m3 rc3] 26))
  have hp3 := hput2 _ HA3.out (HK.out.below hW3 HK.out.pos)
  clear hput2 hD2 hal HA2 HO2
  go_wp2_with fail
  refine hp3.mono ?_
  rintro e w4 ⟨B4, d4, rfl, ho4, hB4⟩
  have hX4 := hX3.below hB4
  have hD4 := hD3.below hB4
  have hW4 := bel_step hW3 hB4
  have HA4 := Lib.hid ((HA3.out.below hB4 (Nat.le_refl _)).more hB4.size)
  have HO4 := Lib.hid (own_kept HO3.out hB4 (Nat.le_refl _))
  have HO4b := Lib.hid ho4
  clear hp3 hX3 hD3 hB4 HA3 HO3 ho4
  have HP4 := Lib.hid ((HD.out.below hW4 (Nat.le_refl _)).more hW4.size)
  have hs1 := dsame_any _ _ HOK.out HOK2.out w4 HP4.out HA4.out
  rw [dsame_eq HE2.out.1.symm HE2.out.2.1.symm HE2.out.2.2.symm] at hs1
  unfold DS.agg at hs1
  simp only [HL1.out.1, HL1.out.2.1, HL1.out.2.2, HL2.out.1, HL2.out.2.1, HL2.out.2.2] at hs1
  obtain ⟨x0, x1, x2⟩ := hX4.cells
  obtain ⟨y0, y1, y2⟩ := hD4.cells
  go_wp2_with fail
  refine hs1.mono ?_
  rintro e w5 ⟨rfl, hB5⟩
  have hX5 := hX4.below hB5
  have hD5 := hD4.below hB5
  have hW5 := bel_step hW4 hB5
  have HA5 := Lib.hid ((HA4.out.below hB5 (Nat.le_refl _)).more hB5.size)
  have HP5 := Lib.hid ((HD.out.below hW5 (Nat.le_refl _)).more hW5.size)
  have HO5 := Lib.hid (own_kept HO4.out hB5 (Nat.le_refl _))
  have HO5b := Lib.hid (own_kept HO4b.out hB5 (Nat.le_refl _))
  have hs2 := rdsame_any _ _ HOK.out HOK2.out w5 HP5.out HA5.out
  rw [dsame_eq HE2.out.1.symm HE2.out.2.1.symm HE2.out.2.2.symm] at hs2
  unfold DS.agg at hs2
  simp only [HL1.out.1, HL1.out.2.1, HL1.out.2.2, HL2.out.1, HL2.out.2.1, HL2.out.2.2] at hs2
  clear hs1 x0 x1 x2 y0 y1 y2 hX4 hD4 hB5 HA4 HP4 HO4 HO4b
  obtain ⟨x0, x1, x2⟩ := hX5.cells
  obtain ⟨y0, y1, y2⟩ := hD5.cells
  go_wp2_with fail
  refine hs2.mono ?_
  rintro e w6 ⟨rfl, hB6⟩
  have hW6 := bel_step hW5 hB6
  have hst1 := strB (Rd.of_own (own_kept HO5.out hB6 (Nat.le_refl _))) HN.out d1
  have hst2 := strB (Rd.of_own (own_kept HO5b.out hB6 (Nat.le_refl _))) HN.out d4
  clear hs2 x0 x1 x2 y0 y1 y2 hX5 hD5 hB6
  go_wp2_with fail
  refine (awake8_any w6 (HK.out.below hW6 HK.out.pos)).mono ?_
  rintro e w7 ⟨rfl, hB7⟩
  go_wp2_with fail
  go_ret
  exact ⟨rfl, bel_step hW6 hB7⟩
end Go.Proofs.YtlgokfgbcohioaaDoor
