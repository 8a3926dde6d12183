/- LAW WALK: DatasetReads -/
import Derived.Test.YtlgokfgbcohioaaDoorDsOfM
import Derived.Test.YtlgokfgbcohioaaDoorDsSrM
import Derived.Test.YtlgokfgbcohioaaDoorDsLM
namespace Go.Proofs.YtlgokfgbcohioaaDoor
open Go.RowKit Plain

theorem dsame_eq {a b : DS} (h1 : a.cols = b.cols) (h2 : a.types = b.types) (h3 : a.plain = b.plain) : dsame a b = true := by
  unfold dsame
  rw [h1, h2, h3, alleq_refl seq_refl, alleq_refl neq_refl, alleq_refl req_refl]
  rfl
set_option maxRecDepth 100000 in
set_option maxHeartbeats 2000000 in
theorem dreads_any (b : List UInt8) (A : Option Addr) (n c : Nat) (hn : b.length = n) (hnc : n ≤ c) (hcm : c ≤ 9223372036854775807) (hbl : b.length ≤ 140737488355328) (w : World) (hr : Rd w w.heap.size A (bcl b)) (hK : Kinds w) :
    Calls Tryd.prog 10 #[.slice A n c] w fun e w' => e = .returned (.bool true) ∧ Below w.heap.size w w' := by
  have h1 := dof_any b A n c hn hnc hcm w hr hK
  have h2 := fun W (hB : Below w.heap.size w W) => rdof_any b A n c hn hnc hbl W ((hr.below hB (Nat.le_refl _)).more hB.size)
  obtain ⟨q, hq⟩ : ∃ q, dof b = q := ⟨_, rfl⟩
  rw [hq] at h1 h2
  unfold DPost at h1 h2
  have HK := Lib.hid hK
  clear hq hr hK hn hbl
  go_enter Tryd.func10, Tryd.ntmps10
  go_wp2_with fail
  refine h1.mono ?_
  rintro e w1 ⟨D1, rfl, hA1, hok1, e1, e2, e3, hW1⟩
  have H1 := Lib.hid hA1
  have HO1 := Lib.hid hok1
  have HE1 := Lib.hid (And.intro e1 (And.intro e2 e3))
  obtain ⟨p1, pc1, pcols, p2, pc2, ptypes, p3, pc3, prows⟩ := D1
  unfold DS.agg
  simp only
  obtain ⟨n1, hn1⟩ : ∃ k, pcols.length = k := ⟨_, rfl⟩
  obtain ⟨n2, hn2⟩ : ∃ k, ptypes.length = k := ⟨_, rfl⟩
  obtain ⟨n3, hn3⟩ : ∃ k, prows.length = k := ⟨_, rfl⟩
  rw [hn1, hn2, hn3]
  have HL1 := Lib.hid (And.intro hn1 (And.intro hn2 hn3))
  clear h1 hA1 hok1 e1 e2 e3 hn1 hn2 hn3
  have hW2 := hW1.alloc hW1.size (Obj.cells #[.slice p1 n1 pc1, .slice p2 n2 pc2, .slice p3 n3 pc3] 26)
  have hD1 : BoxD (w1.alloc (Obj.cells #[.slice p1 n1 pc1, .slice p2 n2 pc2, .slice p3 n3 pc3] 26)) w1.heap.size (.slice p1 n1 pc1) (.slice p2 n2 pc2) (.slice p3 n3 pc3) := World.alloc_heap_new w1 _
  have H2 := Lib.hid (H1.out.below ((Below.refl w1.heap.size w1).alloc (Nat.le_refl _) (Obj.cells #[.slice p1 n1 pc1, .slice p2 n2 pc2, .slice p3 n3 pc3] 26)) (Nat.le_refl _))
  have hs2 : w1.heap.size ≤ (w1.alloc (Obj.cells #[.slice p1 n1 pc1, .slice p2 n2 pc2, .slice p3 n3 pc3] 26)).heap.size := by simp
  go_wp2_with fail
  refine (h2 _ hW2).mono ?_
  rintro e w3 ⟨D2, rfl, hA3, hok3, f1, f2, f3, hB3⟩
  have hD3 := hD1.below hB3
  have hW3 := bel_step hW2 hB3
  have hs := hs2
  have H3 := Lib.hid (H2.out.below hB3 hs2)
  have hs3 := hB3.size
  have H4 := Lib.hid hA3
  have HO2 := Lib.hid hok3
  have HE2 := Lib.hid (And.intro f1 (And.intro f2 f3))
  obtain ⟨r1, rc1, rcols, r2, rc2, rtypes, r3, rc3, rrows⟩ := D2
  unfold DS.agg
  simp only
  obtain ⟨m1, hm1⟩ : ∃ k, rcols.length = k := ⟨_, rfl⟩
  obtain ⟨m2, hm2⟩ : ∃ k, rtypes.length = k := ⟨_, rfl⟩
  obtain ⟨m3, hm3⟩ : ∃ k, rrows.length = k := ⟨_, rfl⟩
  rw [hm1, hm2, hm3]
  have HL2 := Lib.hid (And.intro hm1 (And.intro hm2 hm3))
  clear h2 hA3 hok3 f1 f2 f3 hm1 hm2 hm3 hD1 hB3 hW2 H1 H2
  have hW4 := hW3.alloc hW3.size (Obj.cells #[.slice r1 m1 rc1, .slice r2 m2 rc2, .slice r3 m3 rc3] 26)
  obtain ⟨x0, x1, x2⟩ := hD3.cells
  have hxl := hD3.lt
  have hal := (Below.refl w3.heap.size w3).alloc (Nat.le_refl _) (Obj.cells #[.slice r1 m1 rc1, .slice r2 m2 rc2, .slice r3 m3 rc3] 26)
  have HA1 := Lib.hid ((H3.out.below hal (Nat.le_trans hs hs3)).more (Nat.le_trans (Nat.le_trans hs hs3) hal.size))
  have HA2 := Lib.hid ((H4.out.below hal (Nat.le_refl _)).more hal.size)
  have hsm := rdsame_any _ _ HO1.out HO2.out _ HA1.out HA2.out
  rw [dsame_eq (HE1.out.1.trans HE2.out.1.symm) (HE1.out.2.1.trans HE2.out.2.1.symm) (HE1.out.2.2.trans HE2.out.2.2.symm)] at hsm
  unfold DS.agg at hsm
  simp only [HL1.out.1, HL1.out.2.1, HL1.out.2.2, HL2.out.1, HL2.out.2.1, HL2.out.2.2] at hsm
  clear hal hs hs2 hs3 hD3
  go_wp2_with fail
  refine hsm.mono ?_
  rintro e w5 ⟨rfl, hB5⟩
  have hW5 := bel_step hW4 hB5
  clear hsm x0 x1 x2 hB5
  go_wp2_with fail
  refine (awake8_any w5 (HK.out.below hW5 HK.out.pos)).mono ?_
  rintro e w6 ⟨rfl, hB6⟩
  go_wp2_with fail
  go_ret
  exact ⟨rfl, bel_step hW5 hB6⟩
end Go.Proofs.YtlgokfgbcohioaaDoor
