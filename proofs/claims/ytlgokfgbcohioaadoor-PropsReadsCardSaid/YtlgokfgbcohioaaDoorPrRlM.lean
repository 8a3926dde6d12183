/- LAW WALK: PropsReads -/
import Derived.Test.YtlgokfgbcohioaaDoorPoFM
import Derived.Test.YtlgokfgbcohioaaDoorPpSM
import Derived.Test.YtlgokfgbcohioaaDoorPpLM
namespace Go.Proofs.YtlgokfgbcohioaaDoor
open Go.RowKit Plain

theorem pOf_any (b : List UInt8) (A : Option Addr) (n c : Nat) (hn : b.length = n) (hnc : n ≤ c) (hcm : c ≤ 9223372036854775807) (w : World) (hr : Rd w w.heap.size A (bcl b)) (hK : Kinds w) :
    Calls Tryd.prog 34 #[.slice A n c] w (POPost (pofn 8 b) w) := by
  have h := pof_any 8 1 rfl b A n c w hn hnc hcm hr hK
  unfold POPost at h ⊢
  obtain ⟨q, hq⟩ : ∃ q, pofn 8 b = q := ⟨_, rfl⟩
  rw [hq] at h ⊢
  clear hq hn hr hK
  go_enter Tryd.func34, Tryd.ntmps34
  go_wp2_with fail
  refine h.mono ?_
  rintro e w1 ⟨l1, A1, c1, rfl, h2⟩
  go_wp2_with fail
  go_ret2
  exact ⟨l1, A1, c1, rfl, h2⟩
theorem rOf_any (b : List UInt8) (A : Option Addr) (n c : Nat) (hn : b.length = n) (hnc : n ≤ c) (hbl : b.length ≤ 140737488355328) (w : World) (hr : Rd w w.heap.size A (bcl b)) :
    Calls Tryd.prog 35 #[.slice A n c] w (POPost (pofn 8 b) w) := by
  have h := rpof_any 8 1 rfl b A n c w hn hnc hbl hr
  unfold POPost at h ⊢
  obtain ⟨q, hq⟩ : ∃ q, pofn 8 b = q := ⟨_, rfl⟩
  rw [hq] at h ⊢
  clear hq hn hr hbl
  go_enter Tryd.func35, Tryd.ntmps35
  go_wp2_with fail
  refine h.mono ?_
  rintro e w1 ⟨l1, A1, c1, rfl, h2⟩
  go_wp2_with fail
  go_ret2
  exact ⟨l1, A1, c1, rfl, h2⟩
set_option maxRecDepth 100000 in
set_option maxHeartbeats 2000000 in
theorem preads_any (b : List UInt8) (A : Option Addr) (n c : Nat) (hn : b.length = n) (hnc : n ≤ c) (hcm : c ≤ 9223372036854775807) (hbl : b.length ≤ 140737488355328) (w : World) (hr : Rd w w.heap.size A (bcl b)) (hK : Kinds w) :
    Calls Tryd.prog 9 #[.slice A n c] w fun e w' => e = .returned (.bool true) ∧ Below w.heap.size w w' := by
  have h1 := pOf_any b A n c hn hnc hcm w hr hK
  have h2 := fun W (hB : Below w.heap.size w W) => rOf_any b A n c hn hnc hbl W ((hr.below hB (Nat.le_refl _)).more hB.size)
  obtain ⟨q, hq⟩ : ∃ q, pofn 8 b = q := ⟨_, rfl⟩
  rw [hq] at h1 h2
  unfold POPost at h1 h2
  have HK := Lib.hid hK
  obtain ⟨ql, qe⟩ := q
  simp only at h1 h2
  clear hq hr hK hn hbl
  go_enter Tryd.func9, Tryd.ntmps9
  go_wp2_with fail
  refine h1.mono ?_
  rintro e w1 ⟨l1, A1, c1, rfl, hat1, hok1, hlen1, hst1, hW1⟩
  go_wp2_with fail
  refine (h2 _ hW1).mono ?_
  rintro e w2 ⟨l2, A2, c2, rfl, hat2, hok2, hlen2, hst2, hB2⟩
  have hW2 := bel_step hW1 hB2
  have hs := rsame_any l1 l2 A1 A2 c1 c2 w2 (by omega) (by omega) hok1 hok2 ((hat1.at_).below hB2 (Nat.le_refl _) |>.more hB2.size) hat2.at_
  rw [Ps.same_of_strip (hst1.trans hst2.symm)] at hs
  clear h1 h2 hat1 hat2 hok1 hok2 hst1 hst2 hB2 hW1
  generalize l1.list.length = n1 at *
  generalize l2.list.length = n2 at *
  go_wp2_with fail
  refine hs.mono ?_
  rintro e w3 ⟨rfl, hd3⟩
  have hd4 : Below w2.heap.size w2 w3 := (by obtain ⟨k, rfl⟩ := hd3; exact below_drewN (Below.refl _ _) k)
  have hW3 := bel_step hW2 hd4
  clear hs hd3 hd4
  go_wp2_with fail
  refine (awake7_any w3 (HK.out.below hW3 HK.out.pos)).mono ?_
  rintro e w4 ⟨rfl, hB4⟩
  go_wp2_with fail
  go_ret
  exact ⟨rfl, bel_step hW3 hB4⟩
end Go.Proofs.YtlgokfgbcohioaaDoor
