/- LAW WALK: PropsBack -/
import Derived.Test.YtanfnjlndckhkaaDoorPbPM
import Derived.Test.YtanfnjlndckhkaaDoorK11
namespace Go.Proofs.YtanfnjlndckhkaaDoor
open Go.RowKit Plain

set_option maxRecDepth 100000 in
set_option maxHeartbeats 4000000 in
theorem pback_any (l : Ps) (A : Option Addr) (c : Nat) (w : World) (hlen : l.list.length ≤ 9223372036854775807) (hok : l.Ok) (hat : l.At w w.heap.size A) (hK : Kinds w) :
    Calls Tryd.prog 10 #[.slice A l.list.length c] w fun e w' => e = .returned (.bool true) ∧ Below w.heap.size w w' := by
  have h1 := pPut_any l A c w hok hlen hat hK
  have hbad := Ps.put_bad l 1
  have hgood := Ps.put_back l 8 1 rfl hok
  have hdep := Ps.put_depth l 8 1 rfl
  have HPUT : Hid (∀ (m : Ps), m.strip = l.strip → m.Ok → m.list.length ≤ 9223372036854775807 → ∀ (A2 : Option Addr) (c2 : Nat) W, m.At W W.heap.size A2 → Kinds W → Calls Tryd.prog 16 #[.slice A2 m.list.length c2] W (BPost (l.put 1) W)) := Lib.hid (fun m e1 e2 e3 A2 c2 W ha hk => by
    have := pPut_any m A2 c2 W e2 e3 ha hk
    rwa [← Ps.put_strip m 1, e1, Ps.put_strip l 1] at this)
  obtain ⟨q, hq⟩ : ∃ q, l.put 1 = q := ⟨_, rfl⟩
  rw [hq] at h1 hbad hgood hdep HPUT
  clear hq
  obtain ⟨L, er⟩ := q
  unfold BPost at h1 HPUT
  simp only at h1 HPUT hbad hgood hdep
  obtain ⟨N, hN⟩ : ∃ N, L.length = N := ⟨_, rfl⟩
  rw [hN] at h1 HPUT
  have HN := Lib.hid hN
  have HAT := Lib.hid (And.intro hat (And.intro hok hlen))
  have HK := Lib.hid hK
  have HBAD := Lib.hid hbad
  have HGOOD := Lib.hid hgood
  have HDEP := Lib.hid hdep
  clear hat hok hlen hK hbad hgood hdep hN
  obtain ⟨n1, hn1⟩ : ∃ k, l.list.length = k := ⟨_, rfl⟩
  rw [hn1] at h1 ⊢
  have HN1 := Lib.hid hn1
  clear hn1
  go_enter Tryd.func10, Tryd.ntmps10
  go_wp2_with fail
  refine h1.mono ?_
  rintro e w1 ⟨B1, d1, rfl, ho1, hW1⟩
  clear h1
  by_cases he : er = 0
  rotate_left
  · have hbe : (er != 0) = true := by simpa using he
    have hL : L = [] := HBAD.out he
    have hN0 : N = 0 := by rw [← HN.out, hL]; rfl
    subst hN0
    clear he hL ho1 HPUT HGOOD HBAD
    go_wp2_with fail
    refine (awake7_any w1 (HK.out.below hW1 HK.out.pos)).mono ?_
    rintro e w3 ⟨rfl, hB3⟩
    go_wp2_with fail
    go_ret
    exact ⟨rfl, bel_step hW1 hB3⟩
  subst he
  have hback := HGOOD.out (by trivial)
  have hdl := HDEP.out (by trivial)
  obtain ⟨hcap1, hcap2⟩ := own_cap ho1
  have hof := pOf_any L B1 N d1 HN.out hcap1 hcap2 w1 (Rd.of_own ho1) (HK.out.below hW1 HK.out.pos)
  rw [hback] at hof
  unfold POPost at hof
  simp only at hof
  have HO1 := Lib.hid ho1
  have HDL := Lib.hid hdl
  clear hback HBAD HGOOD HDEP ho1 hcap1 hcap2 hdl
  go_wp2_with fail
  refine hof.mono ?_
  rintro e w2 ⟨m, A2, c2, rfl, hat2, hok2, hlen2, hst2, hB2⟩
  have hW2 := bel_step hW1 hB2
  have HO2 := Lib.hid (own_kept HO1.out hB2 (Nat.le_refl _))
  have HA2 := Lib.hid hat2.at_
  have hp3 := HPUT.out m hst2 hok2 (by omega) A2 c2 w2 HA2.out (HK.out.below hW2 HK.out.pos)
  have HM := Lib.hid (And.intro hok2 (And.intro hlen2 hst2))
  clear hof hB2 HO1 HPUT hat2 hok2 hlen2 hst2
  obtain ⟨n2, hn2⟩ : ∃ k, m.list.length = k := ⟨_, rfl⟩
  rw [hn2] at hp3 ⊢
  have HN2 := Lib.hid hn2
  clear hn2
  go_wp2_with fail
  refine hp3.mono ?_
  rintro e w4 ⟨B4, d4, rfl, ho4, hB4⟩
  have hW4 := bel_step hW2 hB4
  have HA4 := Lib.hid ((HA2.out.below hB4 (Nat.le_refl _)).more hB4.size)
  have HO4 := Lib.hid (own_kept HO2.out hB4 (Nat.le_refl _))
  have HO4b := Lib.hid ho4
  have HP4 := Lib.hid ((HAT.out.1.below hW4 (Nat.le_refl _)).more hW4.size)
  have hs1 := rsame_any l m A A2 c c2 w4 HAT.out.2.2 (by have := HM.out.2.1; omega) HAT.out.2.1 HM.out.1 HP4.out HA4.out
  rw [Ps.same_of_strip HM.out.2.2.symm, HN1.out, HN2.out] at hs1
  clear hp3 hB4 HA2 HO2 ho4
  go_wp2_with fail
  refine hs1.mono ?_
  rintro e w5 ⟨rfl, hd5⟩
  have hB5 : Below w4.heap.size w4 w5 := (by obtain ⟨k, rfl⟩ := hd5; exact below_drewN (Below.refl _ _) k)
  have hW5 := bel_step hW4 hB5
  have HA5 := Lib.hid ((HA4.out.below hB5 (Nat.le_refl _)).more hB5.size)
  have HO5 := Lib.hid (own_kept HO4.out hB5 (Nat.le_refl _))
  have HO5b := Lib.hid (own_kept HO4b.out hB5 (Nat.le_refl _))
  have hmd : m.depth ≤ 8 := by rw [← Ps.depth_strip m, HM.out.2.2, Ps.depth_strip l]; exact HDL.out
  have hs2 := depth_any m A2 c2 w5 (by omega) HM.out.1 (by have := HM.out.2.1; omega) HA5.out
  rw [HN2.out] at hs2
  obtain ⟨D, hD⟩ : ∃ D, m.depth = D := ⟨_, rfl⟩
  rw [hD] at hs2 hmd
  have hdd : decide ((D : Int) ≤ 8) = true := decide_eq_true (by omega)
  clear hs1 hd5 hB5 HA4 HP4 HO4 HO4b hD
  go_wp2_with fail
  refine hs2.mono ?_
  rintro e w6 ⟨rfl, hB6⟩
  have hW6 := bel_step hW5 hB6
  have hst1 := strB (Rd.of_own (own_kept HO5.out hB6 (Nat.le_refl _))) HN.out d1
  have hst2 := strB (Rd.of_own (own_kept HO5b.out hB6 (Nat.le_refl _))) HN.out d4
  clear hs2 hB6
  go_wp2_with fail
  refine (awake7_any w6 (HK.out.below hW6 HK.out.pos)).mono ?_
  rintro e w7 ⟨rfl, hB7⟩
  go_wp2_with fail
  go_ret
  exact ⟨rfl, bel_step hW6 hB7⟩
end Go.Proofs.YtanfnjlndckhkaaDoor
