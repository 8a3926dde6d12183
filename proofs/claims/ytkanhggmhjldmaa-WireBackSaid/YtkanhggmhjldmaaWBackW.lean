/- LAW WALK: WireBack -/
import Derived.Test.YtkanhggmhjldmaaWLast
import Derived.Test.YtkanhggmhjldmaaWBackP
namespace Go.Proofs.Ytkanhggmhjldmaa
open Go.RowKit Plain

theorem wput_ok {l : List Fld} (h : (wput l).2 = 0) : wput l = (wencs l, 0) ∧ werrs l = 0 ∧ l.length ≤ 256 ∧ (wencs l).length ≤ 4096 := by
  unfold wput at h ⊢
  split at h
  · rename_i h1
    split at h
    · simp at h
    · rename_i h2
      split at h
      · simp at h
      · rename_i h3
        rw [if_pos h1, if_neg h2, if_neg h3]
        exact ⟨rfl, h1, by omega, by omega⟩
  · rename_i h1; exact absurd h h1
theorem wput_bad {l : List Fld} (h : ¬ (wput l).2 = 0) : (wput l).1 = [] := by
  unfold wput at h ⊢
  split
  · rename_i h1; rw [if_pos h1] at h
    split
    · rfl
    · rename_i h2; rw [if_neg h2] at h
      split
      · rfl
      · rename_i h3; rw [if_neg h3] at h; simp at h
  · rfl
set_option maxRecDepth 100000 in
set_option maxHeartbeats 4000000 in
theorem wback_any (l : List Fld) (A : Option Addr) (c : Nat) (num : Int) (hl : l.length ≤ 9223372036854775807) (hwf : ∀ f ∈ l, FldOk f) (w : World) (hr : Rd w w.heap.size A (flc l)) :
    Calls Try.prog 8 #[.slice A l.length c, .int .i64 num] w fun e w' => e = .returned (.bool true) ∧ Below w.heap.size w w' := by
  have h1 := puts_any l A c hl hwf w hr
  unfold PutsPost at h1
  by_cases he : (wput l).2 = 0
  · obtain ⟨e1, e2, e3, e4⟩ := wput_ok he
    have hwo := wof_wencs l e2 hwf e3 e4
    rw [e1] at h1
    simp only at h1
    obtain ⟨b, hb⟩ : ∃ b, wencs l = b := ⟨_, rfl⟩
    rw [hb] at h1 hwo e4
    obtain ⟨N, hN⟩ : ∃ N, l.length = N := ⟨_, rfl⟩
    obtain ⟨K, hK⟩ : ∃ K, b.length = K := ⟨_, rfl⟩
    rw [hK] at h1 e4
    have hlast := fun (A' : Option Addr) (c' : Nat) (W : World) (h : Rd W W.heap.size A' (flc l)) => last_any num l A' c' (by omega) W h
    have hrlast := fun (A' : Option Addr) (c' : Nat) (W : World) (h : Rd W W.heap.size A' (flc l)) => rlast_any num l A' c' (by omega) W h
    have hall := fun (A' : Option Addr) (c' : Nat) (W : World) (h : Rd W W.heap.size A' (flc l)) => all_any num l A' c' (by omega) W h
    have hrall := fun (A' : Option Addr) (c' : Nat) (W : World) (h : Rd W W.heap.size A' (flc l)) => rall_any num l A' c' (by omega) W h
    have hsame := fun (A' : Option Addr) (c' : Nat) (W : World) (h1 : Rd W W.heap.size A (flc l)) (h : Rd W W.heap.size A' (flc l)) => same_any A A' c c' l (by omega) W (Nat.le_refl _) (Nat.le_refl _) h1 h
    have hwl : (wall num l).length ≤ 1000 := Nat.le_trans (List.length_filter_le _ _) (by omega)
    obtain ⟨Q, hQ⟩ : ∃ Q, wlast num l = Q := ⟨_, rfl⟩
    obtain ⟨M, hM⟩ : ∃ M, wall num l = M := ⟨_, rfl⟩
    rw [hN] at h1 hlast hrlast hall hrall hsame ⊢
    rw [hQ] at hlast hrlast
    rw [hM] at hall hrall hwl
    obtain ⟨⟨qn, qk, qv, qt⟩, qb⟩ := Q
    unfold Fld.agg at hlast hrlast
    simp only at hlast hrlast
    have HK := Lib.hid hK
    have HNN := Lib.hid hN
    have H4 := Lib.hid e4
    have HR := Lib.hid hr
    have hK2 : ¬ 4096 < K := by omega
    have hdK : decide ((4096 : Int) < (K : Int)) = false := decide_eq_false (by omega)
    have HWL := Lib.hid hwl
    have HWO := Lib.hid hwo
    clear he e1 e2 e3 e4 hb hK hr hl hwf hN hQ hM hwl hK2 hwo
    go_enter Try.func8, Try.ntmps8
    go_wp2_with fail
    refine h1.mono ?_
    rintro e w1 ⟨A1, c1, rfl, ho1, hB1⟩
    have hcap := own_cap ho1
    have hof := of_any b A1 K c1 HK.out hcap.1 hcap.2 w1 (Rd.of_own ho1)
    unfold OfPost at hof
    rw [HWO.out] at hof
    simp only at hof
    rw [HNN.out] at hof
    clear h1 ho1 hcap
    go_wp2_with fail
    refine hof.mono ?_
    rintro e w2 ⟨A2, c2, rfl, ho2, hB2⟩
    have hW2 := bel_step hB1 hB2
    have hq1 : Rd w2 w2.heap.size A (flc l) := (HR.out.below hW2 (Nat.le_refl _)).more hW2.size
    have hq2 : Rd w2 w2.heap.size A2 (flc l) := Rd.of_own ho2
    clear hof ho2 hB1 hB2
    go_wp2_with fail
    refine (hsame A2 c2 w2 hq1 hq2).mono ?_
    rintro e w3 ⟨rfl, hB3⟩
    have hW3 := bel_step hW2 hB3
    have hq13 := (hq1.below hB3 (Nat.le_refl _)).more hB3.size
    have hq23 := (hq2.below hB3 (Nat.le_refl _)).more hB3.size
    clear hq1 hq2 hB3 hW2
    go_wp2_with fail
    refine (hlast A2 c2 w3 hq23).mono ?_
    rintro e w4 ⟨rfl, hB4⟩
    have hW4 := bel_step hW3 hB4
    have hq14 := (hq13.below hB4 (Nat.le_refl _)).more hB4.size
    have hq24 := (hq23.below hB4 (Nat.le_refl _)).more hB4.size
    clear hq13 hq23 hB4 hW3
    go_wp2_with fail
    have hKB := BoxF.new w4 qn qk qv qt
    have hBa := (Below.refl w4.heap.size w4).alloc (Nat.le_refl _) (Obj.cells #[.int .i64 qn, .int .i64 qk, .int .u64 qv, .string qt] 49)
    have hWa := bel_step hW4 hBa
    have hq14a := (hq14.below hBa (Nat.le_refl _)).more hBa.size
    have hq24a := (hq24.below hBa (Nat.le_refl _)).more hBa.size
    clear hq14 hq24 hBa hW4
    refine (hrlast A c _ hq14a).mono ?_
    rintro e w5 ⟨rfl, hB5⟩
    have hW5 := bel_step hWa hB5
    have hq15 := (hq14a.below hB5 (Nat.le_refl _)).more hB5.size
    have hq25 := (hq24a.below hB5 (Nat.le_refl _)).more hB5.size
    have hKB5 := hKB.below hB5 hKB.lt
    clear hq14a hq24a hB5 hWa hKB
    go_wp2_with fail
    have hPB := BoxF.new w5 qn qk qv qt
    have hBa := (Below.refl w5.heap.size w5).alloc (Nat.le_refl _) (Obj.cells #[.int .i64 qn, .int .i64 qk, .int .u64 qv, .string qt] 49)
    have hKBa := hKB5.below hBa hKB5.lt
    have hWa := bel_step hW5 hBa
    have hq15a := (hq15.below hBa (Nat.le_refl _)).more hBa.size
    have hq25a := (hq25.below hBa (Nat.le_refl _)).more hBa.size
    clear hq15 hq25 hBa hW5 hKB5
    refine (hall A2 c2 _ hq25a).mono ?_
    rintro e w6 ⟨A6, c6, rfl, ho6, hB6⟩
    have hW6 := bel_step hWa hB6
    have hq16 := (hq15a.below hB6 (Nat.le_refl _)).more hB6.size
    have hKB6 := hKBa.below hB6 hKBa.lt
    have hPB6 := hPB.below hB6 hPB.lt
    clear hq15a hq25a hB6 hWa hKBa hPB
    go_wp2_with fail
    refine (hrall A c w6 hq16).mono ?_
    rintro e w7 ⟨A7, c7, rfl, ho7, hB7⟩
    have hW7 := bel_step hW6 hB7
    have hm1 : Rd w7 w7.heap.size A6 (flc M) := ((Rd.of_own ho6).below hB7 (Nat.le_refl _)).more hB7.size
    have hm2 : Rd w7 w7.heap.size A7 (flc M) := Rd.of_own ho7
    have hKB7 := hKB6.below hB7 hKB6.lt
    have hPB7 := hPB6.below hB7 hPB6.lt
    clear hq16 hB7 hW6 hKB6 hPB6 ho6 ho7
    go_wp2_with fail
    refine (same_any A6 A7 c6 c7 M (by have := HWL.out; omega) w7 (Nat.le_refl _) (Nat.le_refl _) hm1 hm2).mono ?_
    rintro e w8 ⟨rfl, hB8⟩
    have hW8 := bel_step hW7 hB8
    obtain ⟨x0, x1, x2, x3⟩ := (hKB7.below hB8 hKB7.lt).cells
    obtain ⟨y0, y1, y2, y3⟩ := (hPB7.below hB8 hPB7.lt).cells
    clear hm1 hm2 hB8 hW7 hKB7 hPB7 hlast hrlast hall hrall hsame
    go_wp2_with fail
    refine (awake3_any w8).mono ?_
    rintro e w9 ⟨rfl, hB9⟩
    go_wp2_with fail
    go_ret
    exact ⟨rfl, bel_step hW8 hB9⟩
  · have hbad := wput_bad he
    obtain ⟨r, hr2⟩ : ∃ r, wput l = r := ⟨_, rfl⟩
    rw [hr2] at h1 he hbad
    obtain ⟨b, er⟩ := r
    simp only at h1 he hbad
    subst hbad
    have hbe : (er != 0) = true := by simpa using he
    clear hr2 he hr hwf hl
    go_enter Try.func8, Try.ntmps8
    go_wp2_with fail
    refine h1.mono ?_
    rintro e w1 ⟨A1, c1, rfl, ho1, hB1⟩
    clear h1 ho1
    go_wp2_with fail
    refine (awake3_any w1).mono ?_
    rintro e w2 ⟨rfl, hB2⟩
    go_wp2_with fail
    go_ret
    exact ⟨rfl, bel_step hB1 hB2⟩
end Go.Proofs.Ytkanhggmhjldmaa
