/- WALKS: the reader of wire: text. -/
import Derived.Test.YtlgokfgbcohioaaDoorWRd
import Derived.Test.YtlgokfgbcohioaaDoorAppB
import Derived.BigQuiet
import Derived.Deep.QuietTactic
import Derived.Test.YtlgokfgbcohioaaDoorWrap
namespace Go.Proofs.YtlgokfgbcohioaaDoor
open Go.RowKit Plain

theorem wrap_s (i : Nat) (h : i ≤ 140737488355328) : wrap64 (i : Int) = (i : Int) := by unfold wrap64; omega
theorem strB2 {w : World} {B : Nat} {A : Option Addr} {l : List UInt8} (hr : Rd w B A (bcl l)) {n : Nat} (hn : l.length = n) (c : Nat) :
    (convert 27 9 (.slice A n c)).run Tryd.prog w = .ok (.string ⟨l.toArray⟩) w :=
  hn ▸ run_str _ _ _ Tryd.underlying27 Tryd.underlying5 Tryd.underlying9 hr c
theorem wval2 {b : List UInt8} {p : Nat} : wval b p 2 = if (vget b p).2.2 = 0 then if b.length - (vget b p).2.1 < (vget b p).1 then ⟨0, emptyT, 0, 2⟩ else ⟨0, ⟨((b.drop (vget b p).2.1).take (vget b p).1).toArray⟩, (vget b p).2.1 + (vget b p).1, 0⟩ else ⟨0, emptyT, 0, (vget b p).2.2⟩ := by
  unfold wval; rw [if_neg (by omega), if_neg (by omega), if_neg (by omega), if_pos rfl]
section
variable (b : List UInt8) (A : Option Addr) (n c : Nat) (hn : b.length = n) (hnc : n ≤ c) (hcm : c ≤ 9223372036854775807) (hl : b.length ≤ 140737488355328) (w0 : World) (hr0 : Rd w0 w0.heap.size A (bcl b))
include hn hnc hcm hl hr0
set_option maxRecDepth 100000 in
set_option maxHeartbeats 1000000 in
theorem rtextr_any (s : RSt) (R : Nat) (W : World) (h : Rdr w0 W R A n c s) :
    Calls Tryd.prog 105 #[.pointer (some ⟨R, 0, none⟩)] W fun e w' => e = .returned (.tuple #[.string (wval b s.at_ 2).text, .int .i64 (wval b s.at_ 2).err]) ∧ ((wval b s.at_ 2).err = 0 → Rdr w0 w' R A n c ⟨(wval b s.at_ 2).to, s.opn, s.out⟩) ∧ Below w0.heap.size w0 w' ∧ Kp W w' R := by
  have hnum := rnum_any b A n c hn hnc hcm hl w0 hr0 s R W h
  have hto := @vget_to b s.at_
  have hvl := vget_lt b s.at_
  rw [wval2]
  obtain ⟨r, hr⟩ : ∃ r, vget b s.at_ = r := ⟨_, rfl⟩
  rw [hr] at hnum hto hvl ⊢
  obtain ⟨v, to, er⟩ := r
  simp only at hnum hto hvl ⊢
  clear hr
  by_cases he : er = 0
  · subst he
    obtain ⟨t1, t2, _⟩ := hto rfl
    have hto2 : to ≤ n := by omega
    by_cases hlong : b.length - to < v
    · rw [if_pos rfl, if_pos hlong]
      simp only
      go_enter Tryd.func105, Tryd.ntmps105
      go_wp2_with fail
      refine hnum.mono ?_
      rintro e w1 ⟨rfl, h1, hB1, hg1⟩
      replace h1 := h1 (by first | rfl | trivial)
      obtain ⟨Ao, co, Ax, cx, c0, c1, c2, c3, f1, f2, f3, _, _⟩ := h1.cells
      obtain ⟨K, hK⟩ : ∃ K, n - to = K := ⟨_, rfl⟩
      have hs1 : IntKind.i64.wrap ((n : Int) - (to : Int)) = (K : Int) := by rw [show (n : Int) - (to : Int) = ((K : Nat) : Int) by omega]; exact wrap_small _ (by omega)
      have hs2 : IntKind.u64.wrap (K : Int) = (K : Int) := wrap_u64 _ (by omega)
      have hdec : decide (K < v) = true := by simp; omega
      clear hlong hvl hto2 hK hto t1 t2 hnum h
      go_wp2_with fail
      go_quiet (fail)
      go_wp2_with fail
      go_ret2
      exact ⟨rfl, fun h => absurd h (by decide), (h1.step (show Below w1.heap.size w1 (w1.drewN nq) from ⟨rfl, rfl, rfl, Nat.le_refl _, fun _ _ => rfl⟩)).bel, hg1.trans (Kp.b h1.lt (show Below w1.heap.size w1 (w1.drewN nq) from ⟨rfl, rfl, rfl, Nat.le_refl _, fun _ _ => rfl⟩))⟩
    · rw [if_pos rfl, if_neg hlong]
      simp only
      obtain ⟨T, hT⟩ : ∃ T, to + v = T := ⟨_, rfl⟩
      rw [hT]
      go_enter Tryd.func105, Tryd.ntmps105
      go_wp2_with fail
      refine hnum.mono ?_
      rintro e w1 ⟨rfl, h1, hB1, hg1⟩
      replace h1 := h1 (by first | rfl | trivial)
      obtain ⟨Ao, co, Ax, cx, c0, c1, c2, c3, f1, f2, f3, _, _⟩ := h1.cells
      obtain ⟨K, hK⟩ : ∃ K, n - to = K := ⟨_, rfl⟩
      have hs1 : IntKind.i64.wrap ((n : Int) - (to : Int)) = (K : Int) := by rw [show (n : Int) - (to : Int) = ((K : Nat) : Int) by omega]; exact wrap_small _ (by omega)
      have hs2 : IntKind.u64.wrap (K : Int) = (K : Int) := wrap_u64 _ (by omega)
      have hdec : decide (K < v) = false := by simp; omega
      have hvs : v ≤ 140737488355328 := by omega
      have hts : T ≤ 140737488355328 := by omega
      have hw1 : wrap64 (v : Int) = (v : Int) := wrap_s v hvs
      have hw2 : wrap64 ((to : Int) + (v : Int)) = (T : Int) := by rw [show (to : Int) + (v : Int) = (T : Int) by omega]; exact wrap_s T hts
      have HTT := Lib.hid hT
      clear hvs hts
      have HLG := Lib.hid hlong
      have HV := Lib.hid hvl
      have HT := Lib.hid hto2
      have HK := Lib.hid hK
      clear hlong hvl hto2 hK hto t1 t2 hnum h hT
      go_wp2_with fail
      go_quiet (fail)
      go_wp2_with fail
      have h2 := (h1.step (show Below w1.heap.size w1 (w1.drewN nq) from ⟨rfl, rfl, rfl, Nat.le_refl _, fun _ _ => rfl⟩)).setAt T
      have hg2 : Kp W (((w1.drewN nq).setCell ⟨R, 1, none⟩ (.int .i64 T))) R := (hg1.trans (Kp.b h1.lt (show Below w1.heap.size w1 (w1.drewN nq) from ⟨rfl, rfl, rfl, Nat.le_refl _, fun _ _ => rfl⟩))).trans (Kp.s _ _ _)
      generalize (w1.drewN nq).setCell ⟨R, 1, none⟩ (.int .i64 T) = w2 at *
      have hg3 : Kp W w2.drew R := hg2.trans (Kp.b h2.lt (Below.refl _ w2).drew)
      have h3 : Rdr w0 w2.drew R A n c ⟨T, s.opn, s.out⟩ := h2.step (Below.refl _ w2).drew
      have d0 : ∀ u, Below w2.drew.heap.size w2.drew u → u.cell? ⟨R, 0, none⟩ = some (.slice A n c) := fun u hu => by obtain ⟨_, _, _, _, x, _⟩ := (h3.step hu).cells; exact x
      have d1 : ∀ u, Below w2.drew.heap.size w2.drew u → u.cell? ⟨R, 1, none⟩ = some (.int .i64 T) := fun u hu => by obtain ⟨_, _, _, _, _, x, _⟩ := (h3.step hu).cells; exact x
      have hle1 : (to : Int) ≤ (T : Int) := by have := HTT.out; omega
      have hle2 : to ≤ T := by have := HTT.out; omega
      have hle3 : (T : Int) ≤ (c : Int) := by have := HTT.out; have := HK.out; have := HLG.out; have := HT.out; omega
      have hle4 : T ≤ c := by omega
      have hlen : T - to = v := by have := HTT.out; omega
      have hcv : ∀ u, Below w2.drew.heap.size w2.drew u → (convert 27 9 (.slice (if c = to then A else A.map (·.add to)) v (c - to))).run Tryd.prog u = .ok (.string ⟨((b.drop to).take v).toArray⟩) u := fun u hu => by
        have hb2 : b.length ≤ c * 1 := by omega
        have h := ((hr0.below (h3.step hu).bel (Nat.le_refl _)).drop (k := to) (cap := c) (size := 1) (by simp [bcl]; omega)).take v
        rw [show ((bcl b).drop (to * 1)).take v = bcl ((b.drop to).take v) by simp [bcl, List.map_drop, List.map_take]] at h
        simp only [Nat.mul_one] at h
        exact strB2 h (by have := HTT.out; have := HK.out; have := HLG.out; have := HT.out; simp; omega) _
      clear c0 c1 c2 c3 f1 f2 f3 h1 h2
      refine wp_region_L 13 [0, 1, 2, 3, 4, 5, 6, 7, 8, 9, 10, 11, 12] rfl (by decide) (by decide) (by kernel_rfl) ?_
      generalize w2.drew = w3 at *
      simp only [List.filterMap_cons, List.filterMap_nil, List.getElem?_cons_zero, List.getElem?_cons_succ, Option.map_some]
      repeat (first
          | (refine wpL_take (v := ?_) (by kernel_rfl) (by kernel_rfl) (by kernel_rfl) (fun _ _ _ h => h) (by rfl) (fun u hu => ?_) ?_
             rotate_left
             focus
               unfold Grows at hu
               go_simp
               try with_reducible rfl
             simp only [Act.put, List.setIfInBounds_toArray, List.set_cons_zero, List.set_cons_succ])
          | (refine wpL_pass (by kernel_rfl) (by kernel_rfl) (by kernel_rfl) (fun _ _ _ h => h) (by rfl) ?_; simp only [Act.put, List.setIfInBounds_toArray, List.set_cons_zero, List.set_cons_succ]))
      refine wpL_done (by kernel_rfl) ?_
      all_goals go_wp2_with fail
      all_goals go_ret2
      all_goals exact ⟨rfl, (by first | exact h3 | exact (by assumption : c = to) ▸ h3 | simpa [*] using h3), h3.bel, hg3⟩
  · have hb : ((er : Int) != 0) = true := by simp; omega
    rw [if_neg he]
    have HE := Lib.hid he
    clear he hto hvl
    go_enter Tryd.func105, Tryd.ntmps105
    go_wp2_with fail
    refine hnum.mono ?_
    rintro e w1 ⟨rfl, -, hB1, hg1⟩
    go_wp2_with fail
    go_ret2
    exact ⟨rfl, fun h => absurd h HE.out, hB1, hg1⟩
end
end Go.Proofs.YtlgokfgbcohioaaDoor
