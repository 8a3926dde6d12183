/- LAW WALK: MetaStrange -/
import Derived.Test.YtkanhggmhjldmaaMRdWM
import Derived.Test.YtkanhggmhjldmaaWPutOkM
namespace Go.Proofs.Ytkanhggmhjldmaa
open Go.RowKit Plain

/-- the fields of other numbers among the first k -/
def mfar (l : List Fld) (k : Nat) : List Fld := (l.take k).filter fun f => decide (8 < f.num)
theorem mfar_step {l : List Fld} {j : Nat} {f : Fld} (h : l[j]? = some f) : mfar l (j + 1) = if 8 < f.num then mfar l j ++ [f] else mfar l j := by
  unfold mfar
  rw [List.take_add_one, h]
  by_cases h8 : 8 < f.num <;> simp [h8]
theorem mfar_len (l : List Fld) (k : Nat) : (mfar l k).length ≤ k := Nat.le_trans (List.length_filter_le _ _) (by simp; omega)
theorem mfar_mem {l : List Fld} {k : Nat} {f : Fld} (h : f ∈ mfar l k) : f ∈ l ∧ 8 < f.num := by
  obtain ⟨h1, h2⟩ := List.mem_filter.1 h
  exact ⟨List.mem_of_mem_take h1, by simpa using h2⟩
set_option maxRecDepth 100000 in
set_option maxHeartbeats 4000000 in
theorem mstrange_any (m : MM) (l : List Fld) (A : Option Addr) (c : Nat) (at_ : Nat) (hm : MOk m) (hl : l.length ≤ 9223372036854775807) (hwf : ∀ f ∈ l, FldOk f) (w : World) (hr : Rd w w.heap.size A (flc l)) :
    Calls Try.prog 10 #[.agg m.cells, .slice A l.length c, .int .u8 at_] w fun e w' => e = .returned (.bool true) ∧ Below w.heap.size w w' := by
  have hpa := mput_any m hm
  unfold PutsPost at hpa
  obtain ⟨ra, hra⟩ : ∃ r, wput (mfields m) = r := ⟨_, rfl⟩
  rw [hra] at hpa
  obtain ⟨x, e1⟩ := ra
  simp only at hpa
  obtain ⟨N, hN⟩ : ∃ N, min l.length 20 = N := ⟨_, rfl⟩
  have hfar : mfar l N = mfar l 20 := by
    unfold mfar
    rcases Nat.lt_or_ge l.length 20 with h | h
    · rw [List.take_of_length_le (by omega), List.take_of_length_le (by omega)]
    · rw [show N = 20 by omega]
  have hN1 : N ≤ l.length ∧ N ≤ 20 := by omega
  have HRA := Lib.hid hra
  have HWF := Lib.hid hwf
  have HR := Lib.hid hr
  have HFAR := Lib.hid hfar
  have HN1 := Lib.hid hN1
  have HN := Lib.hid hN
  clear hra hwf hr hfar hN1 hN
  obtain ⟨m1, m2, m3, m4, m5, m6, m7, m8⟩ := m
  unfold MM.cells at hpa ⊢
  simp only at hpa ⊢
  go_enter Try.func10, Try.ntmps10
  go_wp2_with fail
  refine (hpa _).mono ?_
  rintro e w1 ⟨A1, c1, rfl, hown1, hB1⟩
  have hMm : BoxM w1 w.heap.size ⟨m1, m2, m3, m4, m5, m6, m7, m8⟩ := (hB1.block _ (by simp)).trans (World.alloc_heap_new w _)
  have hW : Below w.heap.size w w1 := ((Below.refl _ w).alloc (Nat.le_refl _) _).trans (hB1.mono (by simp))
  clear hB1 hpa
  go_wp2_with fail
  go_loopw [9, 10] (fun o i wr => ∃ (j M : Nat) (A2 : Option Addr) (c2 : Nat), i = .int .i64 j ∧ o = .slice A2 M c2 ∧ j ≤ N ∧ (mfar l j).length = M ∧ wr.ownsRow w1.heap.size 49 4 (.slice A2 M c2) M (flc (mfar l j)) ∧ Below w1.heap.size w1 wr) (fun _ i _ => N - (intOf i).toNat)
  case atStart => exact ⟨0, 0, none, 0, rfl, rfl, Nat.zero_le _, rfl, World.ownsRow_nil _ _ _ _, Below.refl _ _⟩
  case round =>
    obtain ⟨j, M, A2, c2, rfl, rfl, hj, hM, hown, hB⟩ := hrel
    have hs3 := hB.size
    by_cases hltN : j < N
    · have hlt : j < l.length := by have := HN1.out; omega
      have hlt2 : (j : Int) < 20 := by have := HN1.out; omega
      obtain ⟨f, hf⟩ : ∃ f, l[j]? = some f := ⟨_, List.getElem?_eq_getElem hlt⟩
      obtain ⟨b1, o1, rfl, hb1, g0, g1, g2, g3⟩ := fld_at (HR.out.below (bel_step hW hB) (Nat.le_refl _)) hf
      have HST := Lib.hid (mfar_step hf)
      have hMle : M ≤ 20 := by rw [← hM]; exact Nat.le_trans (mfar_len _ _) (by have := HN1.out; omega)
      have HMM := Lib.hid hM
      have HML := Lib.hid hMle
      obtain ⟨fn, fk, fv, ft⟩ := f
      simp only at g0 g1 g2 g3
      clear hf hM hMle
      by_cases h8 : 8 < fn
      · have hd : decide ((8 : Int) < fn) = true := decide_eq_true h8
        have HS2 : Hid (mfar l (j + 1) = mfar l j ++ [⟨fn, fk, fv, ft⟩]) := Lib.hid (by rw [HST.out, if_pos h8])
        clear h8 HST
        go_wp2_with (at_builtin; refine wpList_appF1 rfl _ _ rfl rfl hown ⟨fn, fk, fv, ft⟩ rfl (by simp) (by have := HML.out; omega) hs3 ?_; intro A5 c5 w5 ho5 hg5)
        go_roundw
        case rel => exact ⟨j + 1, M + 1, A5, c5, by go_num, rfl, by omega, by rw [HS2.out]; simp [HMM.out], by rw [HS2.out]; exact ho5, own_grown hB hown hs3 hg5⟩
        case measure => simp [intOf]; omega
      · have hd : decide ((8 : Int) < fn) = false := decide_eq_false h8
        have HS2 : Hid (mfar l (j + 1) = mfar l j) := Lib.hid (by rw [HST.out, if_neg h8])
        clear h8 HST
        go_wp2_with fail
        go_roundw
        case rel => exact ⟨j + 1, M, A2, c2, by go_num, rfl, by omega, by rw [HS2.out]; exact HMM.out, by rw [HS2.out]; exact hown, hB⟩
        case measure => simp [intOf]; omega
    · obtain rfl : j = N := by omega
      have hex : ¬ j < l.length ∨ (j < l.length ∧ decide ((j : Int) < 20) = false) := by
        by_cases h : j < l.length
        · exact .inr ⟨h, decide_eq_false (by have := HN.out; omega)⟩
        · exact .inl h
      obtain ⟨L, hL⟩ : ∃ L, mfar l j = L := ⟨_, rfl⟩
      have hL2 : ∀ f ∈ L, f ∈ l ∧ 8 < f.num := by rw [← hL]; exact fun f hf => mfar_mem hf
      have hL3 : L.length ≤ 20 := by rw [← hL]; exact Nat.le_trans (mfar_len _ _) (by have := HN1.out; omega)
      rw [hL] at hM hown
      subst hM
      have hputs := fun W hB' => rputs_any L A2 c2 (by omega) (fun f hf => HWF.out f (hL2 f hf).1) W (((Rd.of_own hown).below (C := wr.heap.size) hB' (Nat.le_refl _)).more hB'.size)
      have hputs1 := hputs wr (Below.refl _ _)
      have HL2 := Lib.hid hL2
      have HL3 := Lib.hid hL3
      unfold PutsPost at hputs1
      obtain ⟨rb, hrb⟩ : ∃ r, wput L = r := ⟨_, rfl⟩
      rw [hrb] at hputs1
      obtain ⟨y, e2⟩ := rb
      simp only at hputs1
      have HRB := Lib.hid hrb
      clear hputs hrb hL2 hL3 hL hltN hj
      rcases hex with hex | ⟨hex, hex2⟩
      all_goals
        go_wp2_with fail
        refine hputs1.mono ?_
        rintro e w2 ⟨A3, c3, rfl, hown3, hB3⟩
        have hown1' := own_kept hown1 (hB.trans (hB3.mono hs3)) (Nat.le_refl _)
        have hMm2 := hMm.below (hB.trans (hB3.mono hs3)) hMm.lt
        have hW2 := bel_step hW (hB.trans (hB3.mono hs3))
        -- TAIL
        by_cases h1 : e1 = 0
        · subst h1
          by_cases h2 : e2 = 0
          · subst h2
            obtain ⟨p1, p2, p3, p4⟩ := wput_ok (show (wput (mfields ⟨m1, m2, m3, m4, m5, m6, m7, m8⟩)).2 = 0 by rw [HRA.out])
            obtain ⟨q1, q2, q3, q4⟩ := wput_ok (show (wput L).2 = 0 by rw [HRB.out])
            have hx : wencs (mfields ⟨m1, m2, m3, m4, m5, m6, m7, m8⟩) = x := by rw [HRA.out] at p1; exact (congrArg Prod.fst p1).symm
            have hy : wencs L = y := by rw [HRB.out] at q1; exact (congrArg Prod.fst q1).symm
            have hff := fun h => mof_far p2 q2 hm (fun f hf => HWF.out f (HL2.out f hf).1) (fun f hf => (HL2.out f hf).2) HL3.out h
            rw [hx, hy] at hff
            rw [hx] at p4
            rw [hy] at q4
            obtain ⟨nx, hnx⟩ : ∃ k, x.length = k := ⟨_, rfl⟩
            obtain ⟨ny, hny⟩ : ∃ k, y.length = k := ⟨_, rfl⟩
            rw [hnx] at hown1' p4 hff ⊢
            rw [hny] at hown3 q4 hff ⊢
            have HNX := Lib.hid hnx
            have HNY := Lib.hid hny
            obtain ⟨S, hS⟩ : ∃ S, nx + ny = S := ⟨_, rfl⟩
            have hts : wrap64 ((nx : Int) + (ny : Int)) = (S : Int) := by unfold wrap64; omega
            rw [hS] at hff
            clear p1 p2 p3 q1 q2 q3 hx hy hnx hny hm hown1 hMm hW hB3
            by_cases hbig : 4096 < S
            · have hdS : decide ((4096 : Int) < (S : Int)) = true := decide_eq_true (by omega)
              clear hbig hS hown1' hown3 hMm2 p4 q4 hff HR
              go_wp2_with fail
              refine (awake6_any _).mono ?_
              rintro e w5 ⟨rfl, hB5⟩
              go_wp2_with fail
              go_ret
              exact ⟨rfl, bel_step hW2 hB5⟩
            · have hdS : decide ((4096 : Int) < (S : Int)) = false := decide_eq_false (by omega)
              have HH : Hid (S ≤ 4096 ∧ nx + ny = S) := Lib.hid ⟨by omega, hS⟩
              have HFF := Lib.hid (hff (by omega))
              have hE := own_emptyB w2 (Nat.le_refl w2.heap.size)
              have hE0 : Below w2.heap.size w2 (w2.alloc (.cells #[] 5)) := (Below.refl _ w2).alloc (Nat.le_refl _) _
              have hry2 := Rd.of_own hown3
              have hry : Rd (w2.alloc (.cells #[] 5)) w2.heap.size A3 (bcl y) := hry2.alloc (Nat.le_refl _) _
              have hrx := Rd.of_own hown1'
              clear hbig hS p4 q4 hown1' hown3 hff
              by_cases hat : at_ % 2 = 0
              · have ha : (((at_ : Int) % 2) == 0) = true := by simp; omega
                clear hat
                go_wp2_with (at_builtin; first
                  | (refine wpList_appB rfl _ _ rfl rfl hE rfl hry HNY.out ny (by omega) (by have := HH.out; omega) (by simp) ?_; intro A5 c5 w5 ho5 hg5; have hB5 := own_grown hE0 hE (by simp) hg5; have hrx5 := hrx.below hB5 (Nat.le_refl _); have hs5 := hB5.size; clear hE hE0 hry hg5)
                  | (refine wpList_appB rfl _ _ rfl rfl ho5 rfl hrx5 HNX.out S (by have := HH.out; omega) (by have := HH.out; omega) hs5 ?_; intro A6 c6 w6 ho6 hg6; have hB6 := own_grown hB5 ho5 hs5 hg6; clear hg6 ho5 hrx5 hB5; have hs6 := hB6.size; have hF := own_emptyB w6 (Nat.le_refl _); have hF0 : Below w6.heap.size w6 (w6.alloc (.cells #[] 5)) := (Below.refl _ w6).alloc (Nat.le_refl _) _; have hrx6 : Rd (w6.alloc (.cells #[] 5)) w2.heap.size A1 (bcl x) := (hrx.below hB6 (Nat.le_refl _)).alloc hs6 _; clear ho6)
                  | (refine wpList_appB rfl _ _ rfl rfl hF rfl hrx6 HNX.out nx (by omega) (by have := HH.out; omega) (by simp) ?_; intro A7 c7 w7 ho7 hg7; have hB7 := own_grown hF0 hF (by simp) hg7; have hry7 := (hry2.below hB6 (Nat.le_refl _)).below hB7 hs6; have hs7 := hB7.size; clear hF hF0 hrx6 hg7)
                  | (refine wpList_appB rfl _ _ rfl rfl ho7 rfl hry7 HNY.out S (by have := HH.out; omega) (by have := HH.out; omega) hs7 ?_; intro A8 c8 w8 ho8 hg8; have hB8' := own_grown hB7 ho7 hs7 hg8; have hB8 := hB6.trans (hB8'.mono hs6); clear hg8 ho7 hry7 hB7 hB8'))
                have hcap6 := own_cap ho8
                have hof := mof_any (([] ++ x) ++ y) A8 S c8 (by have := HH.out; have := HNX.out; have := HNY.out; simp; omega) hcap6.1 hcap6.2 w8 (Rd.of_own ho8)
                rw [List.nil_append, HFF.out.1] at hof
                unfold MM.cells at hof
                simp only at hof
                refine hof.mono ?_
                rintro e w9 ⟨rfl, hB9⟩
                have hE9 := hB8.trans (hB9.mono hB8.size)
                have hMm9 := hMm2.below hE9 hMm2.lt
                have hW9 := bel_step hW2 hE9
                obtain ⟨x0, x1, x2, x3, x4, x5, x6, x7⟩ := hMm9.cells8
                have hlt9 := hMm9.lt
                have hW10 := bel_step hW9 ((Below.refl w9.heap.size w9).alloc (Nat.le_refl _) (Obj.cells #[.bool m1, .string m2, .int .u64 m3, .int .u64 m4, .string m5, .string m6, .string m7, .string m8] 24))
                clear hof hcap6 ho8 hMm2 hMm9 hB9 hE9 hW2 hW9 hrx hry2 HR
                go_wp2_with fail
                refine (awake6_any _).mono ?_
                rintro e w10 ⟨rfl, hB10⟩
                go_wp2_with fail
                go_ret
                exact ⟨rfl, bel_step hW10 hB10⟩
              · have ha : (((at_ : Int) % 2) == 0) = false := by simp; omega
                clear hat
                go_wp2_with (at_builtin; first
                  | (refine wpList_appB rfl _ _ rfl rfl hE rfl hry HNY.out ny (by omega) (by have := HH.out; omega) (by simp) ?_; intro A5 c5 w5 ho5 hg5; have hB5 := own_grown hE0 hE (by simp) hg5; have hrx5 := hrx.below hB5 (Nat.le_refl _); have hs5 := hB5.size; clear hE hE0 hry hg5)
                  | (refine wpList_appB rfl _ _ rfl rfl ho5 rfl hrx5 HNX.out S (by have := HH.out; omega) (by have := HH.out; omega) hs5 ?_; intro A6 c6 w6 ho6 hg6; have hB6 := own_grown hB5 ho5 hs5 hg6; clear hg6 ho5 hrx5 hB5))
                have hcap6 := own_cap ho6
                have hof := mof_any (([] ++ y) ++ x) A6 S c6 (by have := HH.out; have := HNX.out; have := HNY.out; simp; omega) hcap6.1 hcap6.2 w6 (Rd.of_own ho6)
                rw [List.nil_append, HFF.out.2] at hof
                unfold MM.cells at hof
                simp only at hof
                refine hof.mono ?_
                rintro e w9 ⟨rfl, hB9⟩
                have hE9 := hB6.trans (hB9.mono hB6.size)
                have hMm9 := hMm2.below hE9 hMm2.lt
                have hW9 := bel_step hW2 hE9
                obtain ⟨x0, x1, x2, x3, x4, x5, x6, x7⟩ := hMm9.cells8
                have hlt9 := hMm9.lt
                have hW10 := bel_step hW9 ((Below.refl w9.heap.size w9).alloc (Nat.le_refl _) (Obj.cells #[.bool m1, .string m2, .int .u64 m3, .int .u64 m4, .string m5, .string m6, .string m7, .string m8] 24))
                clear hof hcap6 ho6 hMm2 hMm9 hB9 hE9 hW2 hW9 hrx hry2 HR
                go_wp2_with fail
                refine (awake6_any _).mono ?_
                rintro e w10 ⟨rfl, hB10⟩
                go_wp2_with fail
                go_ret
                exact ⟨rfl, bel_step hW10 hB10⟩
          · have hbe : (e2 != 0) = true := by simpa using h2
            clear h2 hown1' hown3 hMm2 hm hown1 hMm hB3 HR
            go_wp2_with fail
            refine (awake6_any _).mono ?_
            rintro e w5 ⟨rfl, hB5⟩
            go_wp2_with fail
            go_ret
            exact ⟨rfl, bel_step hW2 hB5⟩
        · have hbe : (e1 != 0) = true := by simpa using h1
          clear h1 hown1' hown3 hMm2 hm hown1 hMm hB3 HR
          go_wp2_with fail
          refine (awake6_any _).mono ?_
          rintro e w5 ⟨rfl, hB5⟩
          go_wp2_with fail
          go_ret
          exact ⟨rfl, bel_step hW2 hB5⟩
end Go.Proofs.Ytkanhggmhjldmaa
