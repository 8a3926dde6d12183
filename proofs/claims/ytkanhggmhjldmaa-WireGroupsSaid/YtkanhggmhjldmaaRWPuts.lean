/- WALK: the reference's Put of layer 3. -/
import Derived.Test.YtkanhggmhjldmaaRWOne
namespace Go.Proofs.Ytkanhggmhjldmaa
open Go.RowKit Plain

set_option maxHeartbeats 1000000 in
theorem rputs_any (l : List Fld) (A : Option Addr) (c : Nat) (hl : l.length ≤ 9223372036854775807) (hwf : ∀ f ∈ l, FldOk f) (w : World) (hr : Rd w w.heap.size A (flc l)) :
    Calls Try.prog 18 #[.slice A l.length c] w (PutsPost l w) := by
  have HR := Lib.hid hr
  have HWF := Lib.hid hwf
  clear hr hwf
  go_enter Try.func18, Try.ntmps18
  go_wp2_with fail
  go_loopw [4] (fun i wr => ∃ j : Nat, i = .int .i64 j ∧ j ≤ l.length ∧ werrs l = werrs (l.drop j) ∧ Below w.heap.size w wr) (fun i _ => l.length - (intOf i).toNat)
  case atStart => exact ⟨0, rfl, Nat.zero_le _, rfl, Below.refl _ _⟩
  case round =>
    obtain ⟨j, rfl, hj, he, hB⟩ := hrel
    have HE := Lib.hid he
    clear he
    by_cases hlt : j < l.length
    · obtain ⟨f, hf⟩ : ∃ f, l[j]? = some f := ⟨_, List.getElem?_eq_getElem hlt⟩
      obtain ⟨b1, o1, rfl, hb1, g0, g1, g2, g3⟩ := fld_at (HR.out.below hB (Nat.le_refl _)) hf
      have HD := Lib.hid (drop_cons hf)
      have hBA := hB
      by_cases h0 : werrF f = 0
      · have H0 := Lib.hid h0
        clear h0 hf
        go_wp2_with (go_at_call 37; refine (rwrong_any _ _ _ _ _).mono ?_; rintro e w1 ⟨rfl, hB1⟩; rw [show wwrong f.num f.kind f.val f.text.toList.isEmpty = 0 from H0.out]; replace hBA := bel_step hBA hB1)
        go_roundw
        case rel => exact ⟨j + 1, by go_num, by omega, by rw [HE.out, HD.out, werrs, if_pos H0.out], hBA⟩
        case measure => simp [intOf]; omega
      · obtain ⟨E, hE⟩ : ∃ E, werrF f = E := ⟨_, rfl⟩
        have h0b : (E != 0) = true := by rw [← hE]; simpa using h0
        have H0 := Lib.hid hE
        have HW : Hid (werrs l = E) := Lib.hid (by rw [HE.out, HD.out, werrs, if_neg h0, hE])
        have HN := Lib.hid h0
        clear h0 hf hE
        go_wp2_with (go_at_call 37; refine (rwrong_any _ _ _ _ _).mono ?_; rintro e w1 ⟨rfl, hB1⟩; rw [show wwrong f.num f.kind f.val f.text.toList.isEmpty = E from H0.out]; replace hBA := bel_step hBA hB1)
        go_ret2
        exact puts_err (by unfold wput; rw [if_neg (by rw [HW.out, ← H0.out]; exact HN.out), HW.out]) hBA
    · have hz : werrs l = 0 := by rw [HE.out, List.drop_eq_nil_of_le (by omega)]; rfl
      have HZ := Lib.hid hz
      clear hz HE
      have HB := Lib.hid hB
      by_cases hfull : 256 < l.length
      · have hb : decide ((256 : Int) < (l.length : Int)) = true := by simp; omega
        go_wp2_with fail
        go_ret2
        exact puts_err (by unfold wput; rw [if_pos HZ.out, if_pos hfull]) hB
      · go_wp2_with fail
        clear hB hlt hj
        have hB := HB.out
        go_loopw [6, 7] (fun o i wr => ∃ (j : Nat) (A2 : Option Addr) (c2 N : Nat), i = .int .i64 j ∧ o = .slice A2 N c2 ∧ j ≤ l.length ∧ N = (wencs (l.take j)).length ∧ N ≤ 4096 ∧ wr.ownsRow w.heap.size 5 1 (.slice A2 N c2) N (bcl (wencs (l.take j))) ∧ Below w.heap.size w wr) (fun _ i _ => l.length - (intOf i).toNat)
        case atStart => exact ⟨0, none, 0, 0, rfl, rfl, Nat.zero_le _, rfl, by omega, World.ownsRow_nil _ _ _ _, hB⟩
        case round =>
          clear hB HB
          obtain ⟨j, A2, c2, N, rfl, rfl, hj, hN, hN4, hown, hB⟩ := hrel
          have HNN := Lib.hid hN
          by_cases hlt : j < l.length
          · obtain ⟨f, hf⟩ : ∃ f, l[j]? = some f := ⟨_, List.getElem?_eq_getElem hlt⟩
            obtain ⟨b1, o1, rfl, hb1, g0, g1, g2, g3⟩ := fld_at (HR.out.below hB (Nat.le_refl _)) hf
            have HT := Lib.hid (wencs_take hf)
            obtain ⟨k0, k1, k2, k3, k4, k5⟩ := werrF_ok (werrs_mem HZ.out f (List.mem_of_getElem? hf))
            have hval := (HWF.out f (List.mem_of_getElem? hf)).2.2
            have hle := wencs_len l (j + 1)
            rw [wencs_take hf, List.length_append, ← hN] at hle
            clear hN hf
            obtain ⟨fnum, fkind, fval, ftext⟩ := f
            obtain ⟨num, rfl⟩ := Int.eq_ofNat_of_zero_le (show 0 ≤ fnum by simp at k0; omega)
            obtain ⟨kind, rfl⟩ := Int.eq_ofNat_of_zero_le (show 0 ≤ fkind by simp at k2; omega)
            have k1' : (num : Int) < 536870912 := k1
            have k2' : (kind : Int) = 0 ∨ (kind : Int) = 1 ∨ (kind : Int) = 2 ∨ (kind : Int) = 5 := k2
            have k3' : (kind : Int) = 5 → fval < 4294967296 := k3
            clear k1 k2 k3
            have HTW : Hid (wencF ⟨num, kind, fval, ftext⟩ = wenc num kind fval ftext.data.toList) := Lib.hid rfl
            have htx : ftext.size ≤ (wenc num kind fval ftext.data.toList).length := by
              by_cases hk2 : kind = 2
              · exact wenc_text _ _ _ _ hk2
              · have := k5 (by simp; omega)
                have e0 : ftext.size = 0 := size_empty this
                omega
            simp only [HTW.out] at hle
            clear k4 k5
            by_cases hlong : 4096 < ftext.size
            · have hlb : decide ((4096 : Int) < (ftext.size : Int)) = true := by simp; omega
              have HLO := Lib.hid hlong
              clear hlong
              go_wp2_with fail
              go_ret2
              exact puts_err (by unfold wput; rw [if_pos HZ.out, if_neg hfull, if_pos (by have := HLO.out; omega)]) hB
            · have HTX := Lib.hid htx
              have hlb : decide ((4096 : Int) < (ftext.size : Int)) = false := by simp; omega
              have HLO := Lib.hid hlong
              clear htx hlong
              go_wp2_with fail
              have hlong := HLO.out
              have htx := HTX.out
              refine (rone_any num kind fval ftext (by omega) (by omega) hval (fun h => k3' (by omega)) (by omega) _).mono ?_
              rintro e w1 ⟨A3, c3, rfl, ho3, hB3⟩
              have hown3 := own_kept hown hB3 (Nat.le_refl _)
              have hr3 := Rd.of_own ho3
              have hB4 := bel_step hB hB3
              have hM : N + (wenc num kind fval ftext.data.toList).length = (wencs (l.take (j + 1))).length := by rw [HT.out, HTW.out, List.length_append, ← HNN.out]
              have hwl : (wenc num kind fval ftext.data.toList).length ≤ 1048600 := wenc_len _ _ _ _ (by have := htx; simp; omega)
              obtain ⟨M, hM2⟩ : ∃ M, (wencs (l.take (j + 1))).length = M := ⟨_, rfl⟩
              have hbase := hB4.size
              have HM := Lib.hid hM2
              rw [hM2] at hM
              have hle2 := wencs_len l (j + 1)
              rw [hM2] at hle2
              have HMB : Hid (M ≤ 1060000) := Lib.hid (by omega)
              clear hown hB hB3 ho3 hwl k1' k2' k3' hval hle
              have HLE := Lib.hid hle2
              have HMM := Lib.hid hM
              clear hle2 hM HTX hlong htx HLO
              by_cases hfin : 4096 < M
              · have hb : decide ((4096 : Int) < (M : Int)) = true := by simp; omega
                have HF := Lib.hid hfin
                clear hfin hN4
                go_wp2_with (at_builtin; refine wpList_appB rfl _ _ rfl rfl hown3 rfl hr3 rfl M HMM.out (by have := HMB.out; omega) (by omega) ?_; intro A5 c5 w5 ho5 hg5)
                go_ret2
                exact puts_err (by unfold wput; rw [if_pos HZ.out, if_neg hfull, if_pos (by have := HF.out; have := HLE.out; omega)]) (own_grown hB4 hown3 (by omega) hg5)
              · have hb : decide ((4096 : Int) < (M : Int)) = false := by simp; omega
                have HF := Lib.hid hfin
                clear hfin hN4
                go_wp2_with (at_builtin; refine wpList_appB rfl _ _ rfl rfl hown3 rfl hr3 rfl M HMM.out (by have := HMB.out; omega) (by omega) ?_; intro A5 c5 w5 ho5 hg5)
                go_roundw
                case rel => exact ⟨j + 1, A5, c5, M, by go_num, rfl, by omega, HM.out.symm, by have := HF.out; omega, by rw [HT.out, HTW.out]; exact ho5, own_grown hB4 hown3 (by omega) hg5⟩
                case measure => simp [intOf]; omega
          · have e : l.take j = l := List.take_of_length_le (by omega)
            rw [e] at hown hN HNN
            subst hN
            go_wp2_with fail
            go_ret2
            have hw : wput l = (wencs l, 0) := by unfold wput; rw [if_pos HZ.out, if_neg hfull, if_neg (by omega)]
            exact ⟨A2, c2, by rw [hw]; rfl, by rw [hw]; exact hown, hB⟩
end Go.Proofs.Ytkanhggmhjldmaa
