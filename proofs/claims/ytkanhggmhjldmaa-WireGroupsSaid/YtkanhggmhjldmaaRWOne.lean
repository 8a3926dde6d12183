/- WALK: the reference's one of layer 3. -/
import Derived.Test.YtkanhggmhjldmaaRWPut
namespace Go.Proofs.Ytkanhggmhjldmaa
open Go.RowKit Plain


set_option maxHeartbeats 1000000 in
theorem rone_any (num kind : Nat) (val : Nat) (text : ByteArray) (hnum : num < 536870912) (hkind : kind = 0 ∨ kind = 1 ∨ kind = 2 ∨ kind = 5) (hv : val < 18446744073709551616) (h5 : kind = 5 → val < 4294967296) (hlen : text.size ≤ 1048576) (w : World) :
    Calls Try.prog 38 #[.agg #[.int .i64 num, .int .i64 kind, .int .u64 val, .string text]] w fun e w' => ∃ A' c', e = .returned (.slice A' (wenc num kind val text.data.toList).length c') ∧
      w'.ownsRow w.heap.size 5 1 (.slice A' (wenc num kind val text.data.toList).length c') (wenc num kind val text.data.toList).length (bcl (wenc num kind val text.data.toList)) ∧ Below w.heap.size w w' := by
  obtain ⟨T, hT⟩ : ∃ T : Nat, 8 * num + kind = T := ⟨_, rfl⟩
  have htag : (num : Int) * 8 + kind = T := by omega
  have HT := Lib.hid hT
  have hT64 : T < 18446744073709551616 := by omega
  clear hT
  have hB1 := (Below.refl w.heap.size w).alloc (Nat.le_refl _) (Obj.cells #[Value.int IntKind.i64 num, Value.int IntKind.i64 kind, Value.int IntKind.u64 val, Value.string text] 49)
  have hbd := vsize_bd T
  go_enter Try.func38, Try.ntmps38
  go_wp2_with fail
  refine (rvput_any T hT64 _).mono ?_
  rintro e w1 ⟨A1, c1, rfl, ho1, hB2⟩
  have hF := (BoxF.new w (num : Int) (kind : Int) val text).below hB2 (by simp)
  have hown2 := own_base ho1 (show w.heap.size ≤ _ by simp)
  have hB3 := hB1.trans (hB2.mono (by simp))
  have hbw3 := hB3.size
  obtain ⟨d0, d1, d2, d3⟩ := hF.cells
  clear ho1 hB2 hB1
  go_wp2_with fail
  all_goals have hvs := vsize_bd val
  · have hk1 : kind = 1 := by have := eq_of_beq (by assumption : ((kind : Int) == 1) = true); omega
    refine (rput8_any val hv _).mono ?_
    rintro e w4 ⟨A4, c4, rfl, ho4, hB5⟩
    have hbw4 := hB5.size
    have ho3' := own_kept hown2 hB5 (by omega)
    have hr4 := Rd.of_own ho4
    have hB6 := hB3.trans (hB5.mono (by omega))
    clear hown2 ho4 hB3 hB5
    go_wp2_with (at_builtin; refine wpList_appB rfl _ _ rfl rfl ho3' rfl hr4 (le_length _ _) (vsize T + 8) rfl (by omega) (by omega) ?_; intro A5 c5 w5 ho5 hg5)
    go_ret
    exact wput_end ho5 (by unfold wenc; rw [if_neg (by omega), if_pos hk1, HT.out]) (by simp [vsize, le_length]) (own_grown hB6 ho3' (by omega) hg5)
  · have hk5 : kind = 5 := by have := eq_of_beq (by assumption : ((kind : Int) == 5) = true); omega
    have hv4 := h5 hk5
    have hv5 : ((val : Int) % 4294967296) = (val : Int) := Int.emod_eq_of_lt (by omega) (by omega)
    rw [hv5]
    refine (rput4_any val hv4 _).mono ?_
    rintro e w4 ⟨A4, c4, rfl, ho4, hB5⟩
    have hbw4 := hB5.size
    have ho3' := own_kept hown2 hB5 (by omega)
    have hr4 := Rd.of_own ho4
    have hB6 := hB3.trans (hB5.mono (by omega))
    clear hown2 ho4 hB3 hB5 hv4 hv5 h5
    go_wp2_with (at_builtin; refine wpList_appB rfl _ _ rfl rfl ho3' rfl hr4 (le_length _ _) (vsize T + 4) rfl (by omega) (by omega) ?_; intro A5 c5 w5 ho5 hg5)
    go_ret
    exact wput_end ho5 (by unfold wenc; rw [if_neg (by omega), if_neg (by omega), if_pos hk5, HT.out]) (by simp [vsize, le_length]) (own_grown hB6 ho3' (by omega) hg5)
  · have hk2 : kind = 2 := by have := eq_of_beq (by assumption : ((kind : Int) == 2) = true); omega
    clear h5
    refine (rvput_any text.size (by omega) _).mono ?_
    rintro e w4 ⟨A4, c4, rfl, ho4, hB5⟩
    have hbw4 := hB5.size
    have ho3' := own_kept hown2 hB5 (by omega)
    have hr4 := Rd.of_own ho4
    have hB6 := hB3.trans (hB5.mono (by omega))
    have hF4 := hF.below hB5 hF.lt
    have hts := vsize_bd text.size
    clear hown2 ho4 hB3 hB5 d0 d1 d2 d3 hF
    go_wp2_with (at_builtin; first
      | (refine wpList_appB rfl _ _ rfl rfl ho3' rfl hr4 rfl (vsize T + vsize text.size) rfl (by omega) (by omega) ?_; intro A5 c5 w5 ho5 hg5; have hF5 := hF4.row ho3' hg5; have hB7 := own_grown hB6 ho3' (by omega) hg5; have hbw7 := hB7.size; obtain ⟨_, _, _, e3⟩ := hF5.cells; clear hg5 hF5 hF4 ho3' hB6 hr4)
      | (refine wpList_appS rfl _ _ rfl rfl ho5 rfl (vsize T + vsize text.size + text.size) rfl (by omega) (by omega) ?_; intro A6 c6 w6 ho6 hg6))
    go_ret
    exact wput_end ho6 (by unfold wenc; rw [if_neg (by omega), if_neg (by omega), if_neg (by omega), HT.out]; simp) (by simp [vsize]; omega) (own_grown hB7 ho5 (by omega) hg6)
  · have hk0 : kind = 0 := by
      have a1 : ¬ (kind : Int) = 1 := by simpa using (by assumption : ((kind : Int) == 1) = false)
      have a2 : ¬ (kind : Int) = 2 := by simpa using (by assumption : ((kind : Int) == 2) = false)
      have a5 : ¬ (kind : Int) = 5 := by simpa using (by assumption : ((kind : Int) == 5) = false)
      omega
    refine (rvput_any val hv _).mono ?_
    rintro e w4 ⟨A4, c4, rfl, ho4, hB5⟩
    have hbw4 := hB5.size
    have ho3' := own_kept hown2 hB5 (by omega)
    have hr4 := Rd.of_own ho4
    have hB6 := hB3.trans (hB5.mono (by omega))
    clear hown2 ho4 hB3 hB5
    go_wp2_with (at_builtin; refine wpList_appB rfl _ _ rfl rfl ho3' rfl hr4 rfl (vsize T + vsize val) rfl (by omega) (by omega) ?_; intro A5 c5 w5 ho5 hg5)
    go_ret
    exact wput_end ho5 (by unfold wenc; rw [if_pos hk0, HT.out]) (by simp [vsize]) (own_grown hB6 ho3' (by omega) hg5)
end Go.Proofs.Ytkanhggmhjldmaa
