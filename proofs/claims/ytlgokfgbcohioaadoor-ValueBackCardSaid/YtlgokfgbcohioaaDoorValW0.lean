/- WALKS: value's small functions. -/
import Derived.Test.YtlgokfgbcohioaaDoorProg
import Derived.Test.YtlgokfgbcohioaaDoorBase
import Derived.Test.YtlgokfgbcohioaaDoorVal
import Derived.Deep.QuietTactic
import Derived.BigQuiet
namespace Go.Proofs.YtlgokfgbcohioaaDoor
open Go.RowKit Plain

theorem below_drewN {B : Nat} {a w : World} (h : Below B a w) (n : Nat) : Below B a (w.drewN n) := ⟨h.os, h.tape, h.output, h.size, h.block⟩
theorem boxV (w : World) (k : Int) (n : Nat) (s : ByteArray) (q : Nat) : ∃ w2, (w.alloc (Obj.cells #[Value.int IntKind.i64 k, Value.int IntKind.u64 n, Value.string s] 42)).drewN q = w2 ∧
    w2.cell? ⟨w.heap.size, 0, none⟩ = some (.int .i64 k) ∧ w2.cell? ⟨w.heap.size, 1, none⟩ = some (.int .u64 n) ∧ Below w.heap.size w w2 := by
  refine ⟨_, rfl, ?_, ?_, below_drewN ((Below.refl _ _).alloc (Nat.le_refl _) _) _⟩
  · exact World.cell?_alloc_at _ _ _ 0 rfl
  · exact World.cell?_alloc_at _ _ _ 1 rfl

theorem limit_any (k : Int) (w : World) : Calls Tryd.prog 54 #[.int .i64 k] w fun e w' => e = .returned (.int .u64 (vlimit k)) ∧ w = w' := by
  by_cases h0 : k = 0
  · subst h0; go_enter Tryd.func54, Tryd.ntmps54
    go_wp2
    go_ret
    exact ⟨rfl, rfl⟩
  by_cases h1 : k = 1
  · subst h1; go_enter Tryd.func54, Tryd.ntmps54
    go_wp2
    go_ret
    exact ⟨rfl, rfl⟩
  by_cases h3 : k = 3
  · subst h3; go_enter Tryd.func54, Tryd.ntmps54
    go_wp2
    go_ret
    exact ⟨rfl, rfl⟩
  by_cases h5 : k = 5
  · subst h5; go_enter Tryd.func54, Tryd.ntmps54
    go_wp2
    go_ret
    exact ⟨rfl, rfl⟩
  by_cases h6 : k = 6
  · subst h6; go_enter Tryd.func54, Tryd.ntmps54
    go_wp2
    go_ret
    exact ⟨rfl, rfl⟩
  by_cases h7 : k = 7
  · subst h7; go_enter Tryd.func54, Tryd.ntmps54
    go_wp2
    go_ret
    exact ⟨rfl, rfl⟩
  have e : vlimit k = 18446744073709551615 := by unfold vlimit; rw [if_neg (by omega), if_neg (by omega), if_neg (by omega)]
  have b0 : (k == 0) = false := by simpa using h0
  have b1 : (k == 1) = false := by simpa using h1
  have b3 : (k == 3) = false := by simpa using h3
  have b5 : (k == 5) = false := by simpa using h5
  have b6 : (k == 6) = false := by simpa using h6
  have b7 : (k == 7) = false := by simpa using h7
  rw [e]
  clear e h0 h1 h3 h5 h6 h7
  go_enter Tryd.func54, Tryd.ntmps54
  go_wp2
  go_ret
  exact ⟨rfl, rfl⟩
theorem textual_any (k : Int) (w : World) : Calls Tryd.prog 53 #[.int .i64 k] w fun e w' => e = .returned (.bool (vtextual k)) ∧ w = w' := by
  have e : vtextual k = ((k == 6) || (k == 7)) := rfl
  rw [e]
  cases b6 : (k == 6) <;> cases b7 : (k == 7) <;>
  · go_enter Tryd.func53, Tryd.ntmps53
    go_wp2
    go_ret
    exact ⟨rfl, rfl⟩

set_option maxRecDepth 100000 in
set_option maxHeartbeats 1000000 in
theorem right_any (k : Int) (n : Nat) (s : ByteArray) (w : World) :
    Calls Tryd.prog 29 #[.agg #[.int .i64 k, .int .u64 n, .string s]] w fun e w' => e = .returned (.int .i64 (vright k n s.toList.isEmpty)) ∧ Below w.heap.size w w' := by
  by_cases h0 : k < 0
  · go_enter Tryd.func29, Tryd.ntmps29
    go_wp2_with fail
    go_ret
    exact ⟨by unfold vright; rw [if_pos (by omega)]; rfl, (Below.refl _ _).alloc (Nat.le_refl _) _⟩
  by_cases h7 : 7 < k
  · go_enter Tryd.func29, Tryd.ntmps29
    go_wp2_with fail
    go_ret
    exact ⟨by unfold vright; rw [if_pos (by omega)]; rfl, (Below.refl _ _).alloc (Nat.le_refl _) _⟩
  have ev : vright k n s.toList.isEmpty = if vtextual k = false ∧ s.toList.isEmpty = false then 4 else if (k = 0 ∨ k = 6 ∨ k = 7) ∧ 0 < (n : Int) then 4 else if vlimit k < n then 5 else 0 := by unfold vright; rw [if_neg (by omega)]
  have hl0 : vlimit k = 0 ↔ (k = 0 ∨ k = 6 ∨ k = 7) := by
    unfold vlimit
    by_cases h1 : k = 0 ∨ k = 6 ∨ k = 7
    · simp [h1]
    · rw [if_neg h1]; by_cases h2 : k = 1 ∨ k = 3
      · rw [if_pos h2]; omega
      · rw [if_neg h2]; by_cases h3 : k = 5
        · rw [if_pos h3]; omega
        · rw [if_neg h3]; omega
  by_cases hT : vtextual k = true
  · by_cases hn : vlimit k < (n : Int)
    · have hd : decide (vlimit k < (n : Int)) = true := by simpa using hn
      by_cases hz : vlimit k = 0
      · have hz0 : (vlimit k == 0) = true := by simpa using hz
        rw [ev, if_neg (by rw [hT]; simp), if_pos ⟨hl0.1 hz, by omega⟩]
        clear ev hl0
        clear hn hz
        go_enter Tryd.func29, Tryd.ntmps29
        go_wp2_with (first | (go_at_call 53; refine (textual_any k _).mono ?_; rintro e w1 ⟨rfl, rfl⟩) | (go_at_call 54; refine (limit_any k _).mono ?_; rintro e w1 ⟨rfl, rfl⟩))
        go_quiet (first | (go_at_call 54; exact Calls.quiet_of_same ((limit_any k _).mono fun _ _ h => ⟨h.1, h.2.symm⟩)))
        go_wp2_with (first | (go_at_call 53; refine (textual_any k _).mono ?_; rintro e w1 ⟨rfl, rfl⟩) | (go_at_call 54; refine (limit_any k _).mono ?_; rintro e w1 ⟨rfl, rfl⟩))
        go_ret
        exact ⟨rfl, below_drewN ((Below.refl _ _).alloc (Nat.le_refl _) _) _⟩
      · have hz0 : (vlimit k == 0) = false := by simpa using hz
        rw [ev, if_neg (by rw [hT]; simp), if_neg (fun h => hz (hl0.2 h.1)), if_pos hn]
        clear ev hl0
        clear hn hz
        go_enter Tryd.func29, Tryd.ntmps29
        go_wp2_with (first | (go_at_call 53; refine (textual_any k _).mono ?_; rintro e w1 ⟨rfl, rfl⟩) | (go_at_call 54; refine (limit_any k _).mono ?_; rintro e w1 ⟨rfl, rfl⟩))
        go_quiet (first | (go_at_call 54; exact Calls.quiet_of_same ((limit_any k _).mono fun _ _ h => ⟨h.1, h.2.symm⟩)))
        go_wp2_with (first | (go_at_call 53; refine (textual_any k _).mono ?_; rintro e w1 ⟨rfl, rfl⟩) | (go_at_call 54; refine (limit_any k _).mono ?_; rintro e w1 ⟨rfl, rfl⟩))
        obtain ⟨w2, hw2, c0, c1, hB2⟩ := boxV w k n s nq
        rw [hw2]
        clear hw2
        go_quiet (first | (go_at_call 54; exact Calls.quiet_of_same ((limit_any k _).mono fun _ _ h => ⟨h.1, h.2.symm⟩)))
        go_wp2_with (first | (go_at_call 53; refine (textual_any k _).mono ?_; rintro e w1 ⟨rfl, rfl⟩) | (go_at_call 54; refine (limit_any k _).mono ?_; rintro e w1 ⟨rfl, rfl⟩))
        go_ret
        exact ⟨rfl, below_drewN hB2 _⟩
    · have hd : decide (vlimit k < (n : Int)) = false := by simpa using hn
      rw [ev, if_neg (by rw [hT]; simp), if_neg (fun h => hn (by have := hl0.2 h.1; omega)), if_neg hn]
      clear ev hl0
      clear hn
      go_enter Tryd.func29, Tryd.ntmps29
      go_wp2_with (first | (go_at_call 53; refine (textual_any k _).mono ?_; rintro e w1 ⟨rfl, rfl⟩) | (go_at_call 54; refine (limit_any k _).mono ?_; rintro e w1 ⟨rfl, rfl⟩))
      go_quiet (first | (go_at_call 54; exact Calls.quiet_of_same ((limit_any k _).mono fun _ _ h => ⟨h.1, h.2.symm⟩)))
      go_wp2_with (first | (go_at_call 53; refine (textual_any k _).mono ?_; rintro e w1 ⟨rfl, rfl⟩) | (go_at_call 54; refine (limit_any k _).mono ?_; rintro e w1 ⟨rfl, rfl⟩))
      obtain ⟨w2, hw2, c0, c1, hB2⟩ := boxV w k n s nq
      rw [hw2]
      clear hw2
      go_quiet (first | (go_at_call 54; exact Calls.quiet_of_same ((limit_any k _).mono fun _ _ h => ⟨h.1, h.2.symm⟩)))
      go_wp2_with (first | (go_at_call 53; refine (textual_any k _).mono ?_; rintro e w1 ⟨rfl, rfl⟩) | (go_at_call 54; refine (limit_any k _).mono ?_; rintro e w1 ⟨rfl, rfl⟩))
      go_ret
      exact ⟨rfl, below_drewN hB2 _⟩
  have hT : vtextual k = false := by simpa using hT
  by_cases hE : s.toList.isEmpty = true
  · by_cases hn : vlimit k < (n : Int)
    · have hd : decide (vlimit k < (n : Int)) = true := by simpa using hn
      by_cases hz : vlimit k = 0
      · have hz0 : (vlimit k == 0) = true := by simpa using hz
        rw [ev, if_neg (by rw [hE]; simp), if_pos ⟨hl0.1 hz, by omega⟩]
        clear ev hl0
        clear hn hz
        go_enter Tryd.func29, Tryd.ntmps29
        go_wp2_with (first | (go_at_call 53; refine (textual_any k _).mono ?_; rintro e w1 ⟨rfl, rfl⟩) | (go_at_call 54; refine (limit_any k _).mono ?_; rintro e w1 ⟨rfl, rfl⟩))
        go_quiet (first | (go_at_call 54; exact Calls.quiet_of_same ((limit_any k _).mono fun _ _ h => ⟨h.1, h.2.symm⟩)))
        go_wp2_with (first | (go_at_call 53; refine (textual_any k _).mono ?_; rintro e w1 ⟨rfl, rfl⟩) | (go_at_call 54; refine (limit_any k _).mono ?_; rintro e w1 ⟨rfl, rfl⟩))
        go_ret
        exact ⟨rfl, below_drewN ((Below.refl _ _).alloc (Nat.le_refl _) _) _⟩
      · have hz0 : (vlimit k == 0) = false := by simpa using hz
        rw [ev, if_neg (by rw [hE]; simp), if_neg (fun h => hz (hl0.2 h.1)), if_pos hn]
        clear ev hl0
        clear hn hz
        go_enter Tryd.func29, Tryd.ntmps29
        go_wp2_with (first | (go_at_call 53; refine (textual_any k _).mono ?_; rintro e w1 ⟨rfl, rfl⟩) | (go_at_call 54; refine (limit_any k _).mono ?_; rintro e w1 ⟨rfl, rfl⟩))
        go_quiet (first | (go_at_call 54; exact Calls.quiet_of_same ((limit_any k _).mono fun _ _ h => ⟨h.1, h.2.symm⟩)))
        go_wp2_with (first | (go_at_call 53; refine (textual_any k _).mono ?_; rintro e w1 ⟨rfl, rfl⟩) | (go_at_call 54; refine (limit_any k _).mono ?_; rintro e w1 ⟨rfl, rfl⟩))
        obtain ⟨w2, hw2, c0, c1, hB2⟩ := boxV w k n s nq
        rw [hw2]
        clear hw2
        go_quiet (first | (go_at_call 54; exact Calls.quiet_of_same ((limit_any k _).mono fun _ _ h => ⟨h.1, h.2.symm⟩)))
        go_wp2_with (first | (go_at_call 53; refine (textual_any k _).mono ?_; rintro e w1 ⟨rfl, rfl⟩) | (go_at_call 54; refine (limit_any k _).mono ?_; rintro e w1 ⟨rfl, rfl⟩))
        go_ret
        exact ⟨rfl, below_drewN hB2 _⟩
    · have hd : decide (vlimit k < (n : Int)) = false := by simpa using hn
      rw [ev, if_neg (by rw [hE]; simp), if_neg (fun h => hn (by have := hl0.2 h.1; omega)), if_neg hn]
      clear ev hl0
      clear hn
      go_enter Tryd.func29, Tryd.ntmps29
      go_wp2_with (first | (go_at_call 53; refine (textual_any k _).mono ?_; rintro e w1 ⟨rfl, rfl⟩) | (go_at_call 54; refine (limit_any k _).mono ?_; rintro e w1 ⟨rfl, rfl⟩))
      go_quiet (first | (go_at_call 54; exact Calls.quiet_of_same ((limit_any k _).mono fun _ _ h => ⟨h.1, h.2.symm⟩)))
      go_wp2_with (first | (go_at_call 53; refine (textual_any k _).mono ?_; rintro e w1 ⟨rfl, rfl⟩) | (go_at_call 54; refine (limit_any k _).mono ?_; rintro e w1 ⟨rfl, rfl⟩))
      obtain ⟨w2, hw2, c0, c1, hB2⟩ := boxV w k n s nq
      rw [hw2]
      clear hw2
      go_quiet (first | (go_at_call 54; exact Calls.quiet_of_same ((limit_any k _).mono fun _ _ h => ⟨h.1, h.2.symm⟩)))
      go_wp2_with (first | (go_at_call 53; refine (textual_any k _).mono ?_; rintro e w1 ⟨rfl, rfl⟩) | (go_at_call 54; refine (limit_any k _).mono ?_; rintro e w1 ⟨rfl, rfl⟩))
      go_ret
      exact ⟨rfl, below_drewN hB2 _⟩
  have hE : s.toList.isEmpty = false := by simpa using hE
  rw [ev, if_pos ⟨hT, hE⟩]
  clear ev hl0
  go_enter Tryd.func29, Tryd.ntmps29
  go_wp2_with (first | (go_at_call 53; refine (textual_any k _).mono ?_; rintro e w1 ⟨rfl, rfl⟩) | (go_at_call 54; refine (limit_any k _).mono ?_; rintro e w1 ⟨rfl, rfl⟩))
  go_ret
  exact ⟨rfl, (Below.refl _ _).alloc (Nat.le_refl _) _⟩
end Go.Proofs.YtlgokfgbcohioaaDoor
