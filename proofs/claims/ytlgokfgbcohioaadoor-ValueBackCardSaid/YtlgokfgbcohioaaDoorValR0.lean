/- WALKS: the reference's small functions of values. -/
import Derived.Test.YtlgokfgbcohioaaDoorValW0
namespace Go.Proofs.YtlgokfgbcohioaaDoor
open Go.RowKit Plain

theorem great_any (k : Int) (n : Int) (w : World) : Calls Tryd.prog 114 #[.int .i64 k, .int .u64 n] w fun e w' => e = .returned (.bool (vgreat k n)) ∧ w = w' := by
  by_cases h1 : k = 1
  · subst h1
    have e : vgreat 1 n = decide (4294967296 ≤ n) := by unfold vgreat; simp
    rw [e]
    go_enter Tryd.func114, Tryd.ntmps114
    go_wp2
    go_ret
    exact ⟨rfl, rfl⟩
  by_cases h3 : k = 3
  · subst h3
    have e : vgreat 3 n = decide (4294967296 ≤ n) := by unfold vgreat; simp
    rw [e]
    go_enter Tryd.func114, Tryd.ntmps114
    go_wp2
    go_ret
    exact ⟨rfl, rfl⟩
  by_cases h5 : k = 5
  · subst h5
    have e : vgreat 5 n = decide (1 < n) := by unfold vgreat; simp
    rw [e]
    go_enter Tryd.func114, Tryd.ntmps114
    go_wp2
    go_ret
    exact ⟨rfl, rfl⟩
  have e : vgreat k n = false := by unfold vgreat; simp; omega
  have b1 : (k == 1) = false := by simpa using h1
  have b3 : (k == 3) = false := by simpa using h3
  have b5 : (k == 5) = false := by simpa using h5
  rw [e]
  clear e h1 h3 h5
  go_enter Tryd.func114, Tryd.ntmps114
  go_wp2
  go_ret
  exact ⟨rfl, rfl⟩
theorem kind_any (k : Int) (w : World) : Calls Tryd.prog 98 #[.int .i64 k] w fun e w' => e = .returned (.int .i64 (vkind k)) ∧ w = w' := by
  by_cases h3 : k = 3
  · subst h3; go_enter Tryd.func98, Tryd.ntmps98
    go_wp2
    go_ret
    exact ⟨rfl, rfl⟩
  by_cases h4 : k = 4
  · subst h4; go_enter Tryd.func98, Tryd.ntmps98
    go_wp2
    go_ret
    exact ⟨rfl, rfl⟩
  by_cases h6 : k = 6
  · subst h6; go_enter Tryd.func98, Tryd.ntmps98
    go_wp2
    go_ret
    exact ⟨rfl, rfl⟩
  by_cases h7 : k = 7
  · subst h7; go_enter Tryd.func98, Tryd.ntmps98
    go_wp2
    go_ret
    exact ⟨rfl, rfl⟩
  have e : vkind k = 0 := by unfold vkind; rw [if_neg h3, if_neg h4, if_neg (by omega)]
  have b3 : (k == 3) = false := by simpa using h3
  have b4 : (k == 4) = false := by simpa using h4
  have b6 : (k == 6) = false := by simpa using h6
  have b7 : (k == 7) = false := by simpa using h7
  rw [e]
  clear e h3 h4 h6 h7
  go_enter Tryd.func98, Tryd.ntmps98
  go_wp2
  go_ret
  exact ⟨rfl, rfl⟩

set_option maxHeartbeats 1000000 in
theorem rright_any (k : Int) (n : Nat) (s : ByteArray) (hn : n < 18446744073709551616) (w : World) :
    Calls Tryd.prog 97 #[.agg #[.int .i64 k, .int .u64 n, .string s]] w fun e w' => e = .returned (.int .i64 (vright k n s.toList.isEmpty)) ∧ Below w.heap.size w w' := by
  obtain ⟨V, hV⟩ : ∃ V, vright k n s.toList.isEmpty = V := ⟨_, rfl⟩
  rw [hV]
  have HV := Lib.hid hV
  clear hV
  go_enter Tryd.func97, Tryd.ntmps97
  go_wp2_with (go_at_call 114; refine (great_any _ _ _).mono ?_; rintro e w1 ⟨rfl, rfl⟩)
  all_goals go_ret
  all_goals refine ⟨congrArg (fun z => Ending.returned (.int .i64 z)) ?_, (Below.refl _ _).alloc (Nat.le_refl _) _⟩
  all_goals rw [← HV.out]
  all_goals clear HV
  all_goals rw [vright_ref _ _ _ hn]
  all_goals (simp [*]; done)
end Go.Proofs.YtlgokfgbcohioaaDoor
