/- WALKS: wire's small functions. -/
import Derived.Test.YtaahhommfpohhaaProg
import Derived.Test.YtaahhommfpohhaaBase
import Derived.Test.YtaahhommfpohhaaWire
namespace Go.Proofs.Ytaahhommfpohhaa
open Go.RowKit Plain

def wlaid (kind : Int) : Bool := kind == 0 || kind == 1 || kind == 2 || kind == 5
theorem laid_any (kind : Int) (w : World) : Calls Try.prog 69 #[.int .i64 kind] w fun e w' => e = .returned (.bool (wlaid kind)) ∧ w = w' := by
  by_cases h0 : kind = 0
  · subst h0; go_enter Try.func69, Try.ntmps69
    go_wp2
    go_ret
    exact ⟨rfl, rfl⟩
  by_cases h1 : kind = 1
  · subst h1; go_enter Try.func69, Try.ntmps69
    go_wp2
    go_ret
    exact ⟨rfl, rfl⟩
  by_cases h2 : kind = 2
  · subst h2; go_enter Try.func69, Try.ntmps69
    go_wp2
    go_ret
    exact ⟨rfl, rfl⟩
  by_cases h5 : kind = 5
  · subst h5; go_enter Try.func69, Try.ntmps69
    go_wp2
    go_ret
    exact ⟨rfl, rfl⟩
  have b0 : (kind == 0) = false := by simpa using h0
  have b1 : (kind == 1) = false := by simpa using h1
  have b2 : (kind == 2) = false := by simpa using h2
  have b5 : (kind == 5) = false := by simpa using h5
  have e : wlaid kind = false := by unfold wlaid; rw [b0, b1, b2, b5]; rfl
  rw [e]
  clear e h0 h1 h2 h5
  go_enter Try.func69, Try.ntmps69
  go_wp2
  go_ret
  exact ⟨rfl, rfl⟩
set_option maxRecDepth 100000 in
set_option maxHeartbeats 1000000 in
theorem wwrong_any (num kind : Int) (val : Nat) (text : ByteArray) (w : World) :
    Calls Try.prog 54 #[.agg #[.int .i64 num, .int .i64 kind, .int .u64 val, .string text]] w fun e w' => e = .returned (.int .i64 (wwrong num kind val text.toList.isEmpty)) ∧ Below w.heap.size w w' := by
  by_cases h0 : num < 1
  · have hb : decide (num < 1) = true := by simpa using h0
    have e : wwrong num kind val text.toList.isEmpty = 5 := by unfold wwrong; rw [if_pos (.inl h0)]
    rw [e]; clear e h0
    go_enter Try.func54, Try.ntmps54
    go_wp2_with fail
    go_ret
    exact ⟨rfl, (Below.refl _ _).alloc (Nat.le_refl _) _⟩
  have hb0 : decide (num < 1) = false := by simpa using h0
  by_cases h1 : 536870912 ≤ num
  · have hb : decide (536870912 ≤ num) = true := by simpa using h1
    have e : wwrong num kind val text.toList.isEmpty = 5 := by unfold wwrong; rw [if_pos (.inr h1)]
    rw [e]; clear e h0 h1
    go_enter Try.func54, Try.ntmps54
    go_wp2_with fail
    go_ret
    exact ⟨rfl, (Below.refl _ _).alloc (Nat.le_refl _) _⟩
  have hb1 : decide (536870912 ≤ num) = false := by simpa using h1
  have e0 : wwrong num kind val text.toList.isEmpty = if ¬ (kind = 0 ∨ kind = 1 ∨ kind = 2 ∨ kind = 5) then 11
      else if ¬ kind = 2 ∧ text.toList.isEmpty = false ∨ kind = 2 ∧ ¬ (val : Int) = 0 then 4 else if kind = 5 ∧ 4294967296 ≤ (val : Int) then 5 else 0 := by unfold wwrong; rw [if_neg (by omega)]
  clear h0 h1
  by_cases hk : wlaid kind = true
  · have hk4 : kind = 0 ∨ kind = 1 ∨ kind = 2 ∨ kind = 5 := by unfold wlaid at hk; simp at hk; omega
    rw [e0, if_neg (fun h => h hk4)]
    clear e0
    by_cases h2 : kind = 2
    · subst h2
      by_cases hv : (val : Int) = 0
      · rw [if_neg (by simp [hv]), if_neg (by simp)]
        have hvb : ((val : Int) != 0) = false := by simpa using hv
        clear hk4 hv
        go_enter Try.func54, Try.ntmps54
        go_wp2_with (go_at_call 69; refine (laid_any _ _).mono ?_; rintro e w1 ⟨rfl, rfl⟩)
        all_goals go_ret
        all_goals exact ⟨rfl, (Below.refl _ _).alloc (Nat.le_refl _) _⟩
      · rw [if_pos (.inr ⟨rfl, hv⟩)]
        have hvb : ((val : Int) != 0) = true := by simpa using hv
        clear hk4 hv
        go_enter Try.func54, Try.ntmps54
        go_wp2_with (go_at_call 69; refine (laid_any _ _).mono ?_; rintro e w1 ⟨rfl, rfl⟩)
        all_goals go_ret
        all_goals exact ⟨rfl, (Below.refl _ _).alloc (Nat.le_refl _) _⟩
    · have hk2 : (kind == 2) = false := by simpa using h2
      cases ht : text.toList.isEmpty
      · rw [if_pos (.inl ⟨h2, rfl⟩)]
        clear hk4 h2
        go_enter Try.func54, Try.ntmps54
        go_wp2_with (go_at_call 69; refine (laid_any _ _).mono ?_; rintro e w1 ⟨rfl, rfl⟩)
        all_goals go_ret
        all_goals exact ⟨rfl, (Below.refl _ _).alloc (Nat.le_refl _) _⟩
      · rw [if_neg (by simp [h2])]
        by_cases h5 : kind = 5
        · subst h5
          by_cases hv : 4294967296 ≤ (val : Int)
          · rw [if_pos ⟨rfl, hv⟩]
            have hvb : decide (4294967296 ≤ (val : Int)) = true := by simpa using hv
            clear hk4 hv
            go_enter Try.func54, Try.ntmps54
            go_wp2_with (go_at_call 69; refine (laid_any _ _).mono ?_; rintro e w1 ⟨rfl, rfl⟩)
            all_goals go_ret
            all_goals exact ⟨rfl, (Below.refl _ _).alloc (Nat.le_refl _) _⟩
          · rw [if_neg (fun h => hv h.2)]
            have hvb : decide (4294967296 ≤ (val : Int)) = false := by simpa using hv
            clear hk4 hv
            go_enter Try.func54, Try.ntmps54
            go_wp2_with (go_at_call 69; refine (laid_any _ _).mono ?_; rintro e w1 ⟨rfl, rfl⟩)
            all_goals go_ret
            all_goals exact ⟨rfl, (Below.refl _ _).alloc (Nat.le_refl _) _⟩
        · have hk5 : (kind == 5) = false := by simpa using h5
          rw [if_neg (fun h => h5 h.1)]
          clear hk4 h2 h5
          go_enter Try.func54, Try.ntmps54
          go_wp2_with (go_at_call 69; refine (laid_any _ _).mono ?_; rintro e w1 ⟨rfl, rfl⟩)
          all_goals go_ret
          all_goals exact ⟨rfl, (Below.refl _ _).alloc (Nat.le_refl _) _⟩
  · have hk' : wlaid kind = false := by simpa using hk
    rw [e0, if_pos (by unfold wlaid at hk'; simp at hk'; omega)]
    clear e0 hk
    go_enter Try.func54, Try.ntmps54
    go_wp2_with (go_at_call 69; refine (laid_any _ _).mono ?_; rintro e w1 ⟨rfl, rfl⟩)
    all_goals go_ret
    all_goals exact ⟨rfl, (Below.refl _ _).alloc (Nat.le_refl _) _⟩
end Go.Proofs.Ytaahhommfpohhaa
