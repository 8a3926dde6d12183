/- LAW WALK: VarintRises -/
import Derived.Test.YtfmamcdlnbmpeaaZig
namespace Go.Proofs.Ytfmamcdlnbmpeaa
open Go.RowKit Plain

set_option maxHeartbeats 400000 in
theorem rises_any (a b : Nat) (ha : a < 18446744073709551616) (hb : b < 18446744073709551616) (w : World) :
    Calls Try.prog 3 #[.int .u64 a, .int .u64 b] w fun e w' => e = .returned (.bool true) ∧ Below w.heap.size w w' := by
  go_enter Try.func3, Try.ntmps3
  go_wp2_with fail
  refine (size_any a ha _).mono ?_
  rintro e w1 ⟨rfl, rfl⟩
  go_wp2_with fail
  refine (size_any b hb _).mono ?_
  rintro e w1 ⟨rfl, rfl⟩
  have h1 := vsize_bd a
  have h2 := vsize_bd b
  by_cases h : a ≤ b
  · have h3 := vsize_mono h
    go_wp2_with fail
    all_goals
      refine (awake1_any _).mono ?_
      rintro e w1 ⟨rfl, hB⟩
      go_wp2_with fail
      go_ret
      exact ⟨rfl, hB⟩
  · go_wp2_with fail
    all_goals
      refine (awake1_any _).mono ?_
      rintro e w1 ⟨rfl, hB⟩
      go_wp2_with fail
      go_ret
      exact ⟨rfl, hB⟩
end Go.Proofs.Ytfmamcdlnbmpeaa
