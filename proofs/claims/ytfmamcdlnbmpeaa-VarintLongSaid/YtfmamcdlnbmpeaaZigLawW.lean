/- LAW WALK: VarintZig -/
import Derived.Test.YtfmamcdlnbmpeaaZig
namespace Go.Proofs.Ytfmamcdlnbmpeaa
open Go.RowKit Plain

set_option maxHeartbeats 400000 in
theorem zigLaw_any (x : Int) (u : Nat) (hx : -9223372036854775808 ≤ x ∧ x ≤ 9223372036854775807) (hu : u < 18446744073709551616) (w : World) :
    Calls Try.prog 5 #[.int .i64 x, .int .u64 u] w fun e w' => e = .returned (.bool true) ∧ Below w.heap.size w w' := by
  obtain ⟨h0, h1⟩ := hx
  have hz := zigN_lt x h0 h1
  have hb := zag_bd u hu
  go_enter Try.func5, Try.ntmps5
  go_wp2_with fail
  refine (zig_any x h0 h1 _).mono ?_
  rintro e w1 ⟨rfl, rfl⟩
  go_wp2_with fail
  refine (zag_any (zigN x) hz _).mono ?_
  rintro e w1 ⟨rfl, rfl⟩
  rw [zag_zigN]
  go_wp2_with fail
  refine (zag_any u hu _).mono ?_
  rintro e w1 ⟨rfl, rfl⟩
  go_wp2_with fail
  refine (zig_any (zag u) hb.1 hb.2 _).mono ?_
  rintro e w1 ⟨rfl, rfl⟩
  rw [zigN_zag]
  clear hb
  by_cases hn : x < 0
  · have h2 : (((zigN x : Nat) : Int) % 2 == 1) = true := by have := zigN_neg hn; rw [beq_iff_eq]; omega
    go_wp2_with (first
      | (go_at_call 12; refine (size_any _ hz _).mono ?_; rintro e w1 ⟨rfl, rfl⟩; rw [vsize_lt (zigN_small (by omega) (by omega))])
      | (go_at_call 13; refine (awake1_any _).mono ?_; rintro e w1 ⟨rfl, hB⟩))
    all_goals
      go_ret
      exact ⟨rfl, hB⟩
  · have h2 : (((zigN x : Nat) : Int) % 2 == 1) = false := by have := zigN_pos hn; rw [beq_eq_false_iff_ne]; omega
    go_wp2_with (first
      | (go_at_call 12; refine (size_any _ hz _).mono ?_; rintro e w1 ⟨rfl, rfl⟩; rw [vsize_lt (zigN_small (by omega) (by omega))])
      | (go_at_call 13; refine (awake1_any _).mono ?_; rintro e w1 ⟨rfl, hB⟩))
    all_goals
      go_ret
      exact ⟨rfl, hB⟩
end Go.Proofs.Ytfmamcdlnbmpeaa
