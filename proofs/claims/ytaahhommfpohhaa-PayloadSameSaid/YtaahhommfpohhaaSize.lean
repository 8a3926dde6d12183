/- WALK: varint.Size returns vsize. -/
import Derived.Test.YtaahhommfpohhaaProg
import Derived.Test.YtaahhommfpohhaaVar
import Derived.WalkKit
import Derived.WalkSpells
import Derived.WalkLawsBesides
import Derived.Lib.Hide
namespace Go.Proofs.Ytaahhommfpohhaa
open Go.RowKit Plain

theorem vsize_step (n k m : Nat) (hm : m < 18446744073709551616) (h : vsize n = k + if m = 0 then 0 else vsize m) (h0 : ¬ m = 0) :
    vsize n = (k + 1) + if m / 128 = 0 then 0 else vsize (m / 128) := by
  rw [h, if_neg h0]
  by_cases h1 : m < 128
  · rw [vsize_lt h1, if_pos (by omega)]
  · rw [vsize_ge h1 hm, if_neg (by omega)]; omega

set_option maxHeartbeats 400000 in
theorem size_any (n : Nat) (hn : n < 18446744073709551616) (w : World) :
    Calls Try.prog 81 #[.int .u64 n] w fun e w' => e = .returned (.int .i64 (vsize n : Nat)) ∧ w = w' := by
  go_enter Try.func81, Try.ntmps81
  go_wp2
  go_loop [0, 3] (fun a b => ∃ m k : Nat, k ≤ 10 ∧ m < 18446744073709551616 ∧ a = .int .u64 m ∧ b = .int .i64 k ∧ vsize n = k + if m = 0 then 0 else vsize m) (fun a _ => (intOf a).toNat)
  case atStart =>
    refine ⟨n / 128, 1, by omega, by omega, by go_num, rfl, ?_⟩
    by_cases h1 : n < 128
    · rw [vsize_lt h1, if_pos (by omega)]
    · rw [vsize_ge h1 hn, if_neg (by omega)]; omega
  case round =>
    obtain ⟨m, k, hk, hm, rfl, rfl, hv⟩ := hrel
    have HV := Lib.hid hv
    clear hv
    by_cases h0 : m = 0
    · subst h0
      have e := HV.out
      simp at e
      have E := Lib.hid e
      clear e
      go_wp2
      go_ret
      exact ⟨congrArg (fun z : Nat => Ending.returned (.int .i64 (z : Int))) E.out.symm, rfl⟩
    · have h1 : ((m : Int) != 0) = true := by rw [bne_iff_ne]; omega
      have hb := vsize_bd n
      have hb2 := vsize_bd m
      have hk2 : k + 1 ≤ 10 := by have e := HV.out; rw [if_neg h0] at e; omega
      clear hb hb2
      go_wp2
      go_round
      case rel => exact ⟨m / 128, k + 1, by omega, by omega, by go_num, by go_num, vsize_step n k m hm HV.out h0⟩
      case measure => simp [intOf]; omega
end Go.Proofs.Ytaahhommfpohhaa
