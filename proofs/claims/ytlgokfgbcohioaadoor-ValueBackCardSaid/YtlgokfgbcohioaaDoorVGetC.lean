/- varint.Get's contract. -/
import Derived.Test.YtlgokfgbcohioaaDoorVGet
namespace Go.Proofs.YtlgokfgbcohioaaDoor
open Go.RowKit Plain

set_option maxRecDepth 100000 in
set_option maxHeartbeats 1000000 in
theorem vget_any (A : Option Addr) (n c : Nat) (l : List UInt8) (hn : l.length = n) (hnc : n ≤ c) (_hcm : c ≤ 9223372036854775807) (hl : l.length ≤ 140737488355328) (p : Int) (w : World) (hr : Rd w w.heap.size A (bcl l)) :
    Calls Tryd.prog 104 #[.slice A n c, .int .i64 p] w fun e w' =>
      e = .returned (.tuple #[.int .u64 (vget l p).1, .int .i64 (vget l p).2.1, .int .i64 (vget l p).2.2]) ∧ Below w.heap.size w w' := by
  by_cases h0 : p < 0 ∨ (l.length : Int) < p
  · subst hn
    rw [vget_arg _ _ h0]
    by_cases h1 : p < 0
    · go_enter Tryd.func104, Tryd.ntmps104
      go_wp2
      go_step3
      go_wp2
      rw [Exit.noGoto_ret]
      go_ret3
      exact ⟨rfl, Below.refl _ _⟩
    · have h2 : (l.length : Int) < p := by omega
      clear h0
      go_enter Tryd.func104, Tryd.ntmps104
      go_wp2
      go_step3
      go_wp2
      rw [Exit.noGoto_ret]
      go_ret3
      exact ⟨rfl, Below.refl _ _⟩
  · obtain ⟨q, rfl⟩ : ∃ q : Nat, p = q := ⟨p.toNat, by omega⟩
    exact callsIn_wide.1 (vget_in Fence.wide 3 trivial trivial trivial rfl (by omega) A n c l hn hnc hl q (by omega) w hr)
end Go.Proofs.YtlgokfgbcohioaaDoor
