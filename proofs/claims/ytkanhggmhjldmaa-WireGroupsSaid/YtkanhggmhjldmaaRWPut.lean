/- WALK: the reference's wrong of layer 3. -/
import Derived.Test.YtkanhggmhjldmaaWPuts
import Derived.Test.YtkanhggmhjldmaaRefA0
import Derived.Test.YtkanhggmhjldmaaRefB
namespace Go.Proofs.Ytkanhggmhjldmaa
open Go.RowKit Plain

set_option maxRecDepth 100000 in
set_option maxHeartbeats 1000000 in
theorem rwrong_any (num kind : Int) (val : Nat) (text : ByteArray) (w : World) :
    Calls Try.prog 37 #[.agg #[.int .i64 num, .int .i64 kind, .int .u64 val, .string text]] w fun e w' => e = .returned (.int .i64 (wwrong num kind val text.toList.isEmpty)) ∧ Below w.heap.size w w' := by
  obtain ⟨V, hV⟩ : ∃ V, wwrong num kind val text.toList.isEmpty = V := ⟨_, rfl⟩
  rw [hV]
  have HV := Lib.hid hV
  clear hV
  cases hb1 : decide (536870912 ≤ num) <;> cases hb4 : decide (4294967296 ≤ (val : Int))
  all_goals go_enter Try.func37, Try.ntmps37
  all_goals go_wp2
  all_goals go_ret
  all_goals refine ⟨congrArg (fun z => Ending.returned (.int .i64 z)) ?_, (Below.refl _ _).alloc (Nat.le_refl _) _⟩
  all_goals rw [← HV.out]
  all_goals clear HV
  all_goals unfold wwrong
  all_goals simp only [decide_eq_true_eq, decide_eq_false_iff_not, Int.not_le] at hb1 hb4
  all_goals try simp only [bne_iff_ne, ne_eq, bne_eq_false_iff_eq] at *
  all_goals first | (simp [*]; done) | (simp [*] <;> (repeat' split) <;> omega)
end Go.Proofs.Ytkanhggmhjldmaa
