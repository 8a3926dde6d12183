/- small laws on wrapping -/
import Derived.Test.YtaahhommfpohhaaBase
namespace Go.Proofs.Ytaahhommfpohhaa
open Go.RowKit
theorem wrap_small (i : Nat) (h : i < 9223372036854775808) : IntKind.i64.wrap (i : Int) = (i : Int) := by
  simp [IntKind.wrap, IntKind.bits, IntKind.signed]
  omega
theorem wrap_u64 (i : Nat) (h : i < 18446744073709551616) : IntKind.u64.wrap (i : Int) = (i : Int) := by
  simp [IntKind.wrap, IntKind.bits, IntKind.signed]
  omega
end Go.Proofs.Ytaahhommfpohhaa
