/- WALKS: varint.Zig, varint.Zag, and the law's awake. -/
import Derived.Test.YtfmamcdlnbmpeaaPut
import Derived.Laws.BitsAllLaws
namespace Go.Proofs.Ytfmamcdlnbmpeaa
open Go.RowKit Plain

theorem xor_ones (a : Nat) (ha : a < 18446744073709551616) : a ^^^ 18446744073709551615 = 18446744073709551615 - a := by
  have h := congrArg BitVec.toNat (BitVec.xor_allOnes (x := BitVec.ofNat 64 a))
  rw [BitVec.toNat_xor, BitVec.toNat_not, BitVec.toNat_ofNat, BitVec.toNat_allOnes, Nat.mod_eq_of_lt ha] at h
  exact h
def zig (x : Int) : Int := if 0 ≤ x then 2 * x else -2 * x - 1
def zigN (x : Int) : Nat := (zig x).toNat
def zag (x : Nat) : Int := if x % 2 = 0 then (x / 2 : Nat) else -((x / 2 : Nat) : Int) - 1

theorem zigE (x : Int) (h0 : -9223372036854775808 ≤ x) (h1 : x ≤ 9223372036854775807) :
    bits BinOp.xor IntKind.u64 (IntKind.u64.wrap (IntKind.u64.wrap x * 2)) (IntKind.u64.wrap (x / 9223372036854775808)) = zig x := by
  simp only [IntKind.wrap_u64]
  unfold zig
  by_cases h : 0 ≤ x
  · rw [if_pos h]
    have e1 : x % 18446744073709551616 * 2 % 18446744073709551616 = ((2 * x).toNat : Int) := by omega
    have e2 : x / 9223372036854775808 % 18446744073709551616 = ((0 : Nat) : Int) := by omega
    rw [e1, e2, u64_xor_nat _ _ (by omega) (by omega), Nat.xor_zero]
    omega
  · rw [if_neg h]
    have e1 : x % 18446744073709551616 * 2 % 18446744073709551616 = ((2 * x + 18446744073709551616).toNat : Int) := by omega
    have e2 : x / 9223372036854775808 % 18446744073709551616 = ((18446744073709551615 : Nat) : Int) := by omega
    rw [e1, e2, u64_xor_nat _ _ (by omega) (by omega), xor_ones _ (by omega)]
    omega

theorem and1 (x : Nat) (h1 : x < 18446744073709551616) : bits BinOp.and IntKind.u64 (x : Int) 1 = ((x % 2 : Nat) : Int) := by
  have h := u64_and_nat x 1 h1 (by omega)
  rw [Nat.and_one_is_mod] at h
  exact h
theorem i64_xor0 (a : Nat) (ha : a < 9223372036854775808) : bits BinOp.xor IntKind.i64 (a : Int) 0 = (a : Int) := by
  show IntKind.i64.wrap ((BitVec.ofInt 64 (a : Int) ^^^ BitVec.ofInt 64 0).toNat : Int) = _
  have e : BitVec.ofInt 64 0 = 0#64 := by decide
  rw [e, BitVec.xor_zero, BitVec.ofInt_natCast, BitVec.toNat_ofNat, IntKind.wrap_i64]
  have : a % 2 ^ 64 = a := Nat.mod_eq_of_lt (by omega)
  rw [this]
  omega
theorem i64_xor1 (a : Nat) (ha : a < 9223372036854775808) : bits BinOp.xor IntKind.i64 (a : Int) (-1) = -(a : Int) - 1 := by
  show IntKind.i64.wrap ((BitVec.ofInt 64 (a : Int) ^^^ BitVec.ofInt 64 (-1)).toNat : Int) = _
  have e : BitVec.ofInt 64 (-1) = BitVec.allOnes 64 := by decide
  rw [e, BitVec.xor_allOnes, BitVec.toNat_not, BitVec.ofInt_natCast, BitVec.toNat_ofNat, IntKind.wrap_i64]
  have : a % 2 ^ 64 = a := Nat.mod_eq_of_lt (by omega)
  rw [this]
  omega
theorem zagE (x : Nat) (h1 : x < 18446744073709551616) :
    bits BinOp.xor IntKind.i64 ((x : Int) / 2) (wrap64 (-wrap64 (bits BinOp.and IntKind.u64 (x : Int) 1))) = zag x := by
  rw [and1 x h1]
  unfold zag
  have e : (x : Int) / 2 = ((x / 2 : Nat) : Int) := by omega
  rw [e]
  rcases Nat.mod_two_eq_zero_or_one x with h | h
  · rw [h, if_pos rfl, show wrap64 (-wrap64 ((0 : Nat) : Int)) = 0 from by decide +kernel]
    exact i64_xor0 (x / 2) (show x / 2 < 9223372036854775808 by omega)
  · rw [h, if_neg (by omega), show wrap64 (-wrap64 ((1 : Nat) : Int)) = -1 from by decide +kernel]
    exact i64_xor1 (x / 2) (show x / 2 < 9223372036854775808 by omega)

theorem zigN_eq (x : Int) : ((zigN x : Nat) : Int) = zig x := by unfold zigN zig; split <;> omega
theorem zigN_lt (x : Int) (h0 : -9223372036854775808 ≤ x) (h1 : x ≤ 9223372036854775807) : zigN x < 18446744073709551616 := by unfold zigN zig; split <;> omega
theorem zag_zigN (x : Int) : zag (zigN x) = x := by unfold zag zigN zig; split <;> split <;> omega
theorem zigN_zag (u : Nat) : zigN (zag u) = u := by unfold zigN zig zag; split <;> split <;> omega
theorem zag_bd (u : Nat) (hu : u < 18446744073709551616) : -9223372036854775808 ≤ zag u ∧ zag u ≤ 9223372036854775807 := by unfold zag; split <;> omega
theorem zigN_neg {x : Int} (h : x < 0) : zigN x % 2 = 1 := by unfold zigN zig; rw [if_neg (by omega)]; omega
theorem zigN_pos {x : Int} (h : ¬ x < 0) : zigN x % 2 = 0 := by unfold zigN zig; rw [if_pos (by omega)]; omega
theorem zigN_small {x : Int} (h0 : -64 ≤ x) (h1 : x ≤ 63) : zigN x < 128 := by unfold zigN zig; split <;> omega

theorem zig_any (x : Int) (h0 : -9223372036854775808 ≤ x) (h1 : x ≤ 9223372036854775807) (w : World) :
    Calls Try.prog 17 #[.int .i64 x] w fun e w' => e = .returned (.int .u64 (zigN x : Nat)) ∧ w = w' := by
  go_enter Try.func17, Try.ntmps17
  go_wp2
  go_ret
  exact ⟨congrArg (fun z => Ending.returned (.int .u64 z)) ((zigE x h0 h1).trans (zigN_eq x).symm), rfl⟩
theorem zag_any (x : Nat) (h1 : x < 18446744073709551616) (w : World) :
    Calls Try.prog 18 #[.int .u64 x] w fun e w' => e = .returned (.int .i64 (zag x)) ∧ w = w' := by
  go_enter Try.func18, Try.ntmps18
  go_wp2
  go_ret
  exact ⟨congrArg (fun z => Ending.returned (.int .i64 z)) (zagE x h1), rfl⟩

theorem put300 (w : World) : Calls Try.prog 27 #[.int .u64 300] w fun e w' => ∃ g c, e = .returned (.slice (some ⟨g, 0, none⟩) 2 c) ∧
    w'.cell? ⟨g, 0, none⟩ = some (.int .u8 172) ∧ w'.cell? ⟨g, 1, none⟩ = some (.int .u8 2) ∧ Below w.heap.size w w' := by
  refine (put_any 300 (by omega) w).mono ?_
  rintro e w' ⟨A, c, rfl, hown, hB⟩
  have hv : vput 300 = [172, 2] := by decide +kernel
  have hs : vsize 300 = 2 := by decide +kernel
  rw [hv, hs] at hown
  obtain ⟨b, off, rfl, _, hc⟩ := (Rd.of_own hown).some_ (by simp [bcl])
  have hoff : off = 0 := by
    rcases hown.2 with ⟨h, _⟩ | ⟨g, cap, cur, h, _⟩
    · cases h
    · injection h with h _ _
      injection h with h
      injection h
  subst hoff
  exact ⟨b, c, by rw [hs], by simpa [bcl] using hc 0 (by simp [bcl]), by simpa [bcl] using hc 1 (by simp [bcl]), hB⟩

set_option maxHeartbeats 400000 in
theorem awake1_any (w : World) : Calls Try.prog 13 #[] w fun e w' => e = .returned (.bool true) ∧ Below w.heap.size w w' := by
  go_enter Try.func13, Try.ntmps13
  go_wp2_with fail
  refine (put300 _).mono ?_
  rintro e w1 ⟨g, c, rfl, h0, h1, hB⟩
  go_wp2_with (go_at_call 17; refine (zig_any _ (by omega) (by omega) _).mono ?_; rintro e w' ⟨rfl, rfl⟩)
  go_ret
  exact ⟨rfl, hB⟩
end Go.Proofs.Ytfmamcdlnbmpeaa
