/- WALKS: fixed.lay at both widths, Put4, Put8. -/
import Derived.Test.YtaahhommfpohhaaPut
import Derived.Test.YtaahhommfpohhaaFix
namespace Go.Proofs.Ytaahhommfpohhaa
open Go.RowKit Plain

theorem leB_val (n j : Nat) : (n : Int) / 2 ^ (8 * j) % 256 = ((leB n j).toNat : Int) := by
  have e : (2 : Int) ^ (8 * j) = ((256 ^ j : Nat) : Int) := by rw [show 256 ^ j = 2 ^ (8 * j) by rw [Nat.pow_mul]]; simp
  rw [e]
  simp only [leB, UInt8.toNat_ofNat']
  omega
theorem bcl_set (l : List UInt8) (j : Nat) (c : UInt8) : (bcl l).set j (.int .u8 (c.toNat : Int)) = bcl (l.set j c) := by
  simp [bcl, List.map_set]
theorem bcl_zero (k : Nat) : List.replicate k (Value.int .u8 0) = bcl (List.replicate k 0) := by simp [bcl]
theorem bcl_get {l : List UInt8} {i : Nat} (h : i < l.length) : (bcl l)[i]? = some (.int .u8 (l[i].toNat : Int)) := by
  simp [bcl, h]

set_option maxHeartbeats 400000 in
theorem lay32_any (n k : Nat) (_hn : n < 4294967296) (hk : k ≤ 4) (w : World) :
    Calls Try.prog 83 #[.int .u32 n, .int .i64 k] w fun e w' => ∃ A c, e = .returned (.slice A k c) ∧
      w'.ownsRow w.heap.size 5 1 (.slice A k c) k (bcl (le k n)) ∧ Below w.heap.size w w' := by
  obtain ⟨i0, hi, hz0, hz1, hz2⟩ := elemB.info
  go_enter Try.func83, Try.ntmps83
  go_wp2_with (at_make; refine wpList_make_full _ rfl _ _ 32 rfl w.heap.size 5 i0 (.int .u8 0) 1 elemB.ht hi hz0 hz1 .i64 .i64 _ _ k rfl rfl rfl rfl (by rw [hz2]; omega) (by unfold maxLen; omega) (Nat.le_refl _) ?_; intro w1 hown hgrow)
  have hB := (Below.refl w.heap.size w).grown hgrow (Nat.le_refl _) (fun _ h => by cases h)
  have hown2 : w1.ownsRow w.heap.size 5 1 (.slice (some ⟨w.heap.size, 0, none⟩) k k) k (bcl (leTo k 0 n)) := by
    rw [leTo_zero, ← bcl_zero, ← toList_madeCells_one]; simpa [Value.cells] using hown
  clear hgrow hz0 hz1 hz2 hi hown
  go_loopw [10] (fun i wr => ∃ j : Nat, i = .int .i64 j ∧ j ≤ k ∧ wr.ownsRow w.heap.size 5 1 (.slice (some ⟨w.heap.size, 0, none⟩) k k) k (bcl (leTo k j n)) ∧ Below w.heap.size w wr) (fun i _ => k - (intOf i).toNat)
  case atStart => exact ⟨0, rfl, by omega, hown2, hB⟩
  case round =>
    clear hown2 hB
    obtain ⟨j, rfl, hj, hx, hB⟩ := hrel
    by_cases hlt : j < k
    · have hc : wr.cell? ⟨w.heap.size, j, none⟩ = some (.int .u8 ((leTo k j n)[j]'(by rw [leTo_length n hj]; exact hlt)).toNat) := by
        rw [hx.cellAt j (by omega), bcl_get (by rw [leTo_length n hj]; exact hlt)]
      have hf := hx.frozenAt j
      go_wp2
      go_roundw
      case rel =>
        rw [leB_val] at *
        obtain ⟨h1, h2⟩ := hx.stored j (.int .u8 ((leB n j).toNat : Int))
        rw [bcl_set, leTo_set n hlt] at h1
        exact ⟨j + 1, by go_num, hlt, h1, hB.grown h2 hB.size (fun g e => by cases e; exact Nat.le_refl _)⟩
      case measure => simp [intOf]; omega
    · go_wp2
      go_ret
      obtain rfl : j = k := by omega
      exact ⟨_, _, rfl, by rw [← leTo_end]; exact hx, hB⟩
set_option maxHeartbeats 400000 in
theorem lay64_any (n k : Nat) (_hn : n < 18446744073709551616) (hk : k ≤ 8) (w : World) :
    Calls Try.prog 82 #[.int .u64 n, .int .i64 k] w fun e w' => ∃ A c, e = .returned (.slice A k c) ∧
      w'.ownsRow w.heap.size 5 1 (.slice A k c) k (bcl (le k n)) ∧ Below w.heap.size w w' := by
  obtain ⟨i0, hi, hz0, hz1, hz2⟩ := elemB.info
  go_enter Try.func82, Try.ntmps82
  go_wp2_with (at_make; refine wpList_make_full _ rfl _ _ 32 rfl w.heap.size 5 i0 (.int .u8 0) 1 elemB.ht hi hz0 hz1 .i64 .i64 _ _ k rfl rfl rfl rfl (by rw [hz2]; omega) (by unfold maxLen; omega) (Nat.le_refl _) ?_; intro w1 hown hgrow)
  have hB := (Below.refl w.heap.size w).grown hgrow (Nat.le_refl _) (fun _ h => by cases h)
  have hown2 : w1.ownsRow w.heap.size 5 1 (.slice (some ⟨w.heap.size, 0, none⟩) k k) k (bcl (leTo k 0 n)) := by
    rw [leTo_zero, ← bcl_zero, ← toList_madeCells_one]; simpa [Value.cells] using hown
  clear hgrow hz0 hz1 hz2 hi hown
  go_loopw [10] (fun i wr => ∃ j : Nat, i = .int .i64 j ∧ j ≤ k ∧ wr.ownsRow w.heap.size 5 1 (.slice (some ⟨w.heap.size, 0, none⟩) k k) k (bcl (leTo k j n)) ∧ Below w.heap.size w wr) (fun i _ => k - (intOf i).toNat)
  case atStart => exact ⟨0, rfl, by omega, hown2, hB⟩
  case round =>
    clear hown2 hB
    obtain ⟨j, rfl, hj, hx, hB⟩ := hrel
    by_cases hlt : j < k
    · have hc : wr.cell? ⟨w.heap.size, j, none⟩ = some (.int .u8 ((leTo k j n)[j]'(by rw [leTo_length n hj]; exact hlt)).toNat) := by
        rw [hx.cellAt j (by omega), bcl_get (by rw [leTo_length n hj]; exact hlt)]
      have hf := hx.frozenAt j
      go_wp2
      go_roundw
      case rel =>
        rw [leB_val] at *
        obtain ⟨h1, h2⟩ := hx.stored j (.int .u8 ((leB n j).toNat : Int))
        rw [bcl_set, leTo_set n hlt] at h1
        exact ⟨j + 1, by go_num, hlt, h1, hB.grown h2 hB.size (fun g e => by cases e; exact Nat.le_refl _)⟩
      case measure => simp [intOf]; omega
    · go_wp2
      go_ret
      obtain rfl : j = k := by omega
      exact ⟨_, _, rfl, by rw [← leTo_end]; exact hx, hB⟩


theorem put4_any (n : Nat) (hn : n < 4294967296) (w : World) :
    Calls Try.prog 72 #[.int .u32 n] w fun e w' => ∃ A c, e = .returned (.slice A 4 c) ∧
      w'.ownsRow w.heap.size 5 1 (.slice A 4 c) 4 (bcl (le 4 n)) ∧ Below w.heap.size w w' := by
  go_enter Try.func72, Try.ntmps72
  go_wp2_with fail
  refine (lay32_any n 4 hn (by omega) _).mono ?_
  rintro e w1 ⟨A, c, rfl, hown, hB⟩
  go_wp2
  go_ret
  exact ⟨A, c, rfl, hown, hB⟩
theorem put8_any (n : Nat) (hn : n < 18446744073709551616) (w : World) :
    Calls Try.prog 71 #[.int .u64 n] w fun e w' => ∃ A c, e = .returned (.slice A 8 c) ∧
      w'.ownsRow w.heap.size 5 1 (.slice A 8 c) 8 (bcl (le 8 n)) ∧ Below w.heap.size w w' := by
  go_enter Try.func71, Try.ntmps71
  go_wp2_with fail
  refine (lay64_any n 8 hn (by omega) _).mono ?_
  rintro e w1 ⟨A, c, rfl, hown, hB⟩
  go_wp2
  go_ret
  exact ⟨A, c, rfl, hown, hB⟩
end Go.Proofs.Ytaahhommfpohhaa
