/- WALK: fixed.Turn turns a list of bytes. -/
import Derived.Test.YtfmamcdlnbmpeaaLay
namespace Go.Proofs.Ytfmamcdlnbmpeaa
open Go.RowKit Plain

def turnTo (l : List UInt8) (j : Nat) : List UInt8 := List.replicate (l.length - j) 0 ++ (l.take j).reverse
theorem turnTo_length {l : List UInt8} {j : Nat} (h : j ≤ l.length) : (turnTo l j).length = l.length := by simp [turnTo]; omega
theorem turnTo_zero (l : List UInt8) : turnTo l 0 = List.replicate l.length 0 := by simp [turnTo]
theorem turnTo_end (l : List UInt8) : turnTo l l.length = l.reverse := by simp [turnTo]
theorem turnTo_set {l : List UInt8} {j : Nat} (h : j < l.length) : (turnTo l j).set (l.length - 1 - j) l[j] = turnTo l (j + 1) := by
  unfold turnTo
  have e : l.length - j = (l.length - (j + 1)) + 1 := by omega
  rw [List.set_append_left _ _ (by simp; omega), e, List.replicate_succ', List.set_append_right _ _ (by simp; omega)]
  have e2 : l.length - 1 - j - (List.replicate (l.length - (j + 1)) (0 : UInt8)).length = 0 := by simp; omega
  rw [e2, List.take_succ_eq_append_getElem h, List.reverse_append]
  simp

set_option maxHeartbeats 400000 in
theorem turn_any (A : Option Addr) (n c : Nat) (l : List UInt8) (hn : l.length = n) (B : Nat) (w : World) (hl : l.length ≤ 140737488355328) (hr : Rd w B A (bcl l)) (hB0 : B ≤ w.heap.size) :
    Calls Try.prog 14 #[.slice A n c] w fun e w' => ∃ A' c', e = .returned (.slice A' n c') ∧
      w'.ownsRow w.heap.size 5 1 (.slice A' n c') n (bcl l.reverse) ∧ Below w.heap.size w w' := by
  subst hn
  obtain ⟨i0, hi, hz0, hz1, hz2⟩ := elemB.info
  go_enter Try.func14, Try.ntmps14
  go_wp2_with (at_make; refine wpList_make_full _ rfl _ _ 26 rfl w.heap.size 5 i0 (.int .u8 0) 1 elemB.ht hi hz0 hz1 .i64 .i64 _ _ l.length rfl rfl rfl rfl (by rw [hz2]; omega) (by unfold maxLen; omega) (Nat.le_refl _) ?_; intro w1 hown hgrow)
  have hB := (Below.refl w.heap.size w).grown hgrow (Nat.le_refl _) (fun _ h => by cases h)
  have hown2 : w1.ownsRow w.heap.size 5 1 (.slice (some ⟨w.heap.size, 0, none⟩) l.length l.length) l.length (bcl (turnTo l 0)) := by
    rw [turnTo_zero, ← bcl_zero, ← toList_madeCells_one]; simpa [Value.cells] using hown
  clear hgrow hz0 hz1 hz2 hi hown
  go_loopw [4, 10] (fun i4 i wr => ∃ j : Nat, i = .int .i64 j ∧ j ≤ l.length ∧ wr.ownsRow w.heap.size 5 1 (.slice (some ⟨w.heap.size, 0, none⟩) l.length l.length) l.length (bcl (turnTo l j)) ∧ Below w.heap.size w wr) (fun _ i _ => l.length - (intOf i).toNat)
  case atStart => exact ⟨0, rfl, by omega, hown2, hB⟩
  case round =>
    clear hown2 hB
    obtain ⟨j, rfl, hj, hx, hB⟩ := hrel
    by_cases hlt : j < l.length
    · have hlen := turnTo_length hj
      have hk : l.length - 1 - j < (turnTo l j).length := by omega
      have hc : wr.cell? ⟨w.heap.size, l.length - 1 - j, none⟩ = some (.int .u8 ((turnTo l j)[l.length - 1 - j]'hk).toNat) := by
        rw [hx.cellAt _ (by omega), bcl_get hk]
      have hf := hx.frozenAt (l.length - 1 - j)
      obtain ⟨b, off, rfl, hb, hcell⟩ := (hr.below hB hB0).some_ (by simp [bcl]; omega)
      have hcj := hcell j (by simp [bcl]; exact hlt)
      rw [bcl_get hlt] at hcj
      clear hcell hlen hr
      go_wp2
      go_roundw
      case rel =>
        obtain ⟨h1, h2⟩ := hx.stored (l.length - 1 - j) (.int .u8 ((l[j]).toNat : Int))
        rw [bcl_set, turnTo_set hlt] at h1
        exact ⟨j + 1, by go_num, hlt, h1, hB.grown h2 hB.size (fun g e => by cases e; exact Nat.le_refl _)⟩
      case measure => simp [intOf]; omega
    · go_wp2
      go_ret
      obtain rfl : j = l.length := by omega
      exact ⟨_, _, rfl, by rw [← turnTo_end]; exact hx, hB⟩
end Go.Proofs.Ytfmamcdlnbmpeaa
