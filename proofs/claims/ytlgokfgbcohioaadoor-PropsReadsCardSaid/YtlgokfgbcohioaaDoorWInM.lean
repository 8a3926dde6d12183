/- PLAIN LAW: what the fields are like that were read of bytes. -/
import Derived.Test.YtlgokfgbcohioaaDoorK2
namespace Go.Proofs.YtlgokfgbcohioaaDoor
open Go.RowKit Plain

/-- what a field that was read is like -/
def FldRd (f : Fld) : Prop := 1 ≤ f.num ∧ f.num < 536870912 ∧ 0 ≤ f.kind ∧ f.kind < 8 ∧ f.val < 18446744073709551616 ∧ f.text.size ≤ 4096
theorem fget_ltR (k : Nat) (hk : k ≤ 8) (b : List UInt8) (p : Int) : (fget k b p).1 < 18446744073709551616 := by
  unfold fget
  split
  · simp
  split
  · simp
  · exact un_take_lt8 _ _ _ hk
theorem wval_ltR (b : List UInt8) (p k : Nat) : (wval b p k).val < 18446744073709551616 := by
  unfold wval
  split
  · exact vget_lt _ _
  split
  · exact fget_ltR 8 (by omega) _ _
  split
  · exact fget_ltR 4 (by omega) _ _
  split
  · split
    · split <;> simp
    · simp
  · simp
theorem wval_text {b : List UInt8} (hb : b.length ≤ 4096) (p k : Nat) : (wval b p k).text.size ≤ 4096 := by
  unfold wval
  split
  · exact Nat.zero_le _
  split
  · exact Nat.zero_le _
  split
  · exact Nat.zero_le _
  split
  · split
    · split
      · exact Nat.zero_le _
      · show (((b.drop _).take _).toArray).size ≤ 4096
        simp
        omega
    · exact Nat.zero_le _
  · exact Nat.zero_le _
theorem wnext_rd {b : List UInt8} {s : RSt} (hb : b.length ≤ 4096) (h : ∀ f ∈ s.out, FldRd f) : ∀ f ∈ (wnext b s).2.out, FldRd f := by
  unfold wnext
  split
  · split
    · exact h
    rename_i h1
    split
    · split <;> exact h
    split
    · split <;> exact h
    split
    · split
      · split
        · exact h
        · intro f hf
          simp only [List.mem_append, List.mem_singleton] at hf
          rcases hf with hf | rfl
          · exact h f hf
          · refine ⟨?_, ?_, ?_, ?_, wval_ltR _ _ _, wval_text hb _ _⟩ <;> dsimp only <;> omega
      · exact h
    · exact h
  · exact h
theorem wrun_rd (b : List UInt8) (hb : b.length ≤ 4096) : ∀ (f : Nat) (s : RSt), (∀ g ∈ s.out, FldRd g) → ∀ g ∈ (wrun b f s).1, FldRd g := by
  intro f
  induction f with
  | zero =>
    intro s h
    rw [wrun]
    split
    · exact h
    · simp
  | succ f ih =>
    intro s h
    rw [wrun]
    split
    · split
      · exact ih _ (wnext_rd hb h)
      · simp
    · split
      · exact h
      · simp
theorem wof_rd (b : List UInt8) : ∀ f ∈ (wof b).1, FldRd f := by
  unfold wof
  split
  · simp
  · exact wrun_rd _ (by omega) _ _ (by simp)
theorem wrun_256R (b : List UInt8) : ∀ (f : Nat) (s : RSt), s.out.length ≤ 256 → (wrun b f s).1.length ≤ 256 := by
  intro f
  induction f with
  | zero => intro s h; rw [wrun]; split <;> simp [h]
  | succ f ih =>
    intro s h
    rw [wrun]
    split
    · split
      · refine ih _ ?_
        unfold wnext
        split
        · split
          · exact h
          split
          · split <;> exact h
          split
          · split <;> exact h
          split
          · split
            · split
              · exact h
              · simp; omega
            · exact h
          · exact h
        · exact h
      · simp
    · split <;> simp [h]
theorem wof_256R (b : List UInt8) : (wof b).1.length ≤ 256 := by
  unfold wof
  split
  · simp
  · exact wrun_256R _ _ _ (by simp)
end Go.Proofs.YtlgokfgbcohioaaDoor
