/- PLAIN LAW: what wire.Put answers, where it is well and where it is not. -/
import Derived.Test.YtkanhggmhjldmaaWPl
namespace Go.Proofs.Ytkanhggmhjldmaa
open Go.RowKit Plain

theorem wput_ok {l : List Fld} (h : (wput l).2 = 0) : wput l = (wencs l, 0) ∧ werrs l = 0 ∧ l.length ≤ 256 ∧ (wencs l).length ≤ 4096 := by
  unfold wput at h ⊢
  split at h
  · rename_i h1
    split at h
    · simp at h
    · rename_i h2
      split at h
      · simp at h
      · rename_i h3
        rw [if_pos h1, if_neg h2, if_neg h3]
        exact ⟨rfl, h1, by omega, by omega⟩
  · rename_i h1; exact absurd h h1
theorem wput_bad {l : List Fld} (h : ¬ (wput l).2 = 0) : (wput l).1 = [] := by
  unfold wput at h ⊢
  split
  · rename_i h1; rw [if_pos h1] at h
    split
    · rfl
    · rename_i h2; rw [if_neg h2] at h
      split
      · rfl
      · rename_i h3; rw [if_neg h3] at h; simp at h
  · rfl
end Go.Proofs.Ytkanhggmhjldmaa
