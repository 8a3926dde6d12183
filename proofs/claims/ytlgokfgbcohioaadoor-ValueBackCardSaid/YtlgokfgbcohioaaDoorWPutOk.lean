/- PLAIN LAW: what wire.Put answers, where it is well and where it is not. -/
import Derived.Test.YtlgokfgbcohioaaDoorWPl
namespace Go.Proofs.YtlgokfgbcohioaaDoor
open Go.RowKit Plain

theorem wput_ok {l : List Fld} (h : (wput l).2 = 0) : wput l = (wencs l, 0) ∧ werrs l = 0 ∧ l.length ≤ 256 ∧ (wencs l).length ≤ 4096 := by
  unfold wput at h ⊢
  split at h
  · rename_i h1
    split at h
    · simp at h
    · rename_i h2
      split at h
      · simp at h
      · rename_i h3
        rw [if_pos h1, if_neg h2, if_neg h3]
        exact ⟨rfl, h1, by omega, by omega⟩
  · rename_i h1; exact absurd h h1
theorem wput_bad {l : List Fld} (h : ¬ (wput l).2 = 0) : (wput l).1 = [] := by
  unfold wput at h ⊢
  split
  · rename_i h1; rw [if_pos h1] at h
    split
    · rfl
    · rename_i h2; rw [if_neg h2] at h
      split
      · rfl
      · rename_i h3; rw [if_neg h3] at h; simp at h
  · rfl
theorem wencs_app (a b : List Fld) : wencs (a ++ b) = wencs a ++ wencs b := by simp [wencs]
theorem werrs_app {a b : List Fld} (ha : werrs a = 0) (hb : werrs b = 0) : werrs (a ++ b) = 0 := by
  induction a with
  | nil => exact hb
  | cons f a ih =>
    rw [werrs] at ha
    split at ha
    · rename_i h1; rw [List.cons_append, werrs, if_pos h1]; exact ih ha
    · rename_i h1; exact absurd ha h1
end Go.Proofs.YtlgokfgbcohioaaDoor
