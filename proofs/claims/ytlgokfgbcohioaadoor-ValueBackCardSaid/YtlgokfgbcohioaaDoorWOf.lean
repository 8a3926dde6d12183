/- PLAIN LAW: bytes as fields. -/
import Derived.Test.YtlgokfgbcohioaaDoorRefGet
import Derived.Test.YtlgokfgbcohioaaDoorWPuts
namespace Go.Proofs.YtlgokfgbcohioaaDoor
open Go.RowKit Plain

/-- what has been read: the place, the groups that are open, the fields -/
structure RSt where
  at_ : Nat
  opn : List Nat
  out : List Fld
def emptyT : ByteArray := ⟨#[]⟩
/-- what stands behind a tag: number, text, place behind, error -/
structure WV where
  val : Nat
  text : ByteArray
  to : Nat
  err : Nat
def wval (b : List UInt8) (p kind : Nat) : WV :=
  if kind = 0 then ⟨(vget b p).1, emptyT, (vget b p).2.1, (vget b p).2.2⟩
  else if kind = 1 then ⟨(fget 8 b p).1, emptyT, (fget 8 b p).2.1, (fget 8 b p).2.2⟩
  else if kind = 5 then ⟨(fget 4 b p).1, emptyT, (fget 4 b p).2.1, (fget 4 b p).2.2⟩
  else if kind = 2 then
    if (vget b p).2.2 = 0 then
      if b.length - (vget b p).2.1 < (vget b p).1 then ⟨0, emptyT, 0, 2⟩
      else ⟨0, ⟨((b.drop (vget b p).2.1).take (vget b p).1).toArray⟩, (vget b p).2.1 + (vget b p).1, 0⟩
    else ⟨0, emptyT, 0, (vget b p).2.2⟩
  else ⟨0, emptyT, 0, 11⟩
/-- one step: error (0: none) and what has been read then -/
def wnext (b : List UInt8) (s : RSt) : Nat × RSt :=
  if (vget b s.at_).2.2 = 0 then
    if (vget b s.at_).1 / 8 < 1 ∨ 536870912 ≤ (vget b s.at_).1 / 8 then (5, s)
    else if (vget b s.at_).1 % 8 = 3 then if 8 ≤ s.opn.length then (12, s) else (0, ⟨(vget b s.at_).2.1, s.opn ++ [(vget b s.at_).1 / 8], s.out⟩)
    else if (vget b s.at_).1 % 8 = 4 then if s.opn.getLast? = some ((vget b s.at_).1 / 8) then (0, ⟨(vget b s.at_).2.1, s.opn.dropLast, s.out⟩) else (4, s)
    else if (wval b (vget b s.at_).2.1 ((vget b s.at_).1 % 8)).err = 0 then
      if s.opn.length = 0 then
        if 256 ≤ s.out.length then (6, s)
        else (0, ⟨(wval b (vget b s.at_).2.1 ((vget b s.at_).1 % 8)).to, s.opn, s.out ++ [⟨((vget b s.at_).1 / 8 : Nat), ((vget b s.at_).1 % 8 : Nat), (wval b (vget b s.at_).2.1 ((vget b s.at_).1 % 8)).val, (wval b (vget b s.at_).2.1 ((vget b s.at_).1 % 8)).text⟩]⟩)
      else (0, ⟨(wval b (vget b s.at_).2.1 ((vget b s.at_).1 % 8)).to, s.opn, s.out⟩)
    else ((wval b (vget b s.at_).2.1 ((vget b s.at_).1 % 8)).err, s)
  else ((vget b s.at_).2.2, s)
def wrun (b : List UInt8) : Nat → RSt → List Fld × Nat
  | 0, s => if s.opn.length = 0 then (s.out, 0) else ([], 2)
  | n + 1, s => if s.at_ < b.length then (if (wnext b s).1 = 0 then wrun b n (wnext b s).2 else ([], (wnext b s).1)) else if s.opn.length = 0 then (s.out, 0) else ([], 2)
def wof (b : List UInt8) : List Fld × Nat := if 4096 < b.length then ([], 3) else wrun b b.length ⟨0, [], []⟩

theorem vgo_to : ∀ (f i v : Nat) (l : List UInt8), (vgo f i v l).2.2 = 0 → i < (vgo f i v l).2.1 ∧ (vgo f i v l).2.1 ≤ i + l.length := by
  intro f
  induction f with
  | zero => intro i v l h; simp [vgo] at h
  | succ f ih =>
    intro i v l h
    cases l with
    | nil => simp [vgo] at h
    | cons c l =>
      rw [vgo] at h ⊢
      split
      · rename_i h1; rw [if_pos h1] at h; simp at h
      · rename_i h1
        rw [if_neg h1] at h
        split
        · simp
        · rename_i h2
          rw [if_neg h2] at h
          have := ih _ _ _ h
          simp only [List.length_cons]
          omega
theorem vget_to {b : List UInt8} {p : Nat} (h : (vget b p).2.2 = 0) : p < (vget b p).2.1 ∧ (vget b p).2.1 ≤ b.length ∧ p ≤ b.length := by
  unfold vget at h ⊢
  split
  · rename_i h1; rw [if_pos h1] at h; simp at h
  · rename_i h1
    rw [if_neg h1] at h
    split
    · rename_i h2
      have := vgo_to _ _ _ _ h2
      simp only [List.length_drop, Int.toNat_natCast] at this ⊢
      omega
    · rename_i h2
      rw [if_neg h2] at h
      simp only at h
      exact absurd h h2
theorem fget_to {k : Nat} {b : List UInt8} {p : Nat} (h : (fget k b p).2.2 = 0) : (fget k b p).2.1 = p + k ∧ p + k ≤ b.length := by
  unfold fget at h ⊢
  split
  · rename_i h1; rw [if_pos h1] at h; simp at h
  · rename_i h1
    rw [if_neg h1] at h
    split
    · rename_i h2; rw [if_pos h2] at h; simp at h
    · simp; omega
theorem vgo_lt : ∀ (f i v : Nat) (l : List UInt8), f + i = 10 → v < 128 ^ i → (vgo f i v l).1 < 18446744073709551616 := by
  intro f
  induction f with
  | zero => intro i v l _ _; simp [vgo]
  | succ f ih =>
    intro i v l hf hv
    cases l with
    | nil => simp [vgo]
    | cons c l =>
      rw [vgo]
      have hc : c.toNat < 256 := c.toNat_lt
      split
      · simp
      · rename_i h1
        split
        · rename_i h2
          simp only
          rcases Nat.lt_or_ge i 9 with h9 | h9
          · have e1 : c.toNat * 128 ^ i ≤ 127 * 128 ^ i := Nat.mul_le_mul_right _ (by omega)
            have e2 : 128 * 128 ^ i ≤ 128 ^ 9 := by
              rw [← Nat.pow_succ']
              exact Nat.pow_le_pow_right (by omega) (by omega)
            have e3 : (128 : Nat) ^ 9 = 9223372036854775808 := by decide
            omega
          · obtain rfl : i = 9 := by omega
            have e3 : (128 : Nat) ^ 9 = 9223372036854775808 := by decide
            have : c.toNat ≤ 1 := by omega
            rw [e3] at hv ⊢
            have : c.toNat * 9223372036854775808 ≤ 1 * 9223372036854775808 := Nat.mul_le_mul_right _ this
            omega
        · refine ih _ _ _ (by omega) ?_
          have e1 : c.toNat % 128 * 128 ^ i ≤ 127 * 128 ^ i := Nat.mul_le_mul_right _ (by omega)
          rw [Nat.pow_succ']
          omega
theorem vget_lt (b : List UInt8) (p : Int) : (vget b p).1 < 18446744073709551616 := by
  unfold vget
  split
  · simp
  · split
    · exact vgo_lt 10 0 0 _ rfl (by simp)
    · simp
theorem wval_to {b : List UInt8} {p k : Nat} (h : (wval b p k).err = 0) : p ≤ (wval b p k).to ∧ (wval b p k).to ≤ b.length := by
  unfold wval at h ⊢
  split
  · rename_i h0; rw [if_pos h0] at h; have := vget_to h; simp only; omega
  rename_i h0; rw [if_neg h0] at h
  split
  · rename_i h1; rw [if_pos h1] at h; have := fget_to h; simp only; omega
  rename_i h1; rw [if_neg h1] at h
  split
  · rename_i h5; rw [if_pos h5] at h; have := fget_to h; simp only; omega
  rename_i h5; rw [if_neg h5] at h
  split
  · rename_i h2; rw [if_pos h2] at h
    split
    · rename_i he; rw [if_pos he] at h
      have := vget_to he
      split
      · rename_i hl; rw [if_pos hl] at h; simp at h
      · simp only; omega
    · rename_i he; rw [if_neg he] at h; exact absurd h he
  · rename_i h2; rw [if_neg h2] at h; simp at h
theorem wnext_to {b : List UInt8} {s : RSt} (h : (wnext b s).1 = 0) : s.at_ < (wnext b s).2.at_ ∧ (wnext b s).2.at_ ≤ b.length := by
  unfold wnext at h ⊢
  split
  · rename_i h0; rw [if_pos h0] at h
    have hv := vget_to h0
    split
    · rename_i h1; rw [if_pos h1] at h; simp at h
    rename_i h1; rw [if_neg h1] at h
    split
    · rename_i h2; rw [if_pos h2] at h
      split
      · rename_i h3; rw [if_pos h3] at h; simp at h
      · simp only; omega
    rename_i h2; rw [if_neg h2] at h
    split
    · rename_i h3; rw [if_pos h3] at h
      split
      · simp only; omega
      · rename_i h4; rw [if_neg h4] at h; simp at h
    rename_i h3; rw [if_neg h3] at h
    split
    · rename_i h4; rw [if_pos h4] at h
      have hw := wval_to h4
      split
      · rename_i h5; rw [if_pos h5] at h
        split
        · rename_i h6; rw [if_pos h6] at h; simp at h
        · simp only; omega
      · simp only; omega
    · rename_i h4; rw [if_neg h4] at h; exact absurd h h4
  · rename_i h0; rw [if_neg h0] at h; exact absurd h h0
end Go.Proofs.YtlgokfgbcohioaaDoor
