/- PLAIN LAW, no program in sight: numbers as septets (vput, vsize, vget), zigzag. -/
namespace Go.Proofs.Ytaahhommfpohhaa.Plain

/-- the bytes of a number, at most k + 1 of them -/
def vb : Nat → Nat → List UInt8
  | 0, n => [UInt8.ofNat n]
  | k + 1, n => if n < 128 then [UInt8.ofNat n] else UInt8.ofNat (n % 128 + 128) :: vb k (n / 128)
def vput (n : Nat) : List UInt8 := vb 9 n
def vsize (n : Nat) : Nat := (vput n).length

theorem vb_more : ∀ (k n : Nat), n < 128 ^ (k + 1) → vb (k + 1) n = vb k n := by
  intro k
  induction k with
  | zero => intro n h; simp [vb]; omega
  | succ k ih =>
    intro n h
    rw [vb]
    by_cases h1 : n < 128
    · rw [if_pos h1, vb, if_pos h1]
    · rw [if_neg h1, ih _ (by rw [Nat.div_lt_iff_lt_mul (by omega)]; rw [Nat.pow_succ] at h; exact h)]
      rw [vb, if_neg h1]

theorem vput_lt {n : Nat} (h : n < 128) : vput n = [UInt8.ofNat n] := by simp [vput, vb, h]
theorem vput_ge {n : Nat} (h : ¬ n < 128) (hn : n < 18446744073709551616) : vput n = UInt8.ofNat (n % 128 + 128) :: vput (n / 128) := by
  show vb 9 n = _ :: vb 9 (n / 128)
  rw [vb_more 8 (n / 128) (by omega)]
  rw [vb, if_neg h]

theorem vsize_lt {n : Nat} (h : n < 128) : vsize n = 1 := by simp [vsize, vput_lt h]
theorem vsize_ge {n : Nat} (h : ¬ n < 128) (hn : n < 18446744073709551616) : vsize n = vsize (n / 128) + 1 := by
  simp [vsize, vput_ge h hn]

theorem vb_len : ∀ (k n : Nat), 1 ≤ (vb k n).length ∧ (vb k n).length ≤ k + 1 := by
  intro k
  induction k with
  | zero => intro n; simp [vb]
  | succ k ih =>
    intro n
    rw [vb]
    by_cases h1 : n < 128
    · simp [h1]
    · have := ih (n / 128); simp [h1]; omega

theorem vsize_bd (n : Nat) : 1 ≤ vsize n ∧ vsize n ≤ 10 := vb_len 9 n

theorem vb_mono : ∀ (k a b : Nat), a ≤ b → (vb k a).length ≤ (vb k b).length := by
  intro k
  induction k with
  | zero => intro a b _; simp [vb]
  | succ k ih =>
    intro a b h
    rw [vb, vb]
    by_cases h1 : b < 128
    · rw [if_pos (by omega), if_pos h1]; simp
    · by_cases h2 : a < 128
      · simp [h1, h2]
      · have := ih (a / 128) (b / 128) (Nat.div_le_div_right h); simp [h1, h2]; omega

theorem vsize_mono {a b : Nat} (h : a ≤ b) : vsize a ≤ vsize b := vb_mono 9 a b h

/-- what stands at a list's head, told as a number: value, how many bytes, error -/
def vgo : Nat → Nat → Nat → List UInt8 → Nat × Nat × Nat
  | 0, _, _, _ => (0, 0, 3)
  | _ + 1, _, _, [] => (0, 0, 2)
  | f + 1, i, v, c :: l =>
    if i = 9 ∧ 1 < c.toNat then (0, 0, 3)
    else if c.toNat < 128 then (v + c.toNat * 128 ^ i, i + 1, 0)
    else vgo f (i + 1) (v + c.toNat % 128 * 128 ^ i) l
def vget (l : List UInt8) (pos : Int) : Nat × Nat × Nat :=
  if pos < 0 ∨ (l.length : Int) < pos then (0, 0, 1)
  else if (vgo 10 0 0 (l.drop pos.toNat)).2.2 = 0 then
    ((vgo 10 0 0 (l.drop pos.toNat)).1, pos.toNat + (vgo 10 0 0 (l.drop pos.toNat)).2.1, 0)
  else (0, 0, (vgo 10 0 0 (l.drop pos.toNat)).2.2)

end Go.Proofs.Ytaahhommfpohhaa.Plain
