/- PLAIN LAW: numbers of fixed width, the lowest byte first; a list turned. -/
namespace Go.Proofs.Ytaahhommfpohhaa.Plain

def leB (n j : Nat) : UInt8 := UInt8.ofNat (n / 256 ^ j)
/-- the k lowest bytes -/
def le (k n : Nat) : List UInt8 := (List.range k).map (leB n)
/-- the number of bytes -/
def un : List UInt8 → Nat
  | [] => 0
  | c :: l => c.toNat + 256 * un l
/-- what has been laid after j of k rounds -/
def leTo (k j n : Nat) : List UInt8 := (List.range j).map (leB n) ++ List.replicate (k - j) 0

theorem le_length (k n : Nat) : (le k n).length = k := by simp [le]
theorem leTo_length {k j : Nat} (n : Nat) (h : j ≤ k) : (leTo k j n).length = k := by simp [leTo]; omega
theorem leTo_zero (k n : Nat) : leTo k 0 n = List.replicate k 0 := by simp [leTo]
theorem leTo_end (k n : Nat) : leTo k k n = le k n := by simp [leTo, le]
theorem leTo_set {k j : Nat} (n : Nat) (h : j < k) : (leTo k j n).set j (leB n j) = leTo k (j + 1) n := by
  unfold leTo
  rw [List.set_append_right _ _ (by simp), List.range_succ, List.map_append, List.append_assoc]
  have e : k - j = (k - (j + 1)) + 1 := by omega
  rw [e, List.replicate_succ]
  simp

theorem le_succ (k n : Nat) : le (k + 1) n = UInt8.ofNat n :: le k (n / 256) := by
  unfold le
  rw [List.range_succ_eq_map, List.map_cons, List.map_map]
  congr 1
  · simp [leB]
  · apply List.map_congr_left
    intro j _
    simp [leB, Nat.pow_succ', Nat.div_div_eq_div_mul]

theorem un_le : ∀ (k n : Nat), n < 256 ^ k → un (le k n) = n := by
  intro k
  induction k with
  | zero => intro n h; simp at h; subst h; rfl
  | succ k ih =>
    intro n h
    rw [le_succ, un, ih (n / 256) (by rw [Nat.div_lt_iff_lt_mul (by omega)]; rw [Nat.pow_succ] at h; exact h)]
    simp only [UInt8.toNat_ofNat']
    omega
theorem un_lt : ∀ (l : List UInt8), un l < 256 ^ l.length := by
  intro l
  induction l with
  | nil => simp [un]
  | cons c l ih =>
    have hc := c.toNat_lt
    rw [un, List.length_cons, Nat.pow_succ]
    omega
theorem un_append : ∀ (l m : List UInt8), un (l ++ m) = un l + 256 ^ l.length * un m := by
  intro l m
  induction l with
  | nil => simp [un]
  | cons c l ih =>
    rw [List.cons_append, un, ih, un, List.length_cons, Nat.pow_succ, Nat.mul_add, Nat.mul_comm (256 ^ l.length) 256, Nat.mul_assoc, Nat.add_assoc]

/-- so many bytes at a place, told as a number -/
def fget (width : Nat) (l : List UInt8) (pos : Int) : Nat × Nat × Nat :=
  if pos < 0 ∨ (l.length : Int) < pos then (0, 0, 1)
  else if (l.length : Int) - pos < width then (0, 0, 2)
  else (un ((l.drop pos.toNat).take width), pos.toNat + width, 0)

end Go.Proofs.Ytaahhommfpohhaa.Plain
