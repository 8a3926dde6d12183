/- PLAIN LAW: a number's bytes told again, with whatever behind. -/
import Derived.Test.YtlgokfgbcohioaaDoorRefGet
namespace Go.Proofs.YtlgokfgbcohioaaDoor.Plain

theorem vgo_vb : ∀ (k i m v : Nat) (r : List UInt8), k + i = 9 → m < 128 ^ k * 2 → vgo (10 - i) i v (vb k m ++ r) = (v + m * 128 ^ i, i + (vb k m).length, 0) := by
  intro k
  induction k with
  | zero =>
    intro i m v r hi hm
    have h9 : i = 9 := by omega
    have hm2 : m < 2 := by simpa using hm
    subst h9
    simp only [vb, List.singleton_append]
    rw [vgo_cons (by omega)]
    have e : (UInt8.ofNat m).toNat = m := by rw [UInt8.toNat_ofNat', Nat.mod_eq_of_lt (by omega)]
    rw [e, if_neg (by omega), if_pos (by omega)]
    rfl
  | succ k ih =>
    intro i m v r hi hm
    have hi10 : i < 10 := by omega
    have hi9 : ¬ i = 9 := by omega
    rw [vb]
    by_cases h : m < 128
    · rw [if_pos h, List.singleton_append, vgo_cons hi10]
      have e : (UInt8.ofNat m).toNat = m := by rw [UInt8.toNat_ofNat', Nat.mod_eq_of_lt (by omega)]
      rw [e, if_neg (fun h => hi9 h.1), if_pos h]
      rfl
    · rw [if_neg h, List.cons_append, vgo_cons hi10]
      have e : (UInt8.ofNat (m % 128 + 128)).toNat = m % 128 + 128 := by rw [UInt8.toNat_ofNat', Nat.mod_eq_of_lt (by omega)]
      rw [e, if_neg (fun h => hi9 h.1), if_neg (by omega), ih (i + 1) (m / 128) _ r (by omega) (by
        rw [Nat.div_lt_iff_lt_mul (by omega)]
        rw [Nat.pow_succ] at hm
        have : 128 ^ k * 128 * 2 = 128 ^ k * 2 * 128 := by ac_rfl
        omega)]
      have e2 : (m % 128 + 128) % 128 = m % 128 := by omega
      have e3 : v + m % 128 * 128 ^ i + m / 128 * 128 ^ (i + 1) = v + m * 128 ^ i := by
        rw [Nat.pow_succ, Nat.mul_comm (128 ^ i) 128, ← Nat.mul_assoc, Nat.add_assoc, ← Nat.add_mul]
        congr 2
        have := Nat.mod_add_div m 128
        omega
      rw [e2, e3]
      simp only [List.length_cons]
      congr 2
      omega
theorem vgo_vput {n : Nat} (hn : n < 18446744073709551616) (r : List UInt8) : vgo 10 0 0 (vput n ++ r) = (n, vsize n, 0) := by
  have h := vgo_vb 9 0 n 0 r rfl (by
    have e : (128 : Nat) ^ 9 = 9223372036854775808 := by decide
    rw [e]; omega)
  simpa [vput, vsize] using h
theorem vget_mid {n : Nat} (l1 l2 : List UInt8) (hn : n < 18446744073709551616) : vget (l1 ++ vput n ++ l2) (l1.length : Nat) = (n, l1.length + vsize n, 0) := by
  have h : vgo 10 0 0 ((l1 ++ vput n ++ l2).drop l1.length) = (n, vsize n, 0) := by
    rw [List.append_assoc, List.drop_left]; exact vgo_vput hn l2
  unfold vget
  rw [if_neg (by simp; omega), Int.toNat_natCast, h]
  rfl

/-- L tells n, and may be told longer: ini go on, x is the last. -/
def Told (n : Nat) (L : List UInt8) (ini : List UInt8) (x : Nat) : Prop :=
  L = ini ++ [UInt8.ofNat x] ∧ x < 128 ∧ ini.length < 10 ∧ (ini.length = 9 → x ≤ 1) ∧ ∃ v, (∀ r, vgo 10 0 0 (ini ++ r) = vgo (10 - ini.length) ini.length v r) ∧ n = v + x * 128 ^ ini.length
theorem told_vb : ∀ (k : Nat) (ini : List UInt8) (n m v : Nat), k + ini.length = 9 → m < 128 ^ k * 2 → (∀ r, vgo 10 0 0 (ini ++ r) = vgo (10 - ini.length) ini.length v r) → n = v + m * 128 ^ ini.length →
    ∃ ini' x, Told n (ini ++ vb k m) ini' x := by
  intro k
  induction k with
  | zero =>
    intro ini n m v hi hm hv hn
    have hm2 : m < 2 := by simpa using hm
    exact ⟨ini, m, rfl, by omega, by omega, fun _ => by omega, v, hv, hn⟩
  | succ k ih =>
    intro ini n m v hi hm hv hn
    rw [vb]
    by_cases h : m < 128
    · rw [if_pos h]; exact ⟨ini, m, rfl, h, by omega, fun e => by omega, v, hv, hn⟩
    · rw [if_neg h]
      have e : (UInt8.ofNat (m % 128 + 128)).toNat = m % 128 + 128 := by rw [UInt8.toNat_ofNat', Nat.mod_eq_of_lt (by omega)]
      have hh := ih (ini ++ [UInt8.ofNat (m % 128 + 128)]) n (m / 128) (v + m % 128 * 128 ^ ini.length) (by simp; omega) (by
        rw [Nat.div_lt_iff_lt_mul (by omega)]
        rw [Nat.pow_succ] at hm
        have : 128 ^ k * 128 * 2 = 128 ^ k * 2 * 128 := by ac_rfl
        omega) (fun r => by
          rw [List.append_assoc, List.singleton_append, hv, vgo_cons (by omega), e, if_neg (by omega), if_neg (by omega)]
          rw [List.length_append, List.length_singleton]
          rw [show (m % 128 + 128) % 128 = m % 128 by omega]) (by
          rw [List.length_append, List.length_singleton, Nat.pow_succ, Nat.mul_comm (128 ^ ini.length) 128, ← Nat.mul_assoc, Nat.add_assoc, ← Nat.add_mul, hn]
          congr 2
          have := Nat.mod_add_div m 128
          omega)
      rw [List.append_assoc, List.singleton_append] at hh
      exact hh
theorem told_vput {n : Nat} (hn : n < 18446744073709551616) : ∃ ini x, Told n (vput n) ini x := by
  have e : (128 : Nat) ^ 9 = 9223372036854775808 := by decide
  exact told_vb 9 [] n n 0 rfl (by rw [e]; omega) (fun r => rfl) (by simp)
theorem told_more {n x : Nat} {L ini : List UInt8} (h : Told n L ini x) (h9 : ini.length + 1 < 9) : Told n (ini ++ [UInt8.ofNat (x + 128)] ++ [UInt8.ofNat 0]) (ini ++ [UInt8.ofNat (x + 128)]) 0 := by
  obtain ⟨rfl, hx, _, _, v, hv, hn⟩ := h
  have e : (UInt8.ofNat (x + 128)).toNat = x + 128 := by rw [UInt8.toNat_ofNat', Nat.mod_eq_of_lt (by omega)]
  refine ⟨rfl, by omega, by simp; omega, fun _ => by omega, v + x * 128 ^ ini.length, fun r => ?_, by rw [Nat.zero_mul]; exact hn⟩
  rw [List.append_assoc, List.singleton_append, hv, vgo_cons (by omega), e, if_neg (by omega), if_neg (by omega), List.length_append, List.length_singleton]
  rw [show (x + 128) % 128 = x by omega]
theorem told_get {n x : Nat} {L ini : List UInt8} (h : Told n L ini x) : vget L 0 = (n, L.length, 0) := by
  obtain ⟨rfl, hx, hl, h9, v, hv, hn⟩ := h
  have e : (UInt8.ofNat x).toNat = x := by rw [UInt8.toNat_ofNat', Nat.mod_eq_of_lt (by omega)]
  have hg : vgo 10 0 0 (ini ++ [UInt8.ofNat x]) = (n, ini.length + 1, 0) := by
    rw [hv, vgo_cons hl, e, if_neg (fun h => by have := h9 h.1; omega), if_pos hx, hn]
  unfold vget
  rw [if_neg (by simp; omega), Int.toNat_zero, List.drop_zero, hg]
  simp
theorem vget_open : ∀ i : Fin 13, vget (List.replicate i.val (UInt8.ofNat 128)) 0 = (0, 0, if i.val < 10 then 2 else 3) := by decide +kernel
end Go.Proofs.YtlgokfgbcohioaaDoor.Plain
