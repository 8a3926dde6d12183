/- WALKS: fixed.raise, cut, read, Get4, Get8 (the program's own) compute fget. -/
import Derived.Test.YtlgokfgbcohioaaDoorLay
import Derived.Laws.BitsAllLaws
namespace Go.Proofs.YtlgokfgbcohioaaDoor
open Go.RowKit Plain

theorem un_take_succ {l : List UInt8} {j : Nat} (h : j < l.length) : un (l.take (j + 1)) = un (l.take j) + 256 ^ j * l[j].toNat := by
  rw [List.take_succ_eq_append_getElem h, un_append]
  simp [un, Nat.min_eq_left (Nat.le_of_lt h)]

theorem orsh32 (v c j : Nat) (hj : j < 4) (hv : v < 256 ^ j) (hc : c < 256) :
    bits BinOp.or IntKind.u32 (v : Int) ((c : Int) % 4294967296 * 2 ^ (8 * j) % 4294967296) = ((v + 256 ^ j * c : Nat) : Int) := by
  have hp : 256 ^ (j + 1) ≤ 256 ^ 4 := Nat.pow_le_pow_right (by omega) (by omega)
  have hk : 256 ^ 4 = 4294967296 := by decide
  rw [Nat.pow_succ] at hp
  have hm : 256 ^ j * c ≤ 256 ^ j * 255 := Nat.mul_le_mul_left _ (by omega)
  have e1 : (c : Int) % 4294967296 = (c : Int) := by omega
  have e2 : (c : Int) * 2 ^ (8 * j) = ((256 ^ j * c : Nat) : Int) := by
    rw [show (2 : Int) ^ (8 * j) = ((256 ^ j : Nat) : Int) by rw [show 256 ^ j = 2 ^ (8 * j) by rw [Nat.pow_mul]]; simp]
    rw [Nat.mul_comm, Int.natCast_mul]
  rw [e1, e2]
  generalize hq : 256 ^ j * c = q at *
  have e3 : (q : Int) % 4294967296 = (q : Int) := by omega
  rw [e3, u32_or_nat _ _ (by omega) (by omega)]
  have e4 : 256 ^ j = 2 ^ (8 * j) := by rw [Nat.pow_mul]
  rw [e4] at hv hq
  rw [← hq, Nat.or_comm, ← Nat.two_pow_add_eq_or_of_lt hv, Nat.add_comm]
theorem raise32_any (A : Option Addr) (n c : Nat) (l : List UInt8) (hn : l.length = n) (h8 : n ≤ 4) (B : Nat) (w : World) (hr : Rd w B A (bcl l)) :
    Calls Tryd.prog 126 #[.slice A n c] w fun e w' => e = .returned (.int .u32 (un l : Nat)) ∧ w = w' := by
  subst hn
  go_enter Tryd.func126, Tryd.ntmps126
  go_wp2
  go_loop [3, 4, 7] (fun v i4 i => ∃ j : Nat, i = .int .i64 j ∧ j ≤ l.length ∧ v = .int .u32 (un (l.take j) : Nat)) (fun _ _ i => l.length - (intOf i).toNat)
  case atStart => exact ⟨0, rfl, by omega, rfl⟩
  case round =>
    obtain ⟨j, rfl, hj, rfl⟩ := hrel
    by_cases hlt : j < l.length
    · obtain ⟨b, off, rfl, hb, hcell⟩ := hr.some_ (by simp [bcl]; omega)
      have hcj := hcell j (by simp [bcl]; exact hlt)
      rw [bcl_get hlt] at hcj
      clear hcell hr
      go_wp2
      go_round
      case rel =>
        have hv := un_lt (l.take j)
        rw [List.length_take, Nat.min_eq_left hj] at hv
        have ho := orsh32 (un (l.take j)) (l[j]).toNat j (by omega) hv (l[j]).toNat_lt
        rw [← un_take_succ hlt] at ho
        exact ⟨j + 1, by go_num, hlt, by rw [← ho]⟩
      case measure => simp [intOf]; omega
    · go_wp2
      go_ret
      obtain rfl : j = l.length := by omega
      exact ⟨congrArg (fun z : Nat => Ending.returned (.int .u32 (z : Int))) (by rw [List.take_length]), rfl⟩
theorem orsh64 (v c j : Nat) (hj : j < 8) (hv : v < 256 ^ j) (hc : c < 256) :
    bits BinOp.or IntKind.u64 (v : Int) ((c : Int) % 18446744073709551616 * 2 ^ (8 * j) % 18446744073709551616) = ((v + 256 ^ j * c : Nat) : Int) := by
  have hp : 256 ^ (j + 1) ≤ 256 ^ 8 := Nat.pow_le_pow_right (by omega) (by omega)
  have hk : 256 ^ 8 = 18446744073709551616 := by decide
  rw [Nat.pow_succ] at hp
  have hm : 256 ^ j * c ≤ 256 ^ j * 255 := Nat.mul_le_mul_left _ (by omega)
  have e1 : (c : Int) % 18446744073709551616 = (c : Int) := by omega
  have e2 : (c : Int) * 2 ^ (8 * j) = ((256 ^ j * c : Nat) : Int) := by
    rw [show (2 : Int) ^ (8 * j) = ((256 ^ j : Nat) : Int) by rw [show 256 ^ j = 2 ^ (8 * j) by rw [Nat.pow_mul]]; simp]
    rw [Nat.mul_comm, Int.natCast_mul]
  rw [e1, e2]
  generalize hq : 256 ^ j * c = q at *
  have e3 : (q : Int) % 18446744073709551616 = (q : Int) := by omega
  rw [e3, u64_or_nat _ _ (by omega) (by omega)]
  have e4 : 256 ^ j = 2 ^ (8 * j) := by rw [Nat.pow_mul]
  rw [e4] at hv hq
  rw [← hq, Nat.or_comm, ← Nat.two_pow_add_eq_or_of_lt hv, Nat.add_comm]
theorem raise64_any (A : Option Addr) (n c : Nat) (l : List UInt8) (hn : l.length = n) (h8 : n ≤ 8) (B : Nat) (w : World) (hr : Rd w B A (bcl l)) :
    Calls Tryd.prog 125 #[.slice A n c] w fun e w' => e = .returned (.int .u64 (un l : Nat)) ∧ w = w' := by
  subst hn
  go_enter Tryd.func125, Tryd.ntmps125
  go_wp2
  go_loop [3, 4, 7] (fun v i4 i => ∃ j : Nat, i = .int .i64 j ∧ j ≤ l.length ∧ v = .int .u64 (un (l.take j) : Nat)) (fun _ _ i => l.length - (intOf i).toNat)
  case atStart => exact ⟨0, rfl, by omega, rfl⟩
  case round =>
    obtain ⟨j, rfl, hj, rfl⟩ := hrel
    by_cases hlt : j < l.length
    · obtain ⟨b, off, rfl, hb, hcell⟩ := hr.some_ (by simp [bcl]; omega)
      have hcj := hcell j (by simp [bcl]; exact hlt)
      rw [bcl_get hlt] at hcj
      clear hcell hr
      go_wp2
      go_round
      case rel =>
        have hv := un_lt (l.take j)
        rw [List.length_take, Nat.min_eq_left hj] at hv
        have ho := orsh64 (un (l.take j)) (l[j]).toNat j (by omega) hv (l[j]).toNat_lt
        rw [← un_take_succ hlt] at ho
        exact ⟨j + 1, by go_num, hlt, by simp only [IntKind.wrap_u64]; rw [← ho]⟩
      case measure => simp [intOf]; omega
    · go_wp2
      go_ret
      obtain rfl : j = l.length := by omega
      exact ⟨congrArg (fun z : Nat => Ending.returned (.int .u64 (z : Int))) (by rw [List.take_length]), rfl⟩

theorem fget_arg (k : Nat) (l : List UInt8) (p : Int) (h : p < 0 ∨ (l.length : Int) < p) : fget k l p = (0, 0, 1) := by unfold fget; rw [if_pos h]
theorem fget_short (k : Nat) (l : List UInt8) (p : Nat) (h : p ≤ l.length) (h2 : l.length < p + k) : fget k l p = (0, 0, 2) := by
  unfold fget; rw [if_neg (by omega), if_pos (by omega)]
theorem fget_ok (k : Nat) (l : List UInt8) (p : Nat) (h2 : p + k ≤ l.length) : fget k l p = (un ((l.drop p).take k), p + k, 0) := by
  unfold fget; rw [if_neg (by omega), if_neg (by omega)]; simp

theorem cut_arg (A : Option Addr) (n c : Nat) (p k : Int) (h : p < 0 ∨ (n : Int) < p) (w : World) :
    Calls Tryd.prog 124 #[.slice A n c, .int .i64 p, .int .i64 k] w fun e w' => e = .returned (.tuple #[.slice none 0 0, .int .i64 1]) ∧ w = w' := by
  by_cases h0 : p < 0
  · go_enter Tryd.func124, Tryd.ntmps124
    go_wp2
    go_ret2
    exact ⟨rfl, rfl⟩
  · have h1 : (n : Int) < p := by omega
    go_enter Tryd.func124, Tryd.ntmps124
    go_wp2
    go_ret2
    exact ⟨rfl, rfl⟩
theorem cut_short (A : Option Addr) (n c p k : Nat) (_hn : n ≤ 9223372036854775807) (_hk : k ≤ 8) (h : p ≤ n) (h2 : n < p + k) (w : World) :
    Calls Tryd.prog 124 #[.slice A n c, .int .i64 p, .int .i64 k] w fun e w' => e = .returned (.tuple #[.slice none 0 0, .int .i64 2]) ∧ w = w' := by
  go_enter Tryd.func124, Tryd.ntmps124
  go_wp2
  go_ret2
  exact ⟨rfl, rfl⟩
theorem cut_ok (b off : Nat) (n c p k : Nat) (hn : c ≤ 9223372036854775807) (hnc : n ≤ c) (hk : k ≤ 8) (hk0 : 0 < k) (h2 : p + k ≤ n) (w : World) :
    Calls Tryd.prog 124 #[.slice (some ⟨b, off, none⟩) n c, .int .i64 p, .int .i64 k] w fun e w' => e = .returned (.tuple #[.slice (some ⟨b, off + p, none⟩) k (c - p), .int .i64 0]) ∧ w = w' := by
  have hcp : ¬ c = p := by omega
  go_enter Tryd.func124, Tryd.ntmps124
  go_wp2
  go_ret2
  rw [show p + k - p = k by omega]
  exact ⟨rfl, rfl⟩
theorem read32_any (A : Option Addr) (n c : Nat) (l : List UInt8) (hn : l.length = n) (hnc : n ≤ c) (hc : c ≤ 9223372036854775807) (p : Int) (B : Nat) (w : World) (hr : Rd w B A (bcl l)) :
    Calls Tryd.prog 123 #[.slice A n c, .int .i64 p, .int .i64 4] w fun e w' =>
      e = .returned (.tuple #[.int .u32 (fget 4 l p).1, .int .i64 (fget 4 l p).2.1, .int .i64 (fget 4 l p).2.2]) ∧ w = w' := by
  subst hn
  by_cases h0 : p < 0 ∨ (l.length : Int) < p
  · rw [fget_arg _ _ _ h0]
    go_enter Tryd.func123, Tryd.ntmps123
    go_wp2_with (go_at_call 124; refine (cut_arg _ _ _ _ _ h0 _).mono ?_; rintro e w1 ⟨rfl, rfl⟩)
    go_ret3
    exact ⟨rfl, rfl⟩
  · obtain ⟨q, rfl⟩ : ∃ q : Nat, p = q := ⟨p.toNat, by omega⟩
    have h1 : q ≤ l.length := by omega
    clear h0
    by_cases h2 : l.length < q + 4
    · rw [fget_short _ _ _ h1 h2]
      go_enter Tryd.func123, Tryd.ntmps123
      go_wp2_with (go_at_call 124; refine (cut_short _ _ _ _ 4 (by omega) (by omega) h1 h2 _).mono ?_; rintro e w1 ⟨rfl, rfl⟩)
      go_ret3
      exact ⟨rfl, rfl⟩
    · rw [fget_ok _ _ _ (by omega)]
      obtain ⟨b, off, rfl, hb, hcell⟩ := hr.some_ (by simp [bcl]; omega)
      have hr2 : Rd w B (some ⟨b, off + q, none⟩) (bcl ((l.drop q).take 4)) := by
        have h := (hr.drop (k := q) (cap := c) (size := 1) (by simp [bcl]; omega)).take 4
        rw [if_neg (by omega)] at h
        simpa [bcl, Addr.add_lit] using h
      clear hcell hr
      go_enter Tryd.func123, Tryd.ntmps123
      go_wp2_with (first
        | (go_at_call 124; refine (cut_ok b off l.length c q 4 (by omega) (by omega) (by omega) (by omega) (by omega) _).mono ?_; rintro e w1 ⟨rfl, rfl⟩)
        | (go_at_call 126; refine (raise32_any _ 4 _ ((l.drop q).take 4) (by simp; omega) (by omega) B _ hr2).mono ?_; rintro e w1 ⟨rfl, rfl⟩))
      go_ret3
      exact ⟨rfl, rfl⟩
theorem read64_any (A : Option Addr) (n c : Nat) (l : List UInt8) (hn : l.length = n) (hnc : n ≤ c) (hc : c ≤ 9223372036854775807) (p : Int) (B : Nat) (w : World) (hr : Rd w B A (bcl l)) :
    Calls Tryd.prog 122 #[.slice A n c, .int .i64 p, .int .i64 8] w fun e w' =>
      e = .returned (.tuple #[.int .u64 (fget 8 l p).1, .int .i64 (fget 8 l p).2.1, .int .i64 (fget 8 l p).2.2]) ∧ w = w' := by
  subst hn
  by_cases h0 : p < 0 ∨ (l.length : Int) < p
  · rw [fget_arg _ _ _ h0]
    go_enter Tryd.func122, Tryd.ntmps122
    go_wp2_with (go_at_call 124; refine (cut_arg _ _ _ _ _ h0 _).mono ?_; rintro e w1 ⟨rfl, rfl⟩)
    go_ret3
    exact ⟨rfl, rfl⟩
  · obtain ⟨q, rfl⟩ : ∃ q : Nat, p = q := ⟨p.toNat, by omega⟩
    have h1 : q ≤ l.length := by omega
    clear h0
    by_cases h2 : l.length < q + 8
    · rw [fget_short _ _ _ h1 h2]
      go_enter Tryd.func122, Tryd.ntmps122
      go_wp2_with (go_at_call 124; refine (cut_short _ _ _ _ 8 (by omega) (by omega) h1 h2 _).mono ?_; rintro e w1 ⟨rfl, rfl⟩)
      go_ret3
      exact ⟨rfl, rfl⟩
    · rw [fget_ok _ _ _ (by omega)]
      obtain ⟨b, off, rfl, hb, hcell⟩ := hr.some_ (by simp [bcl]; omega)
      have hr2 : Rd w B (some ⟨b, off + q, none⟩) (bcl ((l.drop q).take 8)) := by
        have h := (hr.drop (k := q) (cap := c) (size := 1) (by simp [bcl]; omega)).take 8
        rw [if_neg (by omega)] at h
        simpa [bcl, Addr.add_lit] using h
      clear hcell hr
      go_enter Tryd.func122, Tryd.ntmps122
      go_wp2_with (first
        | (go_at_call 124; refine (cut_ok b off l.length c q 8 (by omega) (by omega) (by omega) (by omega) (by omega) _).mono ?_; rintro e w1 ⟨rfl, rfl⟩)
        | (go_at_call 125; refine (raise64_any _ 8 _ ((l.drop q).take 8) (by simp; omega) (by omega) B _ hr2).mono ?_; rintro e w1 ⟨rfl, rfl⟩))
      go_ret3
      exact ⟨rfl, rfl⟩
theorem get4_any (A : Option Addr) (n c : Nat) (l : List UInt8) (hn : l.length = n) (hnc : n ≤ c) (hc : c ≤ 9223372036854775807) (p : Int) (B : Nat) (w : World) (hr : Rd w B A (bcl l)) :
    Calls Tryd.prog 118 #[.slice A n c, .int .i64 p] w fun e w' =>
      e = .returned (.tuple #[.int .u32 (fget 4 l p).1, .int .i64 (fget 4 l p).2.1, .int .i64 (fget 4 l p).2.2]) ∧ w = w' := by
  go_enter Tryd.func118, Tryd.ntmps118
  go_wp2_with fail
  refine (read32_any A n c l hn hnc hc p B _ hr).mono ?_
  rintro e w1 ⟨rfl, rfl⟩
  go_wp2
  go_ret3
  exact ⟨rfl, rfl⟩
theorem get8_any (A : Option Addr) (n c : Nat) (l : List UInt8) (hn : l.length = n) (hnc : n ≤ c) (hc : c ≤ 9223372036854775807) (p : Int) (B : Nat) (w : World) (hr : Rd w B A (bcl l)) :
    Calls Tryd.prog 117 #[.slice A n c, .int .i64 p] w fun e w' =>
      e = .returned (.tuple #[.int .u64 (fget 8 l p).1, .int .i64 (fget 8 l p).2.1, .int .i64 (fget 8 l p).2.2]) ∧ w = w' := by
  go_enter Tryd.func117, Tryd.ntmps117
  go_wp2_with fail
  refine (read64_any A n c l hn hnc hc p B _ hr).mono ?_
  rintro e w1 ⟨rfl, rfl⟩
  go_wp2
  go_ret3
  exact ⟨rfl, rfl⟩
end Go.Proofs.YtlgokfgbcohioaaDoor
