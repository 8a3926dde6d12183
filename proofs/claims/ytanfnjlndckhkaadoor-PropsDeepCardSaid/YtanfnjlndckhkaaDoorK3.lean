/- Several texts in one: words, plain laws and walks that the statement's proof imports. -/
import Derived.Test.YtanfnjlndckhkaaDoorK2
import Derived.Laws.BitsAllLaws
import Derived.Test.YtanfnjlndckhkaaDoorProg
import Derived.Test.YtanfnjlndckhkaaDoorK1
import Derived.RangeFuncBox
import Derived.RangeFuncLeaves
import Derived.RangeFuncWrites
import Derived.Shelf.Abstract
import Derived.OwnWalkIn
import Derived.TacticsInMore
import Derived.LoopNIn
import Derived.LoopIn
import Derived.WalkMore
import Derived.ControlIn
import Derived.RegionTactic
import Derived.RegionIn
import Derived.Shelf.RegionOpen
import Derived.RangeFuncCalls
import Derived.BigQuiet
import Derived.Deep.QuietTactic
/- WALKS: fixed.raise, cut, read, Get4, Get8 (the program's own) compute fget. -/
namespace Go.Proofs.YtanfnjlndckhkaaDoor
open Go.RowKit Plain

theorem un_take_succ {l : List UInt8} {j : Nat} (h : j < l.length) : un (l.take (j + 1)) = un (l.take j) + 256 ^ j * l[j].toNat := by
  rw [List.take_succ_eq_append_getElem h, un_append]
  simp [un, Nat.min_eq_left (Nat.le_of_lt h)]

theorem orsh32 (v c j : Nat) (hj : j < 4) (hv : v < 256 ^ j) (hc : c < 256) :
    bits BinOp.or IntKind.u32 (v : Int) ((c : Int) % 4294967296 * 2 ^ (8 * j) % 4294967296) = ((v + 256 ^ j * c : Nat) : Int) := by
  have hp : 256 ^ (j + 1) ≤ 256 ^ 4 := Nat.pow_le_pow_right (by omega) (by omega)
  have hk : 256 ^ 4 = 4294967296 := by decide
  rw [Nat.pow_succ] at hp
  have hm : 256 ^ j * c ≤ 256 ^ j * 255 := Nat.mul_le_mul_left _ (by omega)
  have e1 : (c : Int) % 4294967296 = (c : Int) := by omega
  have e2 : (c : Int) * 2 ^ (8 * j) = ((256 ^ j * c : Nat) : Int) := by
    rw [show (2 : Int) ^ (8 * j) = ((256 ^ j : Nat) : Int) by rw [show 256 ^ j = 2 ^ (8 * j) by rw [Nat.pow_mul]]; simp]
    rw [Nat.mul_comm, Int.natCast_mul]
  rw [e1, e2]
  generalize hq : 256 ^ j * c = q at *
  have e3 : (q : Int) % 4294967296 = (q : Int) := by omega
  rw [e3, u32_or_nat _ _ (by omega) (by omega)]
  have e4 : 256 ^ j = 2 ^ (8 * j) := by rw [Nat.pow_mul]
  rw [e4] at hv hq
  rw [← hq, Nat.or_comm, ← Nat.two_pow_add_eq_or_of_lt hv, Nat.add_comm]
theorem raise32_any (A : Option Addr) (n c : Nat) (l : List UInt8) (hn : l.length = n) (h8 : n ≤ 4) (B : Nat) (w : World) (hr : Rd w B A (bcl l)) :
    Calls Tryd.prog 124 #[.slice A n c] w fun e w' => e = .returned (.int .u32 (un l : Nat)) ∧ w = w' := by
  subst hn
  go_enter Tryd.func124, Tryd.ntmps124
  go_wp2
  go_loop [3, 4, 7] (fun v i4 i => ∃ j : Nat, i = .int .i64 j ∧ j ≤ l.length ∧ v = .int .u32 (un (l.take j) : Nat)) (fun _ _ i => l.length - (intOf i).toNat)
  case atStart => exact ⟨0, rfl, by omega, rfl⟩
  case round =>
    obtain ⟨j, rfl, hj, rfl⟩ := hrel
    by_cases hlt : j < l.length
    · obtain ⟨b, off, rfl, hb, hcell⟩ := hr.some_ (by simp [bcl]; omega)
      have hcj := hcell j (by simp [bcl]; exact hlt)
      rw [bcl_get hlt] at hcj
      clear hcell hr
      go_wp2
      go_round
      case rel =>
        have hv := un_lt (l.take j)
        rw [List.length_take, Nat.min_eq_left hj] at hv
        have ho := orsh32 (un (l.take j)) (l[j]).toNat j (by omega) hv (l[j]).toNat_lt
        rw [← un_take_succ hlt] at ho
        exact ⟨j + 1, by go_num, hlt, by rw [← ho]⟩
      case measure => simp [intOf]; omega
    · go_wp2
      go_ret
      obtain rfl : j = l.length := by omega
      exact ⟨congrArg (fun z : Nat => Ending.returned (.int .u32 (z : Int))) (by rw [List.take_length]), rfl⟩
theorem orsh64 (v c j : Nat) (hj : j < 8) (hv : v < 256 ^ j) (hc : c < 256) :
    bits BinOp.or IntKind.u64 (v : Int) ((c : Int) % 18446744073709551616 * 2 ^ (8 * j) % 18446744073709551616) = ((v + 256 ^ j * c : Nat) : Int) := by
  have hp : 256 ^ (j + 1) ≤ 256 ^ 8 := Nat.pow_le_pow_right (by omega) (by omega)
  have hk : 256 ^ 8 = 18446744073709551616 := by decide
  rw [Nat.pow_succ] at hp
  have hm : 256 ^ j * c ≤ 256 ^ j * 255 := Nat.mul_le_mul_left _ (by omega)
  have e1 : (c : Int) % 18446744073709551616 = (c : Int) := by omega
  have e2 : (c : Int) * 2 ^ (8 * j) = ((256 ^ j * c : Nat) : Int) := by
    rw [show (2 : Int) ^ (8 * j) = ((256 ^ j : Nat) : Int) by rw [show 256 ^ j = 2 ^ (8 * j) by rw [Nat.pow_mul]]; simp]
    rw [Nat.mul_comm, Int.natCast_mul]
  rw [e1, e2]
  generalize hq : 256 ^ j * c = q at *
  have e3 : (q : Int) % 18446744073709551616 = (q : Int) := by omega
  rw [e3, u64_or_nat _ _ (by omega) (by omega)]
  have e4 : 256 ^ j = 2 ^ (8 * j) := by rw [Nat.pow_mul]
  rw [e4] at hv hq
  rw [← hq, Nat.or_comm, ← Nat.two_pow_add_eq_or_of_lt hv, Nat.add_comm]
theorem raise64_any (A : Option Addr) (n c : Nat) (l : List UInt8) (hn : l.length = n) (h8 : n ≤ 8) (B : Nat) (w : World) (hr : Rd w B A (bcl l)) :
    Calls Tryd.prog 123 #[.slice A n c] w fun e w' => e = .returned (.int .u64 (un l : Nat)) ∧ w = w' := by
  subst hn
  go_enter Tryd.func123, Tryd.ntmps123
  go_wp2
  go_loop [3, 4, 7] (fun v i4 i => ∃ j : Nat, i = .int .i64 j ∧ j ≤ l.length ∧ v = .int .u64 (un (l.take j) : Nat)) (fun _ _ i => l.length - (intOf i).toNat)
  case atStart => exact ⟨0, rfl, by omega, rfl⟩
  case round =>
    obtain ⟨j, rfl, hj, rfl⟩ := hrel
    by_cases hlt : j < l.length
    · obtain ⟨b, off, rfl, hb, hcell⟩ := hr.some_ (by simp [bcl]; omega)
      have hcj := hcell j (by simp [bcl]; exact hlt)
      rw [bcl_get hlt] at hcj
      clear hcell hr
      go_wp2
      go_round
      case rel =>
        have hv := un_lt (l.take j)
        rw [List.length_take, Nat.min_eq_left hj] at hv
        have ho := orsh64 (un (l.take j)) (l[j]).toNat j (by omega) hv (l[j]).toNat_lt
        rw [← un_take_succ hlt] at ho
        exact ⟨j + 1, by go_num, hlt, by simp only [IntKind.wrap_u64]; rw [← ho]⟩
      case measure => simp [intOf]; omega
    · go_wp2
      go_ret
      obtain rfl : j = l.length := by omega
      exact ⟨congrArg (fun z : Nat => Ending.returned (.int .u64 (z : Int))) (by rw [List.take_length]), rfl⟩

theorem fget_arg (k : Nat) (l : List UInt8) (p : Int) (h : p < 0 ∨ (l.length : Int) < p) : fget k l p = (0, 0, 1) := by unfold fget; rw [if_pos h]
theorem fget_short (k : Nat) (l : List UInt8) (p : Nat) (h : p ≤ l.length) (h2 : l.length < p + k) : fget k l p = (0, 0, 2) := by
  unfold fget; rw [if_neg (by omega), if_pos (by omega)]
theorem fget_ok (k : Nat) (l : List UInt8) (p : Nat) (h2 : p + k ≤ l.length) : fget k l p = (un ((l.drop p).take k), p + k, 0) := by
  unfold fget; rw [if_neg (by omega), if_neg (by omega)]; simp

theorem cut_arg (A : Option Addr) (n c : Nat) (p k : Int) (h : p < 0 ∨ (n : Int) < p) (w : World) :
    Calls Tryd.prog 122 #[.slice A n c, .int .i64 p, .int .i64 k] w fun e w' => e = .returned (.tuple #[.slice none 0 0, .int .i64 1]) ∧ w = w' := by
  by_cases h0 : p < 0
  · go_enter Tryd.func122, Tryd.ntmps122
    go_wp2
    go_ret2
    exact ⟨rfl, rfl⟩
  · have h1 : (n : Int) < p := by omega
    go_enter Tryd.func122, Tryd.ntmps122
    go_wp2
    go_ret2
    exact ⟨rfl, rfl⟩
theorem cut_short (A : Option Addr) (n c p k : Nat) (_hn : n ≤ 9223372036854775807) (_hk : k ≤ 8) (h : p ≤ n) (h2 : n < p + k) (w : World) :
    Calls Tryd.prog 122 #[.slice A n c, .int .i64 p, .int .i64 k] w fun e w' => e = .returned (.tuple #[.slice none 0 0, .int .i64 2]) ∧ w = w' := by
  go_enter Tryd.func122, Tryd.ntmps122
  go_wp2
  go_ret2
  exact ⟨rfl, rfl⟩
theorem cut_ok (b off : Nat) (n c p k : Nat) (hn : c ≤ 9223372036854775807) (hnc : n ≤ c) (hk : k ≤ 8) (hk0 : 0 < k) (h2 : p + k ≤ n) (w : World) :
    Calls Tryd.prog 122 #[.slice (some ⟨b, off, none⟩) n c, .int .i64 p, .int .i64 k] w fun e w' => e = .returned (.tuple #[.slice (some ⟨b, off + p, none⟩) k (c - p), .int .i64 0]) ∧ w = w' := by
  have hcp : ¬ c = p := by omega
  go_enter Tryd.func122, Tryd.ntmps122
  go_wp2
  go_ret2
  rw [show p + k - p = k by omega]
  exact ⟨rfl, rfl⟩
theorem read32_any (A : Option Addr) (n c : Nat) (l : List UInt8) (hn : l.length = n) (hnc : n ≤ c) (hc : c ≤ 9223372036854775807) (p : Int) (B : Nat) (w : World) (hr : Rd w B A (bcl l)) :
    Calls Tryd.prog 121 #[.slice A n c, .int .i64 p, .int .i64 4] w fun e w' =>
      e = .returned (.tuple #[.int .u32 (fget 4 l p).1, .int .i64 (fget 4 l p).2.1, .int .i64 (fget 4 l p).2.2]) ∧ w = w' := by
  subst hn
  by_cases h0 : p < 0 ∨ (l.length : Int) < p
  · rw [fget_arg _ _ _ h0]
    go_enter Tryd.func121, Tryd.ntmps121
    go_wp2_with (go_at_call 122; refine (cut_arg _ _ _ _ _ h0 _).mono ?_; rintro e w1 ⟨rfl, rfl⟩)
    go_ret3
    exact ⟨rfl, rfl⟩
  · obtain ⟨q, rfl⟩ : ∃ q : Nat, p = q := ⟨p.toNat, by omega⟩
    have h1 : q ≤ l.length := by omega
    clear h0
    by_cases h2 : l.length < q + 4
    · rw [fget_short _ _ _ h1 h2]
      go_enter Tryd.func121, Tryd.ntmps121
      go_wp2_with (go_at_call 122; refine (cut_short _ _ _ _ 4 (by omega) (by omega) h1 h2 _).mono ?_; rintro e w1 ⟨rfl, rfl⟩)
      go_ret3
      exact ⟨rfl, rfl⟩
    · rw [fget_ok _ _ _ (by omega)]
      obtain ⟨b, off, rfl, hb, hcell⟩ := hr.some_ (by simp [bcl]; omega)
      have hr2 : Rd w B (some ⟨b, off + q, none⟩) (bcl ((l.drop q).take 4)) := by
        have h := (hr.drop (k := q) (cap := c) (size := 1) (by simp [bcl]; omega)).take 4
        rw [if_neg (by omega)] at h
        simpa [bcl, Addr.add_lit] using h
      clear hcell hr
      go_enter Tryd.func121, Tryd.ntmps121
      go_wp2_with (first
        | (go_at_call 122; refine (cut_ok b off l.length c q 4 (by omega) (by omega) (by omega) (by omega) (by omega) _).mono ?_; rintro e w1 ⟨rfl, rfl⟩)
        | (go_at_call 124; refine (raise32_any _ 4 _ ((l.drop q).take 4) (by simp; omega) (by omega) B _ hr2).mono ?_; rintro e w1 ⟨rfl, rfl⟩))
      go_ret3
      exact ⟨rfl, rfl⟩
theorem read64_any (A : Option Addr) (n c : Nat) (l : List UInt8) (hn : l.length = n) (hnc : n ≤ c) (hc : c ≤ 9223372036854775807) (p : Int) (B : Nat) (w : World) (hr : Rd w B A (bcl l)) :
    Calls Tryd.prog 120 #[.slice A n c, .int .i64 p, .int .i64 8] w fun e w' =>
      e = .returned (.tuple #[.int .u64 (fget 8 l p).1, .int .i64 (fget 8 l p).2.1, .int .i64 (fget 8 l p).2.2]) ∧ w = w' := by
  subst hn
  by_cases h0 : p < 0 ∨ (l.length : Int) < p
  · rw [fget_arg _ _ _ h0]
    go_enter Tryd.func120, Tryd.ntmps120
    go_wp2_with (go_at_call 122; refine (cut_arg _ _ _ _ _ h0 _).mono ?_; rintro e w1 ⟨rfl, rfl⟩)
    go_ret3
    exact ⟨rfl, rfl⟩
  · obtain ⟨q, rfl⟩ : ∃ q : Nat, p = q := ⟨p.toNat, by omega⟩
    have h1 : q ≤ l.length := by omega
    clear h0
    by_cases h2 : l.length < q + 8
    · rw [fget_short _ _ _ h1 h2]
      go_enter Tryd.func120, Tryd.ntmps120
      go_wp2_with (go_at_call 122; refine (cut_short _ _ _ _ 8 (by omega) (by omega) h1 h2 _).mono ?_; rintro e w1 ⟨rfl, rfl⟩)
      go_ret3
      exact ⟨rfl, rfl⟩
    · rw [fget_ok _ _ _ (by omega)]
      obtain ⟨b, off, rfl, hb, hcell⟩ := hr.some_ (by simp [bcl]; omega)
      have hr2 : Rd w B (some ⟨b, off + q, none⟩) (bcl ((l.drop q).take 8)) := by
        have h := (hr.drop (k := q) (cap := c) (size := 1) (by simp [bcl]; omega)).take 8
        rw [if_neg (by omega)] at h
        simpa [bcl, Addr.add_lit] using h
      clear hcell hr
      go_enter Tryd.func120, Tryd.ntmps120
      go_wp2_with (first
        | (go_at_call 122; refine (cut_ok b off l.length c q 8 (by omega) (by omega) (by omega) (by omega) (by omega) _).mono ?_; rintro e w1 ⟨rfl, rfl⟩)
        | (go_at_call 123; refine (raise64_any _ 8 _ ((l.drop q).take 8) (by simp; omega) (by omega) B _ hr2).mono ?_; rintro e w1 ⟨rfl, rfl⟩))
      go_ret3
      exact ⟨rfl, rfl⟩
theorem get4_any (A : Option Addr) (n c : Nat) (l : List UInt8) (hn : l.length = n) (hnc : n ≤ c) (hc : c ≤ 9223372036854775807) (p : Int) (B : Nat) (w : World) (hr : Rd w B A (bcl l)) :
    Calls Tryd.prog 118 #[.slice A n c, .int .i64 p] w fun e w' =>
      e = .returned (.tuple #[.int .u32 (fget 4 l p).1, .int .i64 (fget 4 l p).2.1, .int .i64 (fget 4 l p).2.2]) ∧ w = w' := by
  go_enter Tryd.func118, Tryd.ntmps118
  go_wp2_with fail
  refine (read32_any A n c l hn hnc hc p B _ hr).mono ?_
  rintro e w1 ⟨rfl, rfl⟩
  go_wp2
  go_ret3
  exact ⟨rfl, rfl⟩
theorem get8_any (A : Option Addr) (n c : Nat) (l : List UInt8) (hn : l.length = n) (hnc : n ≤ c) (hc : c ≤ 9223372036854775807) (p : Int) (B : Nat) (w : World) (hr : Rd w B A (bcl l)) :
    Calls Tryd.prog 117 #[.slice A n c, .int .i64 p] w fun e w' =>
      e = .returned (.tuple #[.int .u64 (fget 8 l p).1, .int .i64 (fget 8 l p).2.1, .int .i64 (fget 8 l p).2.2]) ∧ w = w' := by
  go_enter Tryd.func117, Tryd.ntmps117
  go_wp2_with fail
  refine (read64_any A n c l hn hnc hc p B _ hr).mono ?_
  rintro e w1 ⟨rfl, rfl⟩
  go_wp2
  go_ret3
  exact ⟨rfl, rfl⟩
end Go.Proofs.YtanfnjlndckhkaaDoor

/- WALKS: the reference of layer 2: put, get and what is over them. -/
namespace Go.Proofs.YtanfnjlndckhkaaDoor
open Go.RowKit Plain

theorem leTo_snoc (k n : Nat) : le (k + 1) n = le k n ++ [leB n k] := by simp [le, List.range_succ]

set_option maxHeartbeats 400000 in
theorem rput_any (n k : Nat) (hn : n < 18446744073709551616) (hk : k ≤ 8) (w : World) :
    Calls Tryd.prog 106 #[.int .u64 n, .int .i64 k] w fun e w' => ∃ A c, e = .returned (.slice A k c) ∧
      w'.ownsRow w.heap.size 5 1 (.slice A k c) k (bcl (le k n)) ∧ Below w.heap.size w w' := by
  go_enter Tryd.func106, Tryd.ntmps106
  go_wp2
  go_loopw [5, 6, 7] (fun v x i wr => ∃ (j : Nat) (A : Option Addr) (c : Nat), i = .int .i64 j ∧ j ≤ k ∧ x = .int .u64 (n / 256 ^ j : Nat) ∧ v = .slice A j c ∧
      wr.ownsRow w.heap.size 5 1 (.slice A j c) j (bcl (le j n)) ∧ Below w.heap.size w wr) (fun _ _ i _ => k - (intOf i).toNat)
  case atStart => exact ⟨0, none, 0, rfl, by omega, by simp, rfl, World.ownsRow_nil _ _ _ _, Below.refl _ _⟩
  case round =>
    obtain ⟨j, A, c, rfl, hj, rfl, rfl, hx, hB⟩ := hrel
    have hb0 := hB.size
    have hq : n / 256 ^ j < 18446744073709551616 := Nat.lt_of_le_of_lt (Nat.div_le_self _ _) hn
    have hq2 : n / 256 ^ (j + 1) = n / 256 ^ j / 256 := by rw [Nat.pow_succ, Nat.div_div_eq_div_mul]
    have hq3 : (leB n j).toNat = n / 256 ^ j % 256 := by simp [leB]
    have HQ := Lib.hid hq2
    have HQ3 := Lib.hid hq3
    clear hq2 hq3
    generalize hm : n / 256 ^ j = m at *
    have HM := Lib.hid hm
    clear hm
    by_cases hlt : j < k
    · go_wp2_with (at_builtin; refine wpList_app1 rfl _ _ _ rfl elemB rfl hx rfl rfl (by intro u hu; simp at hu; subst hu; rfl) (by unfold maxLen; omega) (by omega) hb0 ?_; intro A1 c1 w2 hown2 hg2 _)
      go_roundw
      case rel =>
        refine ⟨j + 1, A1, c1, by go_num, hlt, by rw [HQ.out]; go_num, rfl, ?_, own_grown hB hx hb0 hg2⟩
        rw [leTo_snoc, byte_app]
        have e : bcl [leB n j] = [.int .u8 ((m : Int) % 256)] := by simp [bcl, HQ3.out]
        rw [e]
        simpa using hown2
      case measure => simp [intOf]; omega
    · obtain rfl : j = k := by omega
      go_wp2
      go_ret
      exact ⟨A, c, rfl, hx, hB⟩

theorem un_down {l : List UInt8} {q i k : Nat} (hi : i < k) (h : q + k ≤ l.length) :
    un ((l.drop (q + i)).take (k - i)) = 256 * un ((l.drop (q + (i + 1))).take (k - (i + 1))) + (l[q + i]'(by omega)).toNat := by
  rw [List.drop_eq_getElem_cons (show q + i < l.length by omega), show k - i = (k - (i + 1)) + 1 by omega, List.take_succ_cons, un]
  rw [Nat.add_comm, Nat.add_assoc]
theorem un_take_lt (l : List UInt8) (q k : Nat) (hk : k ≤ 7) : un ((l.drop q).take k) < 72057594037927936 := by
  have h := un_lt ((l.drop q).take k)
  have h2 : 256 ^ ((l.drop q).take k).length ≤ 256 ^ 7 := Nat.pow_le_pow_right (by omega) (by simp; omega)
  omega
theorem un_take_lt8 (l : List UInt8) (q k : Nat) (hk : k ≤ 8) : un ((l.drop q).take k) < 18446744073709551616 := by
  have h := un_lt ((l.drop q).take k)
  have h2 : 256 ^ ((l.drop q).take k).length ≤ 256 ^ 8 := Nat.pow_le_pow_right (by omega) (by simp; omega)
  omega

set_option maxHeartbeats 400000 in
theorem rget_any (A : Option Addr) (n c : Nat) (l : List UInt8) (hn : l.length = n) (hc : l.length ≤ 9223372036854775807) (p : Int) (k : Nat) (hk : k ≤ 8) (hk0 : 0 < k) (B : Nat) (w : World) (hr : Rd w B A (bcl l)) :
    Calls Tryd.prog 115 #[.slice A n c, .int .i64 p, .int .i64 k] w fun e w' =>
      e = .returned (.tuple #[.int .u64 (fget k l p).1, .int .i64 (fget k l p).2.1, .int .i64 (fget k l p).2.2]) ∧ w = w' := by
  subst hn
  by_cases h0 : p < 0 ∨ (l.length : Int) < p
  · rw [fget_arg _ _ _ h0]
    by_cases h1 : p < 0
    · go_enter Tryd.func115, Tryd.ntmps115
      go_wp2
      go_ret3
      exact ⟨rfl, rfl⟩
    · have h2 : (l.length : Int) < p := by omega
      clear h0
      go_enter Tryd.func115, Tryd.ntmps115
      go_wp2
      go_ret3
      exact ⟨rfl, rfl⟩
  · obtain ⟨q, rfl⟩ : ∃ q : Nat, p = q := ⟨p.toNat, by omega⟩
    have h1 : q ≤ l.length := by omega
    clear h0
    by_cases h2 : l.length < q + k
    · rw [fget_short _ _ _ h1 h2]
      go_enter Tryd.func115, Tryd.ntmps115
      go_wp2
      go_ret3
      exact ⟨rfl, rfl⟩
    · rw [fget_ok _ _ _ (by omega)]
      obtain ⟨b, off, rfl, hb, hcell⟩ := hr.some_ (by simp [bcl]; omega)
      clear hr
      have HC := Lib.hid hcell
      clear hcell
      go_enter Tryd.func115, Tryd.ntmps115
      go_wp2
      go_loop [9, 10] (fun v x => ∃ j : Nat, x = .int .i64 ((j : Int) - 1) ∧ j ≤ k ∧ v = .int .u64 (un ((l.drop (q + j)).take (k - j)) : Nat)) (fun _ x => (intOf x + 1).toNat)
      case atStart => exact ⟨k, rfl, by omega, by simp [un]⟩
      case round =>
        obtain ⟨j, rfl, hj, rfl⟩ := hrel
        by_cases hj0 : j = 0
        · subst hj0
          go_wp2
          go_ret3
          exact ⟨rfl, rfl⟩
        · obtain ⟨i, rfl⟩ : ∃ i, j = i + 1 := ⟨j - 1, by omega⟩
          rw [show (((i + 1 : Nat) : Int) - 1) = (i : Int) by omega]
          have hcj := HC.out (q + i) (by simp [bcl]; omega)
          rw [bcl_get (show q + i < l.length by omega)] at hcj
          have hv := un_take_lt l (q + (i + 1)) (k - (i + 1)) (by omega)
          have HU := Lib.hid (un_down (l := l) (q := q) (i := i) (k := k) (by omega) (by omega))
          have hlt := (l[q + i]'(by omega)).toNat_lt
          generalize un ((l.drop (q + (i + 1))).take (k - (i + 1))) = v at *
          generalize (l[q + i]'(by omega)).toNat = x at *
          go_wp2
          go_round
          case rel => exact ⟨i, by go_num, by omega, by rw [HU.out]; go_num⟩
          case measure => simp [intOf]

theorem fget_lt (l : List UInt8) (p : Int) : (fget 4 l p).1 < 4294967296 := by
  unfold fget
  split
  · simp
  · split
    · simp
    · have h := un_lt ((l.drop p.toNat).take 4)
      have h2 : 256 ^ ((l.drop p.toNat).take 4).length ≤ 256 ^ 4 := Nat.pow_le_pow_right (by omega) (by simp; omega)
      simp only
      omega
theorem rget4_any (A : Option Addr) (n c : Nat) (l : List UInt8) (hn : l.length = n) (hc : l.length ≤ 9223372036854775807) (p : Int) (B : Nat) (w : World) (hr : Rd w B A (bcl l)) :
    Calls Tryd.prog 104 #[.slice A n c, .int .i64 p] w fun e w' =>
      e = .returned (.tuple #[.int .u32 (fget 4 l p).1, .int .i64 (fget 4 l p).2.1, .int .i64 (fget 4 l p).2.2]) ∧ w = w' := by
  have hb := fget_lt l p
  go_enter Tryd.func104, Tryd.ntmps104
  go_wp2_with fail
  refine (rget_any A n c l hn hc p 4 (by omega) (by omega) B _ hr).mono ?_
  rintro e w1 ⟨rfl, rfl⟩
  go_wp2
  go_ret3
  exact ⟨rfl, rfl⟩
theorem rget8_any (A : Option Addr) (n c : Nat) (l : List UInt8) (hn : l.length = n) (hc : l.length ≤ 9223372036854775807) (p : Int) (B : Nat) (w : World) (hr : Rd w B A (bcl l)) :
    Calls Tryd.prog 103 #[.slice A n c, .int .i64 p] w fun e w' =>
      e = .returned (.tuple #[.int .u64 (fget 8 l p).1, .int .i64 (fget 8 l p).2.1, .int .i64 (fget 8 l p).2.2]) ∧ w = w' := by
  go_enter Tryd.func103, Tryd.ntmps103
  go_wp2_with fail
  refine (rget_any A n c l hn hc p 8 (by omega) (by omega) B _ hr).mono ?_
  rintro e w1 ⟨rfl, rfl⟩
  go_wp2
  go_ret3
  exact ⟨rfl, rfl⟩
theorem rput4_any (n : Nat) (hn : n < 4294967296) (w : World) :
    Calls Tryd.prog 80 #[.int .u32 n] w fun e w' => ∃ A c, e = .returned (.slice A 4 c) ∧
      w'.ownsRow w.heap.size 5 1 (.slice A 4 c) 4 (bcl (le 4 n)) ∧ Below w.heap.size w w' := by
  go_enter Tryd.func80, Tryd.ntmps80
  go_wp2_with fail
  refine (rput_any n 4 (by omega) (by omega) _).mono ?_
  rintro e w1 ⟨A, c, rfl, hown, hB⟩
  go_wp2
  go_ret
  exact ⟨A, c, rfl, hown, hB⟩
theorem rput8_any (n : Nat) (hn : n < 18446744073709551616) (w : World) :
    Calls Tryd.prog 79 #[.int .u64 n] w fun e w' => ∃ A c, e = .returned (.slice A 8 c) ∧
      w'.ownsRow w.heap.size 5 1 (.slice A 8 c) 8 (bcl (le 8 n)) ∧ Below w.heap.size w w' := by
  go_enter Tryd.func79, Tryd.ntmps79
  go_wp2_with fail
  refine (rput_any n 8 hn (by omega) _).mono ?_
  rintro e w1 ⟨A, c, rfl, hown, hB⟩
  go_wp2
  go_ret
  exact ⟨A, c, rfl, hown, hB⟩

end Go.Proofs.YtanfnjlndckhkaaDoor

/- PLAIN LAW: what the fields are like that were read of bytes. -/
namespace Go.Proofs.YtanfnjlndckhkaaDoor
open Go.RowKit Plain

/-- what a field that was read is like -/
def FldRd (f : Fld) : Prop := 1 ≤ f.num ∧ f.num < 536870912 ∧ 0 ≤ f.kind ∧ f.kind < 8 ∧ f.val < 18446744073709551616 ∧ f.text.size ≤ 4096
theorem fget_ltR (k : Nat) (hk : k ≤ 8) (b : List UInt8) (p : Int) : (fget k b p).1 < 18446744073709551616 := by
  unfold fget
  split
  · simp
  split
  · simp
  · exact un_take_lt8 _ _ _ hk
theorem wval_ltR (b : List UInt8) (p k : Nat) : (wval b p k).val < 18446744073709551616 := by
  unfold wval
  split
  · exact vget_lt _ _
  split
  · exact fget_ltR 8 (by omega) _ _
  split
  · exact fget_ltR 4 (by omega) _ _
  split
  · split
    · split <;> simp
    · simp
  · simp
theorem wval_text {b : List UInt8} (hb : b.length ≤ 4096) (p k : Nat) : (wval b p k).text.size ≤ 4096 := by
  unfold wval
  split
  · exact Nat.zero_le _
  split
  · exact Nat.zero_le _
  split
  · exact Nat.zero_le _
  split
  · split
    · split
      · exact Nat.zero_le _
      · show (((b.drop _).take _).toArray).size ≤ 4096
        simp
        omega
    · exact Nat.zero_le _
  · exact Nat.zero_le _
theorem wnext_rd {b : List UInt8} {s : RSt} (hb : b.length ≤ 4096) (h : ∀ f ∈ s.out, FldRd f) : ∀ f ∈ (wnext b s).2.out, FldRd f := by
  unfold wnext
  split
  · split
    · exact h
    rename_i h1
    split
    · split <;> exact h
    split
    · split <;> exact h
    split
    · split
      · split
        · exact h
        · intro f hf
          simp only [List.mem_append, List.mem_singleton] at hf
          rcases hf with hf | rfl
          · exact h f hf
          · refine ⟨?_, ?_, ?_, ?_, wval_ltR _ _ _, wval_text hb _ _⟩ <;> dsimp only <;> omega
      · exact h
    · exact h
  · exact h
theorem wrun_rd (b : List UInt8) (hb : b.length ≤ 4096) : ∀ (f : Nat) (s : RSt), (∀ g ∈ s.out, FldRd g) → ∀ g ∈ (wrun b f s).1, FldRd g := by
  intro f
  induction f with
  | zero =>
    intro s h
    rw [wrun]
    split
    · exact h
    · simp
  | succ f ih =>
    intro s h
    rw [wrun]
    split
    · split
      · exact ih _ (wnext_rd hb h)
      · simp
    · split
      · exact h
      · simp
theorem wof_rd (b : List UInt8) : ∀ f ∈ (wof b).1, FldRd f := by
  unfold wof
  split
  · simp
  · exact wrun_rd _ (by omega) _ _ (by simp)
theorem wrun_256R (b : List UInt8) : ∀ (f : Nat) (s : RSt), s.out.length ≤ 256 → (wrun b f s).1.length ≤ 256 := by
  intro f
  induction f with
  | zero => intro s h; rw [wrun]; split <;> simp [h]
  | succ f ih =>
    intro s h
    rw [wrun]
    split
    · split
      · refine ih _ ?_
        unfold wnext
        split
        · split
          · exact h
          split
          · split <;> exact h
          split
          · split <;> exact h
          split
          · split
            · split
              · exact h
              · simp; omega
            · exact h
          · exact h
        · exact h
      · simp
    · split <;> simp [h]
theorem wof_256R (b : List UInt8) : (wof b).1.length ≤ 256 := by
  unfold wof
  split
  · simp
  · exact wrun_256R _ _ _ (by simp)
end Go.Proofs.YtanfnjlndckhkaaDoor

/- WALKS in a fence: septets and its closure: what a range over them is handed. -/
namespace Go.Proofs.YtanfnjlndckhkaaDoor
open Go.RowKit Go.Shelf Plain

attribute [local go_sem] Oper.semAt_some

/-- one septet: its place and its byte -/
def Sept (L : List UInt8) : Type := { x : Nat × UInt8 // x.1 < 10 ∧ L[x.1]? = some x.2 }
def encSept {L : List UInt8} (x : Sept L) : Array Value := #[.int .i64 (7 * (x.1.1 : Int)), .int .u8 (x.1.2.toNat : Int)]
def septAt (L : List UInt8) (j : Nat) (h : j < L.length) (h2 : j < 10) : Sept L := ⟨(j, L[j]), h2, by simp [h]⟩
/-- what has come when k rounds are over -/
def IsSeq {L : List UInt8} (pre : List (Sept L)) : Prop := ∀ j (h : j < pre.length), (pre[j]'h).1.1 = j
theorem IsSeq.nil {L : List UInt8} : IsSeq ([] : List (Sept L)) := fun j h => by simp at h
theorem IsSeq.snoc {L : List UInt8} {pre : List (Sept L)} {x : Sept L} (h : IsSeq pre) (hx : x.1.1 = pre.length) : IsSeq (pre ++ [x]) := by
  intro j hj
  by_cases hlt : j < pre.length
  · rw [List.getElem_append_left hlt]; exact h j hlt
  · have : j = pre.length := by simp at hj; omega
    subst this
    rw [List.getElem_append_right (Nat.le_refl _)]; simpa using hx
theorem IsSeq.of_snoc {L : List UInt8} {pre : List (Sept L)} {x : Sept L} (h : IsSeq (pre ++ [x])) : IsSeq pre ∧ x.1.1 = pre.length := by
  refine ⟨fun j hj => ?_, ?_⟩
  · have := h j (by simp; omega)
    rwa [List.getElem_append_left hj] at this
  · have := h pre.length (by simp)
    rw [List.getElem_append_right (Nat.le_refl _)] at this
    simpa using this

/-- what a round keeps: what lay below n₀, and the box of the slice -/
def Keeps (n₀ Bs : Nat) (W W' : World) : Prop := Below n₀ W W' ∧ W'.cell? ⟨Bs, 0, none⟩ = W.cell? ⟨Bs, 0, none⟩
theorem Keeps.trans {n₀ Bs : Nat} {A B C : World} (h : Keeps n₀ Bs A B) (k : Keeps n₀ Bs B C) : Keeps n₀ Bs A C := ⟨h.1.trans k.1, k.2.trans h.2⟩
theorem keepsB {n₀ Bs : Nat} {w : World} (hn : n₀ ≤ w.heap.size) (hB : Bs < w.heap.size) :
    ∀ (W : World) (l : Nat) (o o' : Obj), w.heap.size ≤ l → W.heap[l]? = some o → o.isCells = false → o.isWalk = false → Keeps n₀ Bs W (W.putObj l o') := fun W l o o' hl ho hc hw =>
  ⟨belowK_b (w := w) hn W l o o' hl ho hc hw, World.cell?_of_block (World.putObj_heap_other (by simp; omega))⟩

set_option maxRecDepth 100000 in
set_option maxHeartbeats 2000000 in
theorem sept1_in (F : Fence) (n : Nat) (hF : F.fn 119) (hro : F.round = none) (hn : 1 ≤ n) (l Bs n₀ : Nat) (A : Option Addr) (cap : Nat) (L : List UInt8) (hl : L.length ≤ 140737488355328) (J Jx : List (Sept L) → World → Prop)
    (hY : ∀ pre x W, J pre W → pre.length < min L.length 10 → YieldAt F (n - 1) Tryd.prog l (encSept x) W fun e W' =>
      (e = .returned (.bool true) ∧ J (pre ++ [x]) W' ∧ Keeps n₀ Bs W W') ∨ (e = .returned (.bool false) ∧ Jx (pre ++ [x]) W'))
    (W : World) (hBs : W.cell? ⟨Bs, 0, none⟩ = some (.slice A L.length cap)) (hr : Rd W n₀ A (bcl L)) (h0 : J [] W) :
    CallsIn F n Tryd.prog 119 #[.func (.yield l) #[] #[], .pointer (some ⟨Bs, 0, none⟩)] W fun e W' => (∃ v, e = .returned v) ∧
      ((∃ ys, (IsSeq ys ∧ ys.length = min L.length 10) ∧ J ys W') ∨ (∃ pre, (IsSeq pre ∧ pre.length ≤ min L.length 10) ∧ Jx pre W')) := by
  refine callsIn_of_wp Tryd.func119 rfl hF ?_ hro
  simp only [Tryd.ntmps119, List.size_toArray, List.length_cons, List.length_nil, Nat.reduceAdd, Nat.reduceSub, Array.replicate_succ, Array.replicate_zero, List.push_toArray, List.append_toArray, List.nil_append, List.cons_append]
  gi_wp2
  all_goals
    gi_loopw [3, 7] (fun _ i wr => ∃ k : Nat, k ≤ min L.length 10 ∧ i = .int .i64 k ∧ (∃ pre : List (Sept L), IsSeq pre ∧ pre.length = k ∧ J pre wr) ∧ Keeps n₀ Bs W wr)
      (fun _ i _ => min L.length 10 - (intOf i).toNat)
    case atStart => exact ⟨0, Nat.zero_le _, rfl, ⟨[], IsSeq.nil, rfl, h0⟩, Below.refl _ _, rfl⟩
    case round =>
      obtain ⟨k, hk, rfl, ⟨pre, hseq, hpl, hJs⟩, hnx⟩ := hrel
      by_cases hlt : k < min L.length 10
      · have hkL : k < L.length := by omega
        have hk10 : k < 10 := by omega
        obtain ⟨fn, tmps, assign, body, hy, hR⟩ := hY pre (septAt L k hkL hk10) wr hJs (by omega)
        have hB2 := hnx.2
        rw [hBs] at hB2
        obtain ⟨b, off, rfl, hb, hcell⟩ := (hr.below hnx.1 (Nat.le_refl _)).some_ (by simp [bcl]; omega)
        have hcj := hcell k (by simp [bcl]; exact hkL)
        rw [bcl_get hkL] at hcj
        have hsx : (septAt L k hkL hk10).1.1 = pre.length := hpl.symm
        have HS := Lib.hid (hseq.snoc hsx)
        have HP := Lib.hid hpl
        clear hcell hr hY hsx hpl hBs
        dsimp only [encSept, septAt] at hy
        gi_wp2
        refine hR.mono ?_
        rintro e W3 (⟨rfl, hJ3, hk3⟩ | ⟨rfl, hJx3⟩)
        · gi_wp2
          go_roundw
          case rel => exact ⟨k + 1, by omega, by go_num, ⟨_, HS.out, by rw [List.length_append, HP.out]; rfl, hJ3⟩, hnx.trans hk3⟩
          case measure => simp [intOf]; omega
        · gi_wp2
          refine bodyPost_ret (results_none rfl _ _ _) rfl ?_
          exact ⟨⟨_, rfl⟩, .inr ⟨_, ⟨HS.out, by rw [List.length_append, HP.out]; simp; omega⟩, hJx3⟩⟩
      · gi_wp2
        go_end0
        exact ⟨⟨_, rfl⟩, .inl ⟨pre, ⟨hseq, by omega⟩, hJs⟩⟩

set_option maxHeartbeats 1000000 in
theorem septets_in (F : Fence) (n : Nat) (hF : F.fn 116) (hro : F.round = none) (a : Option Addr) (len cap : Nat) (w : World) :
    CallsIn F n Tryd.prog 116 #[.slice a len cap] w fun e w' => e = .returned (.func (.func 119) #[] #[.pointer (some ⟨w.heap.size, 0, none⟩)]) ∧ w.alloc (.cells #[.slice a len cap] 27) = w' := by
  refine callsIn_of_wp Tryd.func116 rfl hF ?_ hro
  simp only [Tryd.ntmps116, List.size_toArray, List.length_cons, List.length_nil, Nat.reduceAdd, Nat.reduceSub, Array.replicate_succ, Array.replicate_zero, List.push_toArray, List.append_toArray, List.nil_append, List.cons_append]
  gi_wp2
  go_ret
  exact ⟨rfl, rfl⟩

theorem sept_stops (F : Fence) (n : Nat) (hF : F.fn 119) (hro : F.round = none) (hn : 1 ≤ n) (Bs n₀ : Nat) (A : Option Addr) (cap : Nat) (L : List UInt8) (hl : L.length ≤ 140737488355328) (w : World) (hBs : w.cell? ⟨Bs, 0, none⟩ = some (.slice A L.length cap)) (hBn : Bs < w.heap.size) (hn₀ : n₀ ≤ w.heap.size) (hr : Rd w n₀ A (bcl L)) :
    SeqStopsK F n Tryd.prog 119 #[.pointer (some ⟨Bs, 0, none⟩)] (encSept (L := L)) (Keeps n₀ Bs) (fun ys => IsSeq ys ∧ ys.length = min L.length 10) (fun pre => IsSeq pre ∧ pre.length ≤ min L.length 10) (min L.length 10) w :=
  fun l J Jx W hW _ _ hY h0 =>
    sept1_in F n hF hro hn l Bs n₀ A cap L hl J Jx hY W ((hW.cell (p := ⟨Bs, 0, none⟩) hBn).trans hBs) (hr.below hW hn₀) h0
end Go.Proofs.YtanfnjlndckhkaaDoor

/- a scope that no goto leaves, in a fence; and its label. -/
namespace Go.Proofs.YtanfnjlndckhkaaDoor


section
variable {F : Fence} {n : Nat} {P : Program} {b : Frame} {a : Act} {k : List Item} {cs : List Frame} {w : World} {Q : Exit → Act → World → Prop}
theorem stepR_scope {c : Code} : step P (lone (b.atR a (.code (.scope c) :: k)) cs w) = .next (lone (b.atR a (.code c :: .inScope c :: k)) cs w) :=
  step_lone_go (by simp [stepG, stepG.exec, Frame.atR])
theorem stepR_inScope {c : Code} : step P (lone (b.atR a (.inScope c :: k)) cs w) = .next (lone (b.atR a k) cs w) :=
  step_lone_go (by simp [stepG, stepG.exec, Frame.atR])

theorem wpIn_scope_straight {c : Code} (h : c.wpIn F n P (Exit.noGoto Q) a w) : (Code.scope c).wpIn F n P Q a w := by
  intro b k cs hro hb hr
  have h0 : (lone (b.atR a (.code (.scope c) :: k)) cs w).fenced P F := fenced_calm hb hr rfl
  obtain ⟨e, a₁, w₁, hq, harr⟩ := h b (.inScope c :: k) cs hro hb hr
  cases e with
  | normal => exact ⟨.normal, a₁, w₁, hq, .head h0 stepR_scope (StepsIn.trans harr (.one (fenced_calm hb hr rfl) stepR_inScope))⟩
  | exit id => 
    have hx : exitTo id (.inScope c :: k) = exitTo id k := by simp [exitTo]
    exact ⟨.exit id, a₁, w₁, hq, fun k' hk => .head h0 stepR_scope (harr.1 k' (by rw [hx]; exact hk)),
        fun hr' hk => let ⟨k₁, h1, h2⟩ := harr.2 hr' (by rw [hx]; exact hk); ⟨k₁, h1, .head h0 stepR_scope h2⟩⟩
  | goto l => exact hq.elim
  | ret => exact ⟨_, a₁, w₁, hq, .of_steps (.one h0 stepR_scope) harr⟩
  | panic ch => exact ⟨_, a₁, w₁, hq, .of_steps (.one h0 stepR_scope) harr⟩
  | outgrown => exact ⟨_, a₁, w₁, hq, .of_steps (.one h0 stepR_scope) harr⟩
end

end Go.Proofs.YtanfnjlndckhkaaDoor

/- what varint.Get's rounds keep, in plain words; a region inside a round walked once for all its orders. -/
namespace Go.Proofs.YtanfnjlndckhkaaDoor
open Go.RowKit Go.Shelf Plain

/-- what the rounds have told so far: at k bytes, none of them the last, v has come together. -/
def Sofar (L : List UInt8) (k : Nat) (v : Int) : Prop := ∃ m : Nat, v = m ∧ m < 128 ^ k ∧ vgo 10 0 0 L = vgo (10 - k) k m (L.drop k)
/-- the number with one more septet at i, as the program makes it -/
def orv (v : Int) (c i : Nat) : Int := bits BinOp.or .u64 v (IntKind.u64.wrap (IntKind.u64.wrap (bits BinOp.and .u8 (c : Int) 127) * 2 ^ (7 * i)))
theorem orv_nat {m c i : Nat} (hi : i < 10) (hm : m < 128 ^ i) (hc : c < 256) (h9 : i = 9 → c ≤ 1) : orv m c i = ((m + c % 128 * 128 ^ i : Nat) : Int) := by
  have e1 : bits BinOp.and .u8 (c : Int) 127 = ((c % 128 : Nat) : Int) := by rw [show (127 : Int) = ((127 : Nat) : Int) from rfl, u8_and_nat _ _ hc (by omega), nat_mask7]
  have hlt := vstep_lt hi hm h9
  have e3 : IntKind.u64.wrap (IntKind.u64.wrap (bits BinOp.and .u8 (c : Int) 127) * 2 ^ (7 * i)) = ((c % 128 * 128 ^ i : Nat) : Int) := by
    rw [e1, pow7]
    simp only [IntKind.wrap_u64]
    rw [Int.emod_eq_of_lt (by omega) (by omega : ((c % 128 : Nat) : Int) < 18446744073709551616), ← Int.natCast_mul, Int.emod_eq_of_lt (by omega) (by omega)]
  unfold orv
  rw [e3, u64_or_nat _ _ (by omega) (by omega), Nat.or_comm, nat_join (7 * i) _ _ (by rw [show 128 ^ i = 2 ^ (7 * i) by rw [Nat.pow_mul]]; exact Nat.mul_mod_left _ _) (by rw [Nat.pow_mul]; exact hm), Nat.add_comm]

theorem sofar_step {L : List UInt8} {k : Nat} {v : Int} {c : UInt8} (h : Sofar L k v) (hk : k < 10) (hc : L[k]? = some c) :
    (k = 9 ∧ 1 < c.toNat → vgo 10 0 0 L = (0, 0, 3)) ∧
    (¬ (k = 9 ∧ 1 < c.toNat) → (c.toNat < 128 → ∃ m : Nat, orv v c.toNat k = m ∧ vgo 10 0 0 L = (m, k + 1, 0)) ∧ (¬ c.toNat < 128 → Sofar L (k + 1) (orv v c.toNat k))) := by
  obtain ⟨m, rfl, hm, he⟩ := h
  obtain ⟨hlt, hget⟩ := List.getElem?_eq_some_iff.1 hc
  rw [List.drop_eq_getElem_cons hlt, hget, vgo_cons hk] at he
  refine ⟨fun h9 => he.trans (if_pos h9), fun h9 => ?_⟩
  rw [if_neg h9] at he
  have hv := orv_nat hk hm c.toNat_lt (fun e => by omega)
  refine ⟨fun hl => ⟨m + c.toNat % 128 * 128 ^ k, hv, ?_⟩, fun hl => ⟨_, hv, vstep_pow hm, ?_⟩⟩
  · rw [he, if_pos hl, Nat.mod_eq_of_lt hl]
  · rw [he, if_neg hl]
theorem sofar_end {L : List UInt8} {k : Nat} {v : Int} (h : Sofar L k v) (hk : k = min L.length 10) : vgo 10 0 0 L = (0, 0, if k = 10 then 3 else 2) := by
  obtain ⟨m, rfl, hm, he⟩ := h
  rw [he]
  by_cases h10 : k = 10
  · subst h10; rfl
  · rw [if_neg h10]; exact vgo_stop (List.drop_eq_nil_of_le (by omega)) (by omega)

theorem boxed_own {X Y : World} {row : Option Nat} {B : Nat} {t : TypeId} {v : Value} (h : Boxed X B t v) (hg : X.grownBy Y row) (hr : ∀ r, row = some r → ∃ o : Obj, X.heap[r]? = some o ∧ o.isCells = false) : Boxed Y B t v :=
  h.kept hg fun e => by
    obtain ⟨o, ho, hc⟩ := hr B e.symm
    rw [show X.heap[B]? = _ from h] at ho; cases ho; cases hc
theorem boxed_other {W : World} {B C : Nat} {t : TypeId} {v : Value} (h : Boxed W B t v) (hne : B ≠ C) (x : Value) : Boxed (W.setCell ⟨C, 0, none⟩ x) B t v :=
  h.kept (grownBy_setCell' W C x) (fun e => hne (by injection e))
theorem boxed_drew {W : World} {B : Nat} {t : TypeId} {v : Value} (h : Boxed W B t v) : Boxed W.drew B t v := h

theorem vget_err {l : List UInt8} {q e : Nat} (h : vgo 10 0 0 (l.drop q) = (0, 0, e + 1)) (hq : q ≤ l.length) : vget l q = (0, 0, e + 1) := (vget_of h hq).trans (if_neg (by simp))
theorem vget_ok {l : List UInt8} {q m k : Nat} (h : vgo 10 0 0 (l.drop q) = (m, k, 0)) (hq : q ≤ l.length) : vget l q = (m, q + k, 0) := (vget_of h hq).trans (if_pos rfl)

/-- a store into a box of ours -/
structure Stores (n₀ T Bs : Nat) (W W' : World) : Prop where
  from_ : KeepsFrom T W W'
  keeps : Keeps n₀ Bs W W'
theorem Stores.trans {n₀ T Bs : Nat} {A B C : World} (h : Stores n₀ T Bs A B) (k : Stores n₀ T Bs B C) : Stores n₀ T Bs A C := ⟨h.1.trans k.1, h.2.trans k.2⟩
theorem Stores.set {n₀ T Bs : Nat} (W : World) {C : Nat} (hC : n₀ ≤ C) (hne : C ≠ Bs) (x : Value) : Stores n₀ T Bs W (W.setCell ⟨C, 0, none⟩ x) := by
  refine ⟨(KeepsOthers.setCell _ _ _).from _, (Below.refl _ _).setCell (p := ⟨C, 0, none⟩) hC _, World.cell?_setCell_other _ _ _ _ fun e => hne ?_⟩
  have := congrArg Addr.block e
  exact this
theorem Stores.drew {n₀ T Bs : Nat} (W : World) : Stores n₀ T Bs W W.drew := ⟨(KeepsOthers.drew _).from _, (Below.refl _ W).drew, rfl⟩

/-- while rounds come: the boxes B (the number), B+1 (how many), B+2 (done) -/
def InvR (B : Nat) (w : World) (L : List UInt8) (pre : List (Sept L)) (W : World) : Prop :=
  (Boxed W (B + 1) 3 (.int .i64 pre.length) ∧ Boxed W (B + 1 + 1) 4 (.bool false) ∧ ∃ v, Boxed W B 40 (.int .u64 v) ∧ (IsSeq pre → Sofar L pre.length v)) ∧ Below B w W
/-- where a round leaves the loop -/
def InvX (B : Nat) (w : World) (L : List UInt8) (c : Code) (pre : List (Sept L)) (W : World) : Prop :=
  (c = .exit 0 ∧ ∃ d v, Boxed W (B + 1) 3 (.int .i64 pre.length) ∧ Boxed W (B + 1 + 1) 4 (.bool d) ∧ Boxed W B 40 (.int .u64 v) ∧
        (IsSeq pre → (d = false ∧ pre.length = 10 ∧ vgo 10 0 0 L = (0, 0, 3)) ∨ (d = true ∧ ∃ m : Nat, v = m ∧ vgo 10 0 0 L = (m, pre.length, 0)))) ∧ Below B w W
theorem InvR.own {B T : Nat} {w : World} {L : List UInt8} (hB : B ≤ w.heap.size) (hT : B ≤ T) : OwnFrom T (InvR B w L) :=
  OwnFrom.and (Own.from (fun s X Y row hs hg hr => by obtain ⟨a1, a2, v, a3, a4⟩ := hs; exact ⟨boxed_own a1 hg hr, boxed_own a2 hg hr, v, boxed_own a3 hg hr, a4⟩) _) (ownFrom_below hB hT)
theorem InvX.own {B T : Nat} {w : World} {L : List UInt8} (c : Code) (hB : B ≤ w.heap.size) (hT : B ≤ T) : OwnFrom T (InvX B w L c) :=
  OwnFrom.and (Own.from (fun s X Y row hs hg hr => by obtain ⟨e, d, v, a1, a2, a3, a4⟩ := hs; exact ⟨e, d, v, boxed_own a1 hg hr, boxed_own a2 hg hr, boxed_own a3 hg hr, a4⟩) _) (ownFrom_below hB hT)

section
variable {B T : Nat} {w W : World} {L : List UInt8} {pre : List (Sept L)} {x : Sept L} {v : Int} {cb i : Nat} {a : Act}
theorem round_long (hB : Below B w W) (bN : Boxed W (B + 1) 3 (.int .i64 pre.length)) (bD : Boxed W (B + 1 + 1) 4 (.bool false)) (bV : Boxed W B 40 (.int .u64 v)) (hs : IsSeq pre → Sofar L pre.length v)
    (hcb : x.1.2.toNat = cb) (h9 : (pre.length : Int) + 1 = 10) (hc : 1 < (cb : Int)) :
    ownPostG T (Keeps B (B + 1 + 1 + 1)) (InvR B w L) (InvX B w L) (pre ++ [x]) W (.exit 0) a (W.setCell ⟨B + 1, 0, none⟩ (.int .i64 10)) := by
  have st : Stores B T (B + 1 + 1 + 1) W (W.setCell ⟨B + 1, 0, none⟩ (.int .i64 10)) := .set W (by omega) (by omega) _
  have e10 : (pre ++ [x]).length = 10 := by rw [List.length_append, List.length_singleton]; omega
  refine ⟨st.1, ⟨rfl, false, v, ?_, boxed_other bD (by omega) _, boxed_other bV (by omega) _, fun hseq => .inl ⟨rfl, e10, ?_⟩⟩, hB.trans st.2.1⟩
  · rw [e10]; exact bN.set _
  · obtain ⟨h1, h2⟩ := hseq.of_snoc
    exact (sofar_step (hs h1) (by omega) (c := x.1.2) (by rw [← h2]; exact x.2.2)).1 ⟨by omega, by omega⟩
theorem round_done (hB : Below B w W) (bN : Boxed W (B + 1) 3 (.int .i64 pre.length)) (bD : Boxed W (B + 1 + 1) 4 (.bool false)) (bV : Boxed W B 40 (.int .u64 v)) (hs : IsSeq pre → Sofar L pre.length v)
    (hcb : x.1.2.toNat = cb) (hi : x.1.1 = i) (hk : pre.length < 10) (h9 : pre.length = 9 → cb ≤ 1) (hc : (cb : Int) < 128) {z : Int} (hz : z = (pre.length : Int) + 1) :
    ownPostG T (Keeps B (B + 1 + 1 + 1)) (InvR B w L) (InvX B w L) (pre ++ [x]) W (.exit 0) a
      (((W.setCell ⟨B + 1, 0, none⟩ (.int .i64 z)).setCell ⟨B, 0, none⟩ (.int .u64 (orv v cb i))).setCell ⟨B + 1 + 1, 0, none⟩ (.bool true)).drew := by
  have st : Stores B T (B + 1 + 1 + 1) W _ := ((Stores.set W (C := B + 1) (by omega) (by omega) (.int .i64 z)).trans (.set _ (C := B) (by omega) (by omega) (.int .u64 (orv v cb i)))).trans ((Stores.set _ (C := B + 1 + 1) (by omega) (by omega) (.bool true)).trans (.drew _))
  have e10 : ((pre ++ [x]).length : Int) = z := by rw [List.length_append, List.length_singleton]; omega
  have e11 : (pre ++ [x]).length = pre.length + 1 := by rw [List.length_append, List.length_singleton]
  refine ⟨st.1, ⟨rfl, true, orv v cb i, ?_, ?_, ?_, fun hseq => .inr ⟨rfl, ?_⟩⟩, hB.trans st.2.1⟩
  · rw [e10]; exact boxed_drew (boxed_other (boxed_other (bN.set _) (by omega) _) (by omega) _)
  · exact boxed_drew (Boxed.set _ (boxed_other (boxed_other bD (by omega) _) (by omega) _))
  · exact boxed_drew (boxed_other (Boxed.set _ (boxed_other bV (by omega) _)) (by omega) _)
  · obtain ⟨h1, h2⟩ := hseq.of_snoc
    rw [e11, ← hcb, show i = pre.length by omega]
    exact ((sofar_step (hs h1) hk (c := x.1.2) (by rw [← h2]; exact x.2.2)).2 (fun h => by have := h9 h.1; omega)).1 (by omega)
theorem round_more (hB : Below B w W) (bN : Boxed W (B + 1) 3 (.int .i64 pre.length)) (bD : Boxed W (B + 1 + 1) 4 (.bool false)) (bV : Boxed W B 40 (.int .u64 v)) (hs : IsSeq pre → Sofar L pre.length v)
    (hcb : x.1.2.toNat = cb) (hi : x.1.1 = i) (hk : pre.length < 10) (h9 : pre.length = 9 → cb ≤ 1) (hc : 128 ≤ (cb : Int)) {z : Int} (hz : z = (pre.length : Int) + 1) :
    ownPostG T (Keeps B (B + 1 + 1 + 1)) (InvR B w L) (InvX B w L) (pre ++ [x]) W .normal a
      ((W.setCell ⟨B + 1, 0, none⟩ (.int .i64 z)).setCell ⟨B, 0, none⟩ (.int .u64 (orv v cb i))).drew := by
  have st : Stores B T (B + 1 + 1 + 1) W _ := ((Stores.set W (C := B + 1) (by omega) (by omega) (.int .i64 z)).trans (.set _ (C := B) (by omega) (by omega) (.int .u64 (orv v cb i)))).trans (.drew _)
  have e10 : ((pre ++ [x]).length : Int) = z := by rw [List.length_append, List.length_singleton]; omega
  have e11 : (pre ++ [x]).length = pre.length + 1 := by rw [List.length_append, List.length_singleton]
  refine ⟨st.1, st.2, ⟨?_, ?_, orv v cb i, ?_, fun hseq => ?_⟩, hB.trans st.2.1⟩
  · rw [e10]; exact boxed_drew (boxed_other (bN.set _) (by omega) _)
  · exact boxed_drew (boxed_other (boxed_other bD (by omega) _) (by omega) _)
  · exact boxed_drew (Boxed.set _ (boxed_other bV (by omega) _))
  · obtain ⟨h1, h2⟩ := hseq.of_snoc
    rw [e11, ← hcb, show i = pre.length by omega]
    exact ((sofar_step (hs h1) hk (c := x.1.2) (by rw [← h2]; exact x.2.2)).2 (fun h => by have := h9 h.1; omega)).2 (by omega)
end
end Go.Proofs.YtanfnjlndckhkaaDoor

/- WALK: varint.Get computes vget: in a fence. -/
namespace Go.Proofs.YtanfnjlndckhkaaDoor
open Go.RowKit Go.Shelf Plain

attribute [local go_sem] Oper.semAt_some

set_option maxRecDepth 100000 in
set_option maxHeartbeats 4000000 in
theorem vget_in (F : Fence) (n : Nat) (h28 : F.fn 112) (h39 : F.fn 116) (h43 : F.fn 119) (hro : F.round = none) (hn : 3 ≤ n)
    (A : Option Addr) (len c : Nat) (l : List UInt8) (hlen : l.length = len) (hnc : len ≤ c) (hl : l.length ≤ 140737488355328) (q : Nat) (hq : q ≤ len) (w : World) (hr : Rd w w.heap.size A (bcl l)) :
    CallsIn F n Tryd.prog 112 #[.slice A len c, .int .i64 q] w fun e w' =>
      e = .returned (.tuple #[.int .u64 (vget l q).1, .int .i64 (vget l q).2.1, .int .i64 (vget l q).2.2]) ∧ Below w.heap.size w w' := by
  have h1 : 1 ≤ n := by omega
  subst hlen
  refine callsIn_of_wp_marks Tryd.func112 rfl h28 ?_ hro
  simp only [Tryd.ntmps112, List.size_toArray, List.length_cons, List.length_nil, Nat.reduceAdd, Nat.reduceSub, Array.replicate_succ, Array.replicate_zero, List.push_toArray, List.append_toArray, List.nil_append, List.cons_append]
  have HR := Lib.hid hr
  have HQ := Lib.hid (rfl : vget l q = vget l q)
  clear hr
  gi_wp2_with (first | apply wpIn_scope_straight | apply wpIn_label | (gi_at_call 116; refine (septets_in F (n - 1) h39 hro _ _ _ _).mono ?_; rintro e w' ⟨rfl, rfl⟩))
  all_goals
    have hrd : Rd w w.heap.size (if c = q then A else A.map (·.add (q * 1))) ((bcl l).drop (q * 1)) := HR.out.drop (by simp [bcl]; omega)
    obtain ⟨W0, hW0⟩ : ∃ W0, (((w.alloc (Obj.cells #[Value.int IntKind.u64 0] 40)).alloc (Obj.cells #[Value.int IntKind.i64 0] 3)).alloc (Obj.cells #[Value.bool false] 4)) = W0 := ⟨_, rfl⟩
    have bV : Boxed W0 w.heap.size 40 (.int .u64 0) := by rw [← hW0]; exact ((Boxed.new _ _ _).alloc _).alloc _
    have bN : Boxed W0 (w.heap.size + 1) 3 (.int .i64 0) := by rw [← hW0]; exact (by simpa using Boxed.new (w.alloc (Obj.cells #[Value.int IntKind.u64 0] 40)) 3 (.int .i64 0) : Boxed _ (w.heap.size + 1) _ _).alloc _
    have bD : Boxed W0 (w.heap.size + 1 + 1) 4 (.bool false) := by rw [← hW0]; simpa using Boxed.new ((w.alloc (Obj.cells #[Value.int IntKind.u64 0] 40)).alloc (Obj.cells #[Value.int IntKind.i64 0] 3)) 4 (.bool false)
    have hS0 : W0.heap.size = w.heap.size + 1 + 1 + 1 := by rw [← hW0]; simp
    have hB0 : Below w.heap.size w W0 := by rw [← hW0]; exact (((Below.refl _ w).alloc (Nat.le_refl _) _).alloc (by simp) _).alloc (by simp; omega) _
    rw [hW0]
    clear hW0
    first | rw [if_pos (by assumption)] at hrd | rw [if_neg (by assumption)] at hrd
    rw [Nat.mul_one] at hrd
    have hrD : Rd W0 w.heap.size _ (bcl (l.drop q)) := (by rw [show bcl (l.drop q) = (bcl l).drop q by simp [bcl]]; exact hrd : Rd w w.heap.size _ (bcl (l.drop q))).below hB0 (Nat.le_refl _)
    refine' wpIn_rangeFunc_ownG hro h1 (gf := 119) (lb := #[.pointer (some ⟨w.heap.size + 1 + 1 + 1, 0, none⟩)]) rfl h43 (enters_of Tryd.func119 (by kernel_rfl) rfl)
      (sept_stops F (n - 1) h43 hro (by omega) (w.heap.size + 1 + 1 + 1) w.heap.size _ _ (l.drop q) (by simp; omega) _ (by rw [List.length_drop, ← hS0]; exact (Boxed.new W0 _ _).cell) (by simp; omega) (by simp; omega) (hrD.alloc (by omega) _))
      Keeps.trans (keepsB (by simp; omega) (by simp; omega)) (Below.refl _ _) (fun _ => rfl)
      (InvR w.heap.size w (l.drop q)) (InvX w.heap.size w (l.drop q)) (InvR.own (Nat.le_refl _) (by simp; omega)) (fun c => InvX.own c (Nat.le_refl _) (by simp; omega))
      ⟨⟨bN.alloc _, bD.alloc _, _, bV.alloc _, fun _ => ⟨0, rfl, by simp, rfl⟩⟩, hB0.alloc (by omega) _⟩ _ ?assign ?body ?done ?stop
    case assign =>
      intro l x W K hK
      dsimp only [encSept]
      gi_wp2
      exact hK
    case body =>
      rintro l' pre x W ⟨⟨bN, bD, v, bV, hsf⟩, hB⟩ hlt
      by_cases hcl : (l.drop q).length = 0
      · exfalso; omega
      have hcq : ¬ c = q := by rw [List.length_drop] at hcl; omega
      have HS := Lib.hid hsf
      have hk10 : pre.length < 10 := by omega
      have hx10 := x.2.1
      have hx8 : x.1.2.toNat < 256 := x.1.2.toNat_lt
      have cN := bN.cell; have fN := bN.frozen; have cV := bV.cell; have fV := bV.frozen; have cD := bD.cell; have fD := bD.frozen
      have hmx : Tryd.prog.follows .mixedOrders = true := by kernel_rfl
      clear hsf hlt hrd hrD HR hB0 hcl
      generalize hi : x.1.1 = i at *
      generalize hcb : x.1.2.toNat = cb at *
      have HI := Lib.hid hi
      have HCB := Lib.hid hcb
      clear hi hcb
      first
      | (exfalso; exact hcq (by assumption))
      | (gi_wp2
         · exact round_long hB bN bD bV HS.out HCB.out (by assumption) (by assumption)
         · gi_region_o
           all_goals
             gi_wp2
             exact round_done hB bN bD bV HS.out HCB.out HI.out hk10 (fun _ => by omega) (by assumption) (by omega)
         · gi_region_o
           all_goals
             gi_wp2
             · exact round_done hB bN bD bV HS.out HCB.out HI.out hk10 (fun e => by omega) (by assumption) rfl
             · exact round_more hB bN bD bV HS.out HCB.out HI.out hk10 (fun e => by omega) (by assumption) rfl)
    case done =>
      rintro D ys W hD ⟨hseq, hys⟩ ⟨⟨bN, bD, v, bV, hsf⟩, hB⟩ hK
      have he := sofar_end (hsf hseq) hys
      have cN := bN.cell; have fN := bN.frozen; have cD := bD.cell; have fD := bD.frozen
      have hk10 : ys.length ≤ 10 := by omega
      have HD := Lib.hid hD
      clear hsf hys hrd hrD HR hB0 hD
      dsimp only
      by_cases h10 : ys.length = 10
      · have HV := Lib.hid (vget_err (e := 2) (he.trans (by rw [if_pos h10])) hq)
        rw [h10] at cN
        clear he
        gi_wp2_with (first | apply wpIn_scope_straight | apply wpIn_label)
        refine ⟨by simp, .inl ⟨_, _, rfl, run_takeDeferred hK, ?_⟩⟩
        refine ⟨_, results_tmp3 rfl _ _ _, ?_, hB.trans (belowK_b (w := w) (Nat.le_refl _) _ D _ _ (by have := HD.out; simp at this; omega) hK rfl rfl)⟩
        rw [HV.out]
        rfl
      · have HV := Lib.hid (vget_err (e := 1) (he.trans (by rw [if_neg h10])) hq)
        clear he
        gi_wp2_with (first | apply wpIn_scope_straight | apply wpIn_label)
        refine ⟨by simp, .inl ⟨_, _, rfl, run_takeDeferred hK, ?_⟩⟩
        refine ⟨_, results_tmp3 rfl _ _ _, ?_, hB.trans (belowK_b (w := w) (Nat.le_refl _) _ D _ _ (by have := HD.out; simp at this; omega) hK rfl rfl)⟩
        rw [HV.out]
        rfl
    case stop =>
      rintro D c' pre W hD ⟨hseq, hk⟩ ⟨⟨rfl, d, v, bN, bD, bV, hsf⟩, hB⟩ hK
      dsimp only
      have cN := bN.cell; have fN := bN.frozen; have cD := bD.cell; have fD := bD.frozen; have cV := bV.cell; have fV := bV.frozen
      have hk10 : pre.length ≤ 10 := by omega
      have hkl : pre.length ≤ l.length - q := by rw [List.length_drop] at hk; omega
      rcases hsf hseq with ⟨rfl, h10, he⟩ | ⟨rfl, m, rfl, he⟩
      · have HV := Lib.hid (vget_err (e := 2) he hq)
        have HD := Lib.hid hD
        rw [h10] at cN
        clear hsf he hrd hrD HR hB0 hD
        gi_wp2_with (first | apply wpIn_scope_straight | apply wpIn_label)
        refine ⟨by simp, .inl ⟨_, _, rfl, run_takeDeferred hK, ?_⟩⟩
        refine ⟨_, results_tmp3 rfl _ _ _, ?_, hB.trans (belowK_b (w := w) (Nat.le_refl _) _ D _ _ (by have := HD.out; simp at this; omega) hK rfl rfl)⟩
        rw [HV.out]
        rfl
      · have HV := Lib.hid (vget_ok he hq)
        have HD := Lib.hid hD
        have hmx : Tryd.prog.follows .mixedOrders = true := by kernel_rfl
        clear hsf he hrd hrD HR hB0 hD hk
        gi_wp2_with (first | apply wpIn_scope_straight | apply wpIn_label)
        gi_region_o
        all_goals
          gi_wp2_with (first | apply wpIn_scope_straight | apply wpIn_label)
          refine ⟨by simp, .inl ⟨_, _, rfl, run_takeDeferred hK, ?_⟩⟩
          refine ⟨_, results_tmp3 rfl _ _ _, ?_, (hB.trans (Below.refl _ W).drew).trans (belowK_b (w := w) (Nat.le_refl _) _ D _ _ (by have := HD.out; simp at this; omega) hK rfl rfl)⟩
          rw [HV.out]
          exact ret3_int rfl (by simp only [IntKind.wrap_i64]; omega) rfl
end Go.Proofs.YtanfnjlndckhkaaDoor

/- varint.Get's contract. -/
namespace Go.Proofs.YtanfnjlndckhkaaDoor
open Go.RowKit Plain

set_option maxRecDepth 100000 in
set_option maxHeartbeats 1000000 in
theorem vget_any (A : Option Addr) (n c : Nat) (l : List UInt8) (hn : l.length = n) (hnc : n ≤ c) (_hcm : c ≤ 9223372036854775807) (hl : l.length ≤ 140737488355328) (p : Int) (w : World) (hr : Rd w w.heap.size A (bcl l)) :
    Calls Tryd.prog 112 #[.slice A n c, .int .i64 p] w fun e w' =>
      e = .returned (.tuple #[.int .u64 (vget l p).1, .int .i64 (vget l p).2.1, .int .i64 (vget l p).2.2]) ∧ Below w.heap.size w w' := by
  by_cases h0 : p < 0 ∨ (l.length : Int) < p
  · subst hn
    rw [vget_arg _ _ h0]
    by_cases h1 : p < 0
    · go_enter Tryd.func112, Tryd.ntmps112
      go_wp2
      go_step3
      go_wp2
      rw [Exit.noGoto_ret]
      go_ret3
      exact ⟨rfl, Below.refl _ _⟩
    · have h2 : (l.length : Int) < p := by omega
      clear h0
      go_enter Tryd.func112, Tryd.ntmps112
      go_wp2
      go_step3
      go_wp2
      rw [Exit.noGoto_ret]
      go_ret3
      exact ⟨rfl, Below.refl _ _⟩
  · obtain ⟨q, rfl⟩ : ∃ q : Nat, p = q := ⟨p.toNat, by omega⟩
    exact callsIn_wide.1 (vget_in Fence.wide 3 trivial trivial trivial rfl (by omega) A n c l hn hnc hl q (by omega) w hr)
end Go.Proofs.YtanfnjlndckhkaaDoor

/- small laws on wrapping -/
namespace Go.Proofs.YtanfnjlndckhkaaDoor
open Go.RowKit
theorem wrap_small (i : Nat) (h : i < 9223372036854775808) : IntKind.i64.wrap (i : Int) = (i : Int) := by
  simp [IntKind.wrap, IntKind.bits, IntKind.signed]
  omega
theorem wrap_u64 (i : Nat) (h : i < 18446744073709551616) : IntKind.u64.wrap (i : Int) = (i : Int) := by
  simp [IntKind.wrap, IntKind.bits, IntKind.signed]
  omega
end Go.Proofs.YtanfnjlndckhkaaDoor

/- WALKS: the reader of wire: number, wide. -/
namespace Go.Proofs.YtanfnjlndckhkaaDoor
open Go.RowKit Plain

def icl (l : List Nat) : List Value := l.map fun (k : Nat) => Value.int .i64 (k : Int)
/-- in W the reader's box R holds what s says; all that is written lies above w0 -/
def Rdr (w0 W : World) (R : Nat) (A : Option Addr) (n c : Nat) (s : RSt) : Prop :=
  ∃ Ao co Ax cx, W.heap[R]? = some (.cells #[.slice A n c, .int .i64 s.at_, .slice Ao s.opn.length co, .slice Ax s.out.length cx] 118 (0, 0)) ∧
    W.ownsRow w0.heap.size 3 1 (.slice Ao s.opn.length co) s.opn.length (icl s.opn) ∧ W.ownsRow w0.heap.size 64 4 (.slice Ax s.out.length cx) s.out.length (flc s.out) ∧ Below w0.heap.size w0 W ∧ w0.heap.size ≤ R
theorem own_set {W : World} {R i : Nat} {cs : Array Value} {t : TypeId} {fr : Nat × Nat} {base : Nat} {e : TypeId} {size n : Nat} {v : Value} {xs : List Value} (h : W.ownsRow base e size v n xs) (hR : W.heap[R]? = some (.cells cs t fr)) (hne : t ≠ e) (x : Value) :
    (W.setCell ⟨R, i, none⟩ x).ownsRow base e size v n xs := by
  refine ⟨h.1, ?_⟩
  rcases h.2 with h2 | ⟨g, cap, cur, hv, hg, hh, r⟩
  · exact .inl h2
  · refine .inr ⟨g, cap, cur, hv, hg, ?_, r⟩
    rw [heap_setCell_other W ⟨R, i, none⟩ g x (fun e => by subst e; rw [hR] at hh; simp at hh; exact hne hh.2.1)]
    exact hh
theorem Rdr.step {w0 W W' : World} {R n c : Nat} {A : Option Addr} {s : RSt} (h : Rdr w0 W R A n c s) (hB : Below W.heap.size W W') : Rdr w0 W' R A n c s := by
  obtain ⟨Ao, co, Ax, cx, hR, h1, h2, h3, h4⟩ := h
  exact ⟨Ao, co, Ax, cx, (hB.block R (Array.getElem?_eq_some_iff.1 hR).1).trans hR, own_kept h1 hB (Nat.le_refl _), own_kept h2 hB (Nat.le_refl _), bel_step' h3 (Nat.le_refl _) (hB.mono (Nat.le_refl _)), h4⟩
theorem Rdr.setAt {w0 W : World} {R n c : Nat} {A : Option Addr} {s : RSt} (h : Rdr w0 W R A n c s) (k : Nat) : Rdr w0 (W.setCell ⟨R, 1, none⟩ (.int .i64 k)) R A n c ⟨k, s.opn, s.out⟩ := by
  obtain ⟨Ao, co, Ax, cx, hR, h1, h2, h3, h4⟩ := h
  exact ⟨Ao, co, Ax, cx, heap_setCell_same W R 1 _ _ _ hR, own_set h1 hR (by decide) _, own_set h2 hR (by decide) _, h3.setCell (p := ⟨R, 1, none⟩) h4 _, h4⟩
theorem Rdr.cells {w0 W : World} {R n c : Nat} {A : Option Addr} {s : RSt} (h : Rdr w0 W R A n c s) : ∃ Ao co Ax cx, W.cell? ⟨R, 0, none⟩ = some (.slice A n c) ∧ W.cell? ⟨R, 1, none⟩ = some (.int .i64 s.at_) ∧ W.cell? ⟨R, 2, none⟩ = some (.slice Ao s.opn.length co) ∧ W.cell? ⟨R, 3, none⟩ = some (.slice Ax s.out.length cx) ∧
    W.frozen? ⟨R, 1, none⟩ = false ∧ W.frozen? ⟨R, 2, none⟩ = false ∧ W.frozen? ⟨R, 3, none⟩ = false ∧
    W.ownsRow w0.heap.size 3 1 (.slice Ao s.opn.length co) s.opn.length (icl s.opn) ∧ W.ownsRow w0.heap.size 64 4 (.slice Ax s.out.length cx) s.out.length (flc s.out) := by
  obtain ⟨Ao, co, Ax, cx, hR, h1, h2, h3, h4⟩ := h
  refine ⟨Ao, co, Ax, cx, ?_, ?_, ?_, ?_, ?_, ?_, ?_, h1, h2⟩ <;> simp [World.cell?, World.frozen?, hR]
theorem Rdr.bel {w0 W : World} {R n c : Nat} {A : Option Addr} {s : RSt} (h : Rdr w0 W R A n c s) : Below w0.heap.size w0 W := by
  obtain ⟨_, _, _, _, _, _, _, h3, _⟩ := h
  exact h3
theorem vget_zero {b : List UInt8} {p : Int} (h : ¬ (vget b p).2.2 = 0) : (vget b p).1 = 0 := by
  unfold vget at h ⊢
  split
  · rfl
  · rename_i h1
    rw [if_neg h1] at h
    split
    · rename_i h2; rw [if_pos h2] at h; simp at h
    · rfl

/-- from W on, of what was there only the place in the box R is written -/
structure Kp (W W' : World) (R : Nat) : Prop where
  g : W.grownBy W' (some R)
  c2 : W'.cell? ⟨R, 2, none⟩ = W.cell? ⟨R, 2, none⟩
  c3 : W'.cell? ⟨R, 3, none⟩ = W.cell? ⟨R, 3, none⟩
theorem Kp.trans {a b c : World} {R : Nat} (h : Kp a b R) (k : Kp b c R) : Kp a c R := ⟨h.g.trans k.g, k.c2.trans h.c2, k.c3.trans h.c3⟩
theorem Kp.b {W W' : World} {R : Nat} (hR : R < W.heap.size) (h : Below W.heap.size W W') : Kp W W' R := ⟨⟨h.os, h.tape, h.output, h.size, fun k hk _ => h.block k hk⟩, h.cell hR, h.cell hR⟩
theorem Kp.s (W : World) (R : Nat) (v : Value) : Kp W (W.setCell ⟨R, 1, none⟩ v) R := by
  have h := (Below.refl 0 W).setCell (p := ⟨R, 1, none⟩) (Nat.zero_le _) v
  exact ⟨⟨h.os, h.tape, h.output, h.size, fun k _ hne => heap_setCell_other _ _ k _ (fun e => hne (by rw [e]))⟩, World.cell?_setCell_other _ _ _ _ (by simp), World.cell?_setCell_other _ _ _ _ (by simp)⟩
theorem Rdr.lt {w0 W : World} {R n c : Nat} {A : Option Addr} {s : RSt} (h : Rdr w0 W R A n c s) : R < W.heap.size := by
  obtain ⟨_, _, _, _, hR, _⟩ := h
  exact (Array.getElem?_eq_some_iff.1 hR).1
theorem fget_zero {k : Nat} {b : List UInt8} {p : Int} (h : ¬ (fget k b p).2.2 = 0) : (fget k b p).1 = 0 := by
  unfold fget at h ⊢
  split
  · rfl
  · rename_i h1
    rw [if_neg h1] at h
    split
    · rfl
    · rename_i h2; rw [if_neg h2] at h; simp at h

section
variable (b : List UInt8) (A : Option Addr) (n c : Nat) (hn : b.length = n) (hnc : n ≤ c) (hcm : c ≤ 9223372036854775807) (hl : b.length ≤ 140737488355328) (w0 : World) (hr0 : Rd w0 w0.heap.size A (bcl b))
include hn hnc hcm hl hr0
set_option maxRecDepth 100000 in
set_option maxHeartbeats 1000000 in
theorem rnum_any (s : RSt) (R : Nat) (W : World) (h : Rdr w0 W R A n c s) :
    Calls Tryd.prog 92 #[.pointer (some ⟨R, 0, none⟩)] W fun e w' => e = .returned (.tuple #[.int .u64 (vget b s.at_).1, .int .i64 (vget b s.at_).2.2]) ∧ ((vget b s.at_).2.2 = 0 → Rdr w0 w' R A n c ⟨(vget b s.at_).2.1, s.opn, s.out⟩) ∧ Below w0.heap.size w0 w' ∧ Kp W w' R := by
  obtain ⟨Ao, co, Ax, cx, c0, c1, c2, c3, f1, f2, f3, _, _⟩ := h.cells
  have hbel := h.bel
  have hz := @vget_zero b s.at_
  have hvg := vget_any A n c b hn hnc hcm hl s.at_ W.drew ((hr0.below hbel (Nat.le_refl _)).more hbel.size)
  obtain ⟨r, hr⟩ : ∃ r, vget b s.at_ = r := ⟨_, rfl⟩
  rw [hr] at hvg hz ⊢
  clear hr hr0
  obtain ⟨v, to, er⟩ := r
  simp only at hvg hz ⊢
  go_enter Tryd.func92, Tryd.ntmps92
  go_wp2_with fail
  have hg0 : Kp W W.drew R := Kp.b h.lt (Below.refl _ W).drew
  replace h : Rdr w0 W.drew R A n c s := h.step (Below.refl _ W).drew
  have d0 : ∀ u, Below W.drew.heap.size W.drew u → u.cell? ⟨R, 0, none⟩ = some (.slice A n c) := fun u hu => by obtain ⟨_, _, _, _, x, _⟩ := (h.step hu).cells; exact x
  have d1 : ∀ u, Below W.drew.heap.size W.drew u → u.cell? ⟨R, 1, none⟩ = some (.int .i64 s.at_) := fun u hu => by obtain ⟨_, _, _, _, _, x, _⟩ := (h.step hu).cells; exact x
  refine wp_region_L 16 [0, 1, 2, 3, 4, 5, 6, 7, 8, 9, 10, 11, 12, 13, 14, 15] rfl (by decide) (by decide) (by kernel_rfl) ?_
  generalize W.drew = W1 at *
  simp only [List.filterMap_cons, List.filterMap_nil, List.getElem?_cons_zero, List.getElem?_cons_succ, Option.map_some]
  repeat (first
      | (refine wpL_take (v := ?_) (by kernel_rfl) (by kernel_rfl) (by kernel_rfl) (fun _ _ _ h => h) (by rfl) (fun u hu => ?_) ?_
         rotate_left
         focus
           unfold Grows at hu
           go_simp
           try with_reducible rfl
         simp only [Act.put, List.setIfInBounds_toArray, List.set_cons_zero, List.set_cons_succ])
      | (refine wpL_pass (by kernel_rfl) (by kernel_rfl) (by kernel_rfl) (fun _ _ _ h => h) (by rfl) ?_; simp only [Act.put, List.setIfInBounds_toArray, List.set_cons_zero, List.set_cons_succ])
      | (refine wpL_do (by kernel_rfl) (by rfl) (fun K hK => ?_); go_simp; go_at_call 112; refine hvg.mono ?_; rintro e w1 ⟨rfl, hBk⟩; have h1 := h.step hBk; have hg1 : Kp W w1 R := hg0.trans (Kp.b h.lt hBk); refine hK _ _ hBk ?_; clear hK K))
  refine wpL_done (by kernel_rfl) ?_
  clear h hvg hbel d0 d1 c0 c1 c2 c3 f1 f2 f3
  obtain ⟨Ao, co, Ax, cx, c0, c1, c2, c3, f1, f2, f3, _, _⟩ := h1.cells
  by_cases he : er = 0
  · subst he
    go_wp2_with fail
    go_ret2
    exact ⟨rfl, h1.setAt to, (h1.setAt to).bel, hg1.trans (Kp.s _ _ _)⟩
  · have hb : ((er : Int) != 0) = true := by simp; omega
    have hv0 := hz he
    subst hv0
    have HE := Lib.hid he
    clear he hz
    go_wp2_with fail
    go_ret2
    exact ⟨rfl, fun h => absurd h HE.out, h1.bel, hg1⟩
set_option maxRecDepth 100000 in
set_option maxHeartbeats 1000000 in
theorem wide_any (s : RSt) (R : Nat) (kind : Nat) (hk : kind = 1 ∨ kind = 5) (W : World) (h : Rdr w0 W R A n c s) :
    Calls Tryd.prog 114 #[.pointer (some ⟨R, 0, none⟩), .int .i64 kind] W fun e w' => e = .returned (.tuple #[.int .u64 (wval b s.at_ kind).val, .int .i64 (wval b s.at_ kind).err]) ∧ ((wval b s.at_ kind).err = 0 → Rdr w0 w' R A n c ⟨(wval b s.at_ kind).to, s.opn, s.out⟩) ∧ Below w0.heap.size w0 w' ∧ Kp W w' R := by
  have _hl := hl
  obtain ⟨Ao, co, Ax, cx, c0, c1, c2, c3, f1, f2, f3, _, _⟩ := h.cells
  have hbel := h.bel
  have hr := (hr0.below hbel (Nat.le_refl _)).more hbel.size
  have hg0 : Kp W W.drew R := Kp.b h.lt (Below.refl _ W).drew
  replace h : Rdr w0 W.drew R A n c s := h.step (Below.refl _ W).drew
  have d0 : ∀ u, Below W.drew.heap.size W.drew u → u.cell? ⟨R, 0, none⟩ = some (.slice A n c) := fun u hu => by obtain ⟨_, _, _, _, x, _⟩ := (h.step hu).cells; exact x
  have d1 : ∀ u, Below W.drew.heap.size W.drew u → u.cell? ⟨R, 1, none⟩ = some (.int .i64 s.at_) := fun u hu => by obtain ⟨_, _, _, _, _, x, _⟩ := (h.step hu).cells; exact x
  rcases hk with rfl | rfl
  · have hvg := get8_any A n c b hn hnc hcm s.at_ W.heap.size W.drew hr
    have hw : wval b s.at_ 1 = ⟨(fget 8 b s.at_).1, emptyT, (fget 8 b s.at_).2.1, (fget 8 b s.at_).2.2⟩ := by unfold wval; rw [if_neg (by omega), if_pos rfl]
    have hz := @fget_zero 8 b s.at_
    obtain ⟨r, hrr⟩ : ∃ r, fget 8 b s.at_ = r := ⟨_, rfl⟩
    rw [hrr] at hvg hw hz
    rw [hw]
    clear hw hrr hr hr0
    obtain ⟨v, to, er⟩ := r
    simp only at hvg hz ⊢
    go_enter Tryd.func114, Tryd.ntmps114
    go_wp2_with fail
    refine wp_region_L 16 [0, 1, 2, 3, 4, 5, 6, 7, 8, 9, 10, 11, 12, 13, 14, 15] rfl (by decide) (by decide) (by kernel_rfl) ?_
    generalize W.drew = W1 at *
    simp only [List.filterMap_cons, List.filterMap_nil, List.getElem?_cons_zero, List.getElem?_cons_succ, Option.map_some]
    repeat (first
        | (refine wpL_take (v := ?_) (by kernel_rfl) (by kernel_rfl) (by kernel_rfl) (fun _ _ _ h => h) (by rfl) (fun u hu => ?_) ?_
           rotate_left
           focus
             unfold Grows at hu
             go_simp
             try with_reducible rfl
           simp only [Act.put, List.setIfInBounds_toArray, List.set_cons_zero, List.set_cons_succ])
        | (refine wpL_pass (by kernel_rfl) (by kernel_rfl) (by kernel_rfl) (fun _ _ _ h => h) (by rfl) ?_; simp only [Act.put, List.setIfInBounds_toArray, List.set_cons_zero, List.set_cons_succ])
        | (refine wpL_do (by kernel_rfl) (by rfl) (fun K hK => ?_); go_simp; go_at_call 117; refine hvg.mono ?_; rintro e w1 ⟨rfl, rfl⟩; have hBk := Below.refl W1.heap.size W1; refine hK _ _ hBk ?_; clear hK K))
    refine wpL_done (by kernel_rfl) ?_
    clear d0 d1 hvg hbel c0 c1 c2 c3 f1 f2 f3
    obtain ⟨Ao, co, Ax, cx, c0, c1, c2, c3, f1, f2, f3, _, _⟩ := h.cells
    by_cases he : er = 0
    · subst he
      go_wp2_with fail
      go_ret2
      exact ⟨rfl, h.setAt to, (h.setAt to).bel, hg0.trans (Kp.s _ _ _)⟩
    · have hb : ((er : Int) != 0) = true := by simp; omega
      have hv0 := hz he
      subst hv0
      have HE := Lib.hid he
      clear he hz
      go_wp2_with fail
      go_ret2
      exact ⟨rfl, fun h => absurd h HE.out, h.bel, hg0⟩
  · have hvg := get4_any A n c b hn hnc hcm s.at_ W.heap.size W.drew hr
    have hw : wval b s.at_ 5 = ⟨(fget 4 b s.at_).1, emptyT, (fget 4 b s.at_).2.1, (fget 4 b s.at_).2.2⟩ := by unfold wval; rw [if_neg (by omega), if_neg (by omega), if_pos rfl]
    have hz := @fget_zero 4 b s.at_
    obtain ⟨r, hrr⟩ : ∃ r, fget 4 b s.at_ = r := ⟨_, rfl⟩
    have hvw : IntKind.u64.wrap ((fget 4 b s.at_).1 : Int) = ((fget 4 b s.at_).1 : Int) := wrap_u64 _ (by have := fget_lt b s.at_; omega)
    rw [hrr] at hvg hw hz hvw
    rw [hw]
    clear hw hrr hr hr0
    obtain ⟨v, to, er⟩ := r
    simp only at hvg hz hvw ⊢
    go_enter Tryd.func114, Tryd.ntmps114
    go_wp2_with fail
    refine wp_region_L 16 [0, 1, 2, 3, 4, 5, 6, 7, 8, 9, 10, 11, 12, 13, 14, 15] rfl (by decide) (by decide) (by kernel_rfl) ?_
    generalize W.drew = W1 at *
    simp only [List.filterMap_cons, List.filterMap_nil, List.getElem?_cons_zero, List.getElem?_cons_succ, Option.map_some]
    repeat (first
        | (refine wpL_take (v := ?_) (by kernel_rfl) (by kernel_rfl) (by kernel_rfl) (fun _ _ _ h => h) (by rfl) (fun u hu => ?_) ?_
           rotate_left
           focus
             unfold Grows at hu
             go_simp
             try with_reducible rfl
           simp only [Act.put, List.setIfInBounds_toArray, List.set_cons_zero, List.set_cons_succ])
        | (refine wpL_pass (by kernel_rfl) (by kernel_rfl) (by kernel_rfl) (fun _ _ _ h => h) (by rfl) ?_; simp only [Act.put, List.setIfInBounds_toArray, List.set_cons_zero, List.set_cons_succ])
        | (refine wpL_do (by kernel_rfl) (by rfl) (fun K hK => ?_); go_simp; go_at_call 118; refine hvg.mono ?_; rintro e w1 ⟨rfl, rfl⟩; have hBk := Below.refl W1.heap.size W1; refine hK _ _ hBk ?_; clear hK K))
    refine wpL_done (by kernel_rfl) ?_
    clear d0 d1 hvg hbel c0 c1 c2 c3 f1 f2 f3
    obtain ⟨Ao, co, Ax, cx, c0, c1, c2, c3, f1, f2, f3, _, _⟩ := h.cells
    by_cases he : er = 0
    · subst he
      go_wp2_with fail
      go_ret2
      exact ⟨rfl, h.setAt to, (h.setAt to).bel, hg0.trans (Kp.s _ _ _)⟩
    · have hb : ((er : Int) != 0) = true := by simp; omega
      have hv0 := hz he
      subst hv0
      have HE := Lib.hid he
      clear he hz
      go_wp2_with fail
      go_ret2
      exact ⟨rfl, fun h => absurd h HE.out, h.bel, hg0⟩
end
end Go.Proofs.YtanfnjlndckhkaaDoor

/- WALKS: the reader of wire: text. -/
namespace Go.Proofs.YtanfnjlndckhkaaDoor
open Go.RowKit Plain

theorem wrap_s (i : Nat) (h : i ≤ 140737488355328) : wrap64 (i : Int) = (i : Int) := by unfold wrap64; omega
theorem strB2 {w : World} {B : Nat} {A : Option Addr} {l : List UInt8} (hr : Rd w B A (bcl l)) {n : Nat} (hn : l.length = n) (c : Nat) :
    (convert 27 9 (.slice A n c)).run Tryd.prog w = .ok (.string ⟨l.toArray⟩) w :=
  hn ▸ run_str _ _ _ Tryd.underlying27 Tryd.underlying5 Tryd.underlying9 hr c
theorem wval2 {b : List UInt8} {p : Nat} : wval b p 2 = if (vget b p).2.2 = 0 then if b.length - (vget b p).2.1 < (vget b p).1 then ⟨0, emptyT, 0, 2⟩ else ⟨0, ⟨((b.drop (vget b p).2.1).take (vget b p).1).toArray⟩, (vget b p).2.1 + (vget b p).1, 0⟩ else ⟨0, emptyT, 0, (vget b p).2.2⟩ := by
  unfold wval; rw [if_neg (by omega), if_neg (by omega), if_neg (by omega), if_pos rfl]
section
variable (b : List UInt8) (A : Option Addr) (n c : Nat) (hn : b.length = n) (hnc : n ≤ c) (hcm : c ≤ 9223372036854775807) (hl : b.length ≤ 140737488355328) (w0 : World) (hr0 : Rd w0 w0.heap.size A (bcl b))
include hn hnc hcm hl hr0
set_option maxRecDepth 100000 in
set_option maxHeartbeats 1000000 in
theorem rtextr_any (s : RSt) (R : Nat) (W : World) (h : Rdr w0 W R A n c s) :
    Calls Tryd.prog 113 #[.pointer (some ⟨R, 0, none⟩)] W fun e w' => e = .returned (.tuple #[.string (wval b s.at_ 2).text, .int .i64 (wval b s.at_ 2).err]) ∧ ((wval b s.at_ 2).err = 0 → Rdr w0 w' R A n c ⟨(wval b s.at_ 2).to, s.opn, s.out⟩) ∧ Below w0.heap.size w0 w' ∧ Kp W w' R := by
  have hnum := rnum_any b A n c hn hnc hcm hl w0 hr0 s R W h
  have hto := @vget_to b s.at_
  have hvl := vget_lt b s.at_
  rw [wval2]
  obtain ⟨r, hr⟩ : ∃ r, vget b s.at_ = r := ⟨_, rfl⟩
  rw [hr] at hnum hto hvl ⊢
  obtain ⟨v, to, er⟩ := r
  simp only at hnum hto hvl ⊢
  clear hr
  by_cases he : er = 0
  · subst he
    obtain ⟨t1, t2, _⟩ := hto rfl
    have hto2 : to ≤ n := by omega
    by_cases hlong : b.length - to < v
    · rw [if_pos rfl, if_pos hlong]
      simp only
      go_enter Tryd.func113, Tryd.ntmps113
      go_wp2_with fail
      refine hnum.mono ?_
      rintro e w1 ⟨rfl, h1, hB1, hg1⟩
      replace h1 := h1 (by first | rfl | trivial)
      obtain ⟨Ao, co, Ax, cx, c0, c1, c2, c3, f1, f2, f3, _, _⟩ := h1.cells
      obtain ⟨K, hK⟩ : ∃ K, n - to = K := ⟨_, rfl⟩
      have hs1 : IntKind.i64.wrap ((n : Int) - (to : Int)) = (K : Int) := by rw [show (n : Int) - (to : Int) = ((K : Nat) : Int) by omega]; exact wrap_small _ (by omega)
      have hs2 : IntKind.u64.wrap (K : Int) = (K : Int) := wrap_u64 _ (by omega)
      have hdec : decide (K < v) = true := by simp; omega
      clear hlong hvl hto2 hK hto t1 t2 hnum h
      go_wp2_with fail
      go_quiet (fail)
      go_wp2_with fail
      go_ret2
      exact ⟨rfl, fun h => absurd h (by decide), (h1.step (show Below w1.heap.size w1 (w1.drewN nq) from ⟨rfl, rfl, rfl, Nat.le_refl _, fun _ _ => rfl⟩)).bel, hg1.trans (Kp.b h1.lt (show Below w1.heap.size w1 (w1.drewN nq) from ⟨rfl, rfl, rfl, Nat.le_refl _, fun _ _ => rfl⟩))⟩
    · rw [if_pos rfl, if_neg hlong]
      simp only
      obtain ⟨T, hT⟩ : ∃ T, to + v = T := ⟨_, rfl⟩
      rw [hT]
      go_enter Tryd.func113, Tryd.ntmps113
      go_wp2_with fail
      refine hnum.mono ?_
      rintro e w1 ⟨rfl, h1, hB1, hg1⟩
      replace h1 := h1 (by first | rfl | trivial)
      obtain ⟨Ao, co, Ax, cx, c0, c1, c2, c3, f1, f2, f3, _, _⟩ := h1.cells
      obtain ⟨K, hK⟩ : ∃ K, n - to = K := ⟨_, rfl⟩
      have hs1 : IntKind.i64.wrap ((n : Int) - (to : Int)) = (K : Int) := by rw [show (n : Int) - (to : Int) = ((K : Nat) : Int) by omega]; exact wrap_small _ (by omega)
      have hs2 : IntKind.u64.wrap (K : Int) = (K : Int) := wrap_u64 _ (by omega)
      have hdec : decide (K < v) = false := by simp; omega
      have hvs : v ≤ 140737488355328 := by omega
      have hts : T ≤ 140737488355328 := by omega
      have hw1 : wrap64 (v : Int) = (v : Int) := wrap_s v hvs
      have hw2 : wrap64 ((to : Int) + (v : Int)) = (T : Int) := by rw [show (to : Int) + (v : Int) = (T : Int) by omega]; exact wrap_s T hts
      have HTT := Lib.hid hT
      clear hvs hts
      have HLG := Lib.hid hlong
      have HV := Lib.hid hvl
      have HT := Lib.hid hto2
      have HK := Lib.hid hK
      clear hlong hvl hto2 hK hto t1 t2 hnum h hT
      go_wp2_with fail
      go_quiet (fail)
      go_wp2_with fail
      have h2 := (h1.step (show Below w1.heap.size w1 (w1.drewN nq) from ⟨rfl, rfl, rfl, Nat.le_refl _, fun _ _ => rfl⟩)).setAt T
      have hg2 : Kp W (((w1.drewN nq).setCell ⟨R, 1, none⟩ (.int .i64 T))) R := (hg1.trans (Kp.b h1.lt (show Below w1.heap.size w1 (w1.drewN nq) from ⟨rfl, rfl, rfl, Nat.le_refl _, fun _ _ => rfl⟩))).trans (Kp.s _ _ _)
      generalize (w1.drewN nq).setCell ⟨R, 1, none⟩ (.int .i64 T) = w2 at *
      have hg3 : Kp W w2.drew R := hg2.trans (Kp.b h2.lt (Below.refl _ w2).drew)
      have h3 : Rdr w0 w2.drew R A n c ⟨T, s.opn, s.out⟩ := h2.step (Below.refl _ w2).drew
      have d0 : ∀ u, Below w2.drew.heap.size w2.drew u → u.cell? ⟨R, 0, none⟩ = some (.slice A n c) := fun u hu => by obtain ⟨_, _, _, _, x, _⟩ := (h3.step hu).cells; exact x
      have d1 : ∀ u, Below w2.drew.heap.size w2.drew u → u.cell? ⟨R, 1, none⟩ = some (.int .i64 T) := fun u hu => by obtain ⟨_, _, _, _, _, x, _⟩ := (h3.step hu).cells; exact x
      have hle1 : (to : Int) ≤ (T : Int) := by have := HTT.out; omega
      have hle2 : to ≤ T := by have := HTT.out; omega
      have hle3 : (T : Int) ≤ (c : Int) := by have := HTT.out; have := HK.out; have := HLG.out; have := HT.out; omega
      have hle4 : T ≤ c := by omega
      have hlen : T - to = v := by have := HTT.out; omega
      have hcv : ∀ u, Below w2.drew.heap.size w2.drew u → (convert 27 9 (.slice (if c = to then A else A.map (·.add to)) v (c - to))).run Tryd.prog u = .ok (.string ⟨((b.drop to).take v).toArray⟩) u := fun u hu => by
        have hb2 : b.length ≤ c * 1 := by omega
        have h := ((hr0.below (h3.step hu).bel (Nat.le_refl _)).drop (k := to) (cap := c) (size := 1) (by simp [bcl]; omega)).take v
        rw [show ((bcl b).drop (to * 1)).take v = bcl ((b.drop to).take v) by simp [bcl, List.map_drop, List.map_take]] at h
        simp only [Nat.mul_one] at h
        exact strB2 h (by have := HTT.out; have := HK.out; have := HLG.out; have := HT.out; simp; omega) _
      clear c0 c1 c2 c3 f1 f2 f3 h1 h2
      refine wp_region_L 13 [0, 1, 2, 3, 4, 5, 6, 7, 8, 9, 10, 11, 12] rfl (by decide) (by decide) (by kernel_rfl) ?_
      generalize w2.drew = w3 at *
      simp only [List.filterMap_cons, List.filterMap_nil, List.getElem?_cons_zero, List.getElem?_cons_succ, Option.map_some]
      repeat (first
          | (refine wpL_take (v := ?_) (by kernel_rfl) (by kernel_rfl) (by kernel_rfl) (fun _ _ _ h => h) (by rfl) (fun u hu => ?_) ?_
             rotate_left
             focus
               unfold Grows at hu
               go_simp
               try with_reducible rfl
             simp only [Act.put, List.setIfInBounds_toArray, List.set_cons_zero, List.set_cons_succ])
          | (refine wpL_pass (by kernel_rfl) (by kernel_rfl) (by kernel_rfl) (fun _ _ _ h => h) (by rfl) ?_; simp only [Act.put, List.setIfInBounds_toArray, List.set_cons_zero, List.set_cons_succ]))
      refine wpL_done (by kernel_rfl) ?_
      all_goals go_wp2_with fail
      all_goals go_ret2
      all_goals exact ⟨rfl, (by first | exact h3 | exact (by assumption : c = to) ▸ h3 | simpa [*] using h3), h3.bel, hg3⟩
  · have hb : ((er : Int) != 0) = true := by simp; omega
    rw [if_neg he]
    have HE := Lib.hid he
    clear he hto hvl
    go_enter Tryd.func113, Tryd.ntmps113
    go_wp2_with fail
    refine hnum.mono ?_
    rintro e w1 ⟨rfl, -, hB1, hg1⟩
    go_wp2_with fail
    go_ret2
    exact ⟨rfl, fun h => absurd h HE.out, hB1, hg1⟩
end
end Go.Proofs.YtanfnjlndckhkaaDoor

/- append onto a row of fields of the call's own -/
namespace Go.Proofs.YtanfnjlndckhkaaDoor
open Go.RowKit

theorem elemF : Elem Tryd.prog 65 64 (.agg #[.int .i64 0, .int .i64 0, .int .u64 0, .string ⟨#[]⟩]) 4 40 :=
  ⟨Tryd.underlying65, info_parts (show (Tryd.prog.info? 64).map (fun i => (i.zero, i.size, i.bytes)) = some (some (.agg #[.int .i64 0, .int .i64 0, .int .u64 0, .string ⟨#[]⟩]), 4, 40) by kernel_rfl), rfl, by omega⟩
theorem fld_one (L : List Fld) : ∀ u ∈ flc L, u.oneCell' = true := by
  intro u hu
  obtain ⟨f, _, hf⟩ := List.mem_flatMap.1 hu
  simp [Fld.cells] at hf
  rcases hf with rfl | rfl | rfl | rfl <;> rfl
section
variable {w : World} {ops : Array Oper} {rest : List Oper} {o : Oper} {a : Act} {Q : Exit → Act → World → Prop}
theorem wpList_appF (hgd : o.guard = none) (s x : Operand)
    (ho : o.op = .call { callee := .builtin .append, args := #[s, x], argTypes := #[65, 65] })
    {base n c : Nat} {A : Option Addr} {l : List Fld} (hs : a.eval s = .slice A n c)
    (hown : w.ownsRow base 64 4 (.slice A n c) n (flc l)) {B m c2 : Nat} {A2 : Option Addr} {l2 : List Fld} (hx : a.eval x = .slice A2 m c2) (hr : Rd w B A2 (flc l2)) (hl : l2.length = m)
    (N : Nat) (hN : n + m = N) (hbd : N ≤ 1000000) (hbase : base ≤ w.heap.size)
    (h : ∀ A' c' w', w'.ownsRow base 64 4 (.slice A' N c') N (flc (l ++ l2)) → w.grownBy w' (Value.slice A n c).ownBlock → wpList Tryd.prog ops Q rest (a.put o.dst (.slice A' N c')) w') :
    wpList Tryd.prog ops Q (o :: rest) a w := by
  subst hN
  refine wpList_app hgd s x _ ho elemF hs hown hx hr (by rw [flc_len]; omega) (fld_one l2) (by unfold maxLen; omega) (by omega) hbase fun A' c' w' h1 h2 _ => h A' c' w' ?_ h2
  rw [show flc (l ++ l2) = flc l ++ flc l2 by simp [flc]]
  exact h1
theorem wpList_appF1 (hgd : o.guard = none) (s x : Operand)
    (ho : o.op = .call { callee := .builtin .append, args := #[s, x], argTypes := #[65, 65] })
    {base n c : Nat} {A : Option Addr} {l : List Fld} (hs : a.eval s = .slice A n c)
    (hown : w.ownsRow base 64 4 (.slice A n c) n (flc l)) {c2 : Nat} (f : Fld) {k : Nat} (hx : a.eval x = .slice (some ⟨k, 0, none⟩) 1 c2) (hk : k = w.heap.size)
    (hbd : n ≤ 1000000) (hbase : base ≤ w.heap.size)
    (h : ∀ A' c' w', w'.ownsRow base 64 4 (.slice A' (n + 1) c') (n + 1) (flc (l ++ [f])) → w.grownBy w' (Value.slice A n c).ownBlock → wpList Tryd.prog ops Q rest (a.put o.dst (.slice A' (n + 1) c')) w') :
    wpList Tryd.prog ops Q (o :: rest) a (w.alloc (.cells #[.int .i64 f.num, .int .i64 f.kind, .int .u64 f.val, .string f.text] 64)) := by
  subst hk
  refine wpList_app1 hgd s x _ ho elemF hs hown hx rfl (by intro u hu; simp at hu; rcases hu with rfl | rfl | rfl | rfl <;> rfl) (by unfold maxLen; omega) (by omega) hbase fun A' c' w' h1 h2 _ => h A' c' w' ?_ h2
  rw [show flc (l ++ [f]) = flc l ++ f.cells by simp [flc]]
  exact h1
end
theorem elemI : Elem Tryd.prog 116 3 (.int .i64 0) 1 8 :=
  ⟨Tryd.underlying116, info_parts (show (Tryd.prog.info? 3).map (fun i => (i.zero, i.size, i.bytes)) = some (some (.int .i64 0), 1, 8) by kernel_rfl), rfl, by omega⟩
/-- the object of a row of the call's own -/
theorem own_obj {W : World} {base : Nat} {e : TypeId} {size n : Nat} {v : Value} {xs : List Value} {g : Nat} (h : W.ownsRow base e size v n xs) (hg : v.ownBlock = some g) : ∃ cur, W.heap[g]? = some (.cells cur e (0, 0)) := by
  rcases h.2 with ⟨hv, _⟩ | ⟨g2, cap, cur, hv, _, hh, _⟩
  · rw [hv] at hg; simp [Value.ownBlock] at hg
  · rw [hv] at hg
    obtain rfl : g2 = g := by simpa [Value.ownBlock] using hg
    exact ⟨cur, hh⟩
theorem own_other {W W' : World} {base : Nat} {e : TypeId} {size n : Nat} {v : Value} {xs : List Value} {row : Option Nat} (h : W.ownsRow base e size v n xs) (hg : W.grownBy W' row) (hne : ∀ g cur, W.heap[g]? = some (.cells cur e (0, 0)) → row ≠ some g) : W'.ownsRow base e size v n xs := by
  refine ⟨h.1, ?_⟩
  rcases h.2 with h2 | ⟨g, cap, cur, hv, hgb, hh, r⟩
  · exact .inl h2
  · exact .inr ⟨g, cap, cur, hv, hgb, (hg.block g (Array.getElem?_eq_some_iff.1 hh).1 (fun e => hne g cur hh e.symm)).trans hh, r⟩
theorem own_ne {W : World} {base : Nat} {e e2 : TypeId} {size n : Nat} {v : Value} {xs : List Value} (h : W.ownsRow base e size v n xs) (he : e ≠ e2) {g : Nat} {cur : Array Value} {fr : Nat × Nat} (hg : W.heap[g]? = some (.cells cur e2 fr)) : v.ownBlock ≠ some g := fun h2 => by
  obtain ⟨c2, h3⟩ := own_obj h h2
  rw [hg] at h3
  simp at h3
  exact he h3.2.1.symm
end Go.Proofs.YtanfnjlndckhkaaDoor

/- WALKS: the reader of wire: begin. -/
namespace Go.Proofs.YtanfnjlndckhkaaDoor
open Go.RowKit Plain

theorem Rdr.pushO {w0 W W' : World} {R n c : Nat} {A : Option Addr} {at_ : Nat} {opn : List Nat} {out : List Fld} {Ao Ax Ap : Option Addr} {co cx cp : Nat} {l : List Nat} {N : Nat}
    (hR : W.heap[R]? = some (.cells #[.slice A n c, .int .i64 at_, .slice Ao opn.length co, .slice Ax out.length cx] 118 (0, 0))) (h1 : W.ownsRow w0.heap.size 3 1 (.slice Ao opn.length co) opn.length (icl opn))
    (h2 : W.ownsRow w0.heap.size 64 4 (.slice Ax out.length cx) out.length (flc out)) (h3 : Below w0.heap.size w0 W) (h4 : w0.heap.size ≤ R)
    (hg : W.grownBy W' (Value.slice Ao opn.length co).ownBlock) (hn : W'.ownsRow w0.heap.size 3 1 (.slice Ap N cp) N (icl l)) (hl : l.length = N) :
    W'.heap[R]? = some (.cells #[.slice A n c, .int .i64 at_, .slice Ao opn.length co, .slice Ax out.length cx] 118 (0, 0)) ∧
    Rdr w0 (W'.setCell ⟨R, 2, none⟩ (.slice Ap N cp)) R A n c ⟨at_, l, out⟩ := by
  subst hl
  have hR' := (hg.block R (Array.getElem?_eq_some_iff.1 hR).1 (own_ne h1 (by decide) hR).symm).trans hR
  have h2' := own_other h2 hg (fun g cur hh => own_ne h1 (by decide) hh)
  refine ⟨hR', Ap, cp, Ax, cx, heap_setCell_same W' R 2 _ _ _ hR', own_set hn hR' (by decide) _, own_set h2' hR' (by decide) _, ?_, h4⟩
  exact (own_grown h3 h1 h3.size hg).setCell (p := ⟨R, 2, none⟩) h4 _
theorem Rdr.pushF {w0 W W' : World} {R n c : Nat} {A : Option Addr} {at_ : Nat} {opn : List Nat} {out : List Fld} {Ao Ax Ap : Option Addr} {co cx cp : Nat} {l : List Fld} {N : Nat}
    (hR : W.heap[R]? = some (.cells #[.slice A n c, .int .i64 at_, .slice Ao opn.length co, .slice Ax out.length cx] 118 (0, 0))) (h1 : W.ownsRow w0.heap.size 3 1 (.slice Ao opn.length co) opn.length (icl opn))
    (h2 : W.ownsRow w0.heap.size 64 4 (.slice Ax out.length cx) out.length (flc out)) (h3 : Below w0.heap.size w0 W) (h4 : w0.heap.size ≤ R)
    (hg : W.grownBy W' (Value.slice Ax out.length cx).ownBlock) (hn : W'.ownsRow w0.heap.size 64 4 (.slice Ap N cp) N (flc l)) (hl : l.length = N) :
    W'.heap[R]? = some (.cells #[.slice A n c, .int .i64 at_, .slice Ao opn.length co, .slice Ax out.length cx] 118 (0, 0)) ∧
    Rdr w0 (W'.setCell ⟨R, 3, none⟩ (.slice Ap N cp)) R A n c ⟨at_, opn, l⟩ := by
  subst hl
  have hR' := (hg.block R (Array.getElem?_eq_some_iff.1 hR).1 (own_ne h2 (by decide) hR).symm).trans hR
  have h1' := own_other h1 hg (fun g cur hh => own_ne h2 (by decide) hh)
  refine ⟨hR', Ao, co, Ap, cp, heap_setCell_same W' R 3 _ _ _ hR', own_set h1' hR' (by decide) _, own_set hn hR' (by decide) _, ?_, h4⟩
  exact (own_grown h3 h2 h3.size hg).setCell (p := ⟨R, 3, none⟩) h4 _
theorem rd_cells {W : World} {R : Nat} {A Ao Ax : Option Addr} {n c a no co nx cx : Nat} (h : W.heap[R]? = some (.cells #[.slice A n c, .int .i64 a, .slice Ao no co, .slice Ax nx cx] 118 (0, 0))) :
    W.cell? ⟨R, 2, none⟩ = some (.slice Ao no co) ∧ W.cell? ⟨R, 3, none⟩ = some (.slice Ax nx cx) ∧ W.frozen? ⟨R, 2, none⟩ = false ∧ W.frozen? ⟨R, 3, none⟩ = false := by
  refine ⟨?_, ?_, ?_, ?_⟩ <;> simp [World.cell?, World.frozen?, h]
section
variable (A : Option Addr) (n c : Nat) (w0 : World)
set_option maxRecDepth 100000 in
set_option maxHeartbeats 2000000 in
theorem begin_any (s : RSt) (R num : Nat) (W : World) (h : Rdr w0 W R A n c s) :
    Calls Tryd.prog 93 #[.pointer (some ⟨R, 0, none⟩), .int .i64 num] W fun e w' => e = .returned (.int .i64 (if 8 ≤ s.opn.length then 12 else 0)) ∧ (¬ 8 ≤ s.opn.length → Rdr w0 w' R A n c ⟨s.at_, s.opn ++ [num], s.out⟩) ∧ Below w0.heap.size w0 w' := by
  obtain ⟨Ao, co, Ax, cx, hR, o1, o2, hbel, h4⟩ := h
  obtain ⟨at_, opn, out⟩ := s
  simp only at hR o1 o2 ⊢
  obtain ⟨c2, c3, f2, f3⟩ := rd_cells hR
  by_cases h8 : 8 ≤ opn.length
  · have hb : decide ((8 : Int) ≤ (opn.length : Int)) = true := by simp; omega
    rw [if_pos h8]
    have H8 := Lib.hid h8
    clear h8
    go_enter Tryd.func93, Tryd.ntmps93
    go_wp2_with fail
    go_ret
    exact ⟨rfl, fun h => absurd H8.out h, hbel⟩
  · have hb : decide ((8 : Int) ≤ (opn.length : Int)) = false := by simp; omega
    rw [if_neg h8]
    have H8 := Lib.hid h8
    clear h8
    have hbs := hbel.size
    go_enter Tryd.func93, Tryd.ntmps93
    go_wp2_with (at_builtin; refine wpList_app1 rfl _ _ _ rfl elemI rfl o1 rfl rfl (by intro u hu; simp at hu; subst hu; rfl) (by have := H8.out; unfold maxLen; omega) (by have := H8.out; omega) hbs ?_; intro A5 c5 w5 ho5 hg5 _; obtain ⟨hR5, hrd⟩ := Rdr.pushO (l := opn ++ [num]) hR o1 o2 hbel h4 hg5 (by simpa [icl] using ho5) (by simp); obtain ⟨k2, k3, j2, j3⟩ := rd_cells hR5)
    go_ret
    exact ⟨rfl, fun _ => hrd, hrd.bel⟩
end
end Go.Proofs.YtanfnjlndckhkaaDoor

/- WALKS: the reader of wire: end. -/
namespace Go.Proofs.YtanfnjlndckhkaaDoor
open Go.RowKit Plain

theorem own_prefix {W : World} {base : Nat} {e : TypeId} {N m co g : Nat} {xs : List Value} (h : W.ownsRow base e 1 (.slice (some ⟨g, 0, none⟩) N co) N xs) (hm : m ≤ N) : W.ownsRow base e 1 (.slice (some ⟨g, 0, none⟩) m co) m (xs.take m) := by
  have hx : xs.length = N := by simpa using h.1
  rcases h.2 with ⟨hv, _⟩ | ⟨g2, cap, cur, hv, hgb, hh, hnc, hcm, hcs, ht⟩
  · cases hv
  · cases hv
    refine ⟨by simp [hx]; omega, .inr ⟨g, co, cur, rfl, hgb, hh, by omega, hcm, hcs, ?_⟩⟩
    rw [← ht, List.take_take]
    congr 1
    omega
theorem Rdr.popO {w0 W : World} {R n c : Nat} {A : Option Addr} {at_ : Nat} {opn : List Nat} {out : List Fld} {Ao Ax Ap : Option Addr} {co cx cp : Nat} {l : List Nat} {N : Nat}
    (hR : W.heap[R]? = some (.cells #[.slice A n c, .int .i64 at_, .slice Ao opn.length co, .slice Ax out.length cx] 118 (0, 0)))
    (h2 : W.ownsRow w0.heap.size 64 4 (.slice Ax out.length cx) out.length (flc out)) (h3 : Below w0.heap.size w0 W) (h4 : w0.heap.size ≤ R)
    (hn : W.ownsRow w0.heap.size 3 1 (.slice Ap N cp) N (icl l)) (hl : l.length = N) :
    Rdr w0 (W.setCell ⟨R, 2, none⟩ (.slice Ap N cp)) R A n c ⟨at_, l, out⟩ := by
  subst hl
  exact ⟨Ap, cp, Ax, cx, heap_setCell_same W R 2 _ _ _ hR, own_set hn hR (by decide) _, own_set h2 hR (by decide) _, h3.setCell (p := ⟨R, 2, none⟩) h4 _, h4⟩
section
variable (A : Option Addr) (n c : Nat) (w0 : World)
set_option maxRecDepth 100000 in
set_option maxHeartbeats 2000000 in
theorem end_any (s : RSt) (R num : Nat) (W : World) (h : Rdr w0 W R A n c s) :
    Calls Tryd.prog 94 #[.pointer (some ⟨R, 0, none⟩), .int .i64 num] W fun e w' => e = .returned (.int .i64 (if s.opn.getLast? = some num then 0 else 4)) ∧ (s.opn.getLast? = some num → Rdr w0 w' R A n c ⟨s.at_, s.opn.dropLast, s.out⟩) ∧ Below w0.heap.size w0 w' := by
  obtain ⟨Ao, co, Ax, cx, hR, o1, o2, hbel, h4⟩ := h
  obtain ⟨at_, opn, out⟩ := s
  simp only at hR o1 o2 ⊢
  obtain ⟨c2, c3, f2, f3⟩ := rd_cells hR
  rcases List.eq_nil_or_concat opn with rfl | ⟨l, x, rfl⟩
  · rw [if_neg (by simp)]
    clear o1 o2
    simp only [List.length_nil] at c2
    go_enter Tryd.func94, Tryd.ntmps94
    go_wp2_with fail
    go_ret
    exact ⟨rfl, fun h => by simp at h, hbel⟩
  · obtain ⟨g, rfl⟩ : ∃ g, Ao = some ⟨g, 0, none⟩ := by
      rcases o1.2 with ⟨_, h0⟩ | ⟨g, cap, cur, hv, _⟩
      · simp at h0
      · injection hv with hA
        exact ⟨g, hA⟩
    obtain ⟨m, hm⟩ : ∃ m, l.length = m := ⟨_, rfl⟩
    have hN : (l ++ [x]).length = m + 1 := by simp [hm]
    have hN2 : (l.concat x).length = m + 1 := by simp [hm]
    have hcap := own_cap o1
    have hx : W.cell? ⟨g, m, none⟩ = some (.int .i64 x) := by
      have := o1.cellAt m (by omega)
      rw [this]
      simp [icl, ← hm]
    have o3 : W.ownsRow w0.heap.size 3 1 (.slice (some ⟨g, 0, none⟩) m co) m (icl l) := by
      have := own_prefix o1 (m := m) (by omega)
      rwa [show (icl (l.concat x)).take m = icl l by simp [icl, ← hm]] at this
    have hrd := Rdr.popO hR o2 hbel h4 o3 hm
    obtain ⟨N, hNN⟩ : ∃ N, m + 1 = N := ⟨_, rfl⟩
    rw [hN2, hNN] at c2
    rw [hN2, hNN] at hcap
    have hw1 : wrap64 ((N : Int) - 1) = (m : Int) := by unfold wrap64; omega
    have hw2 : IntKind.i64.wrap ((N : Int) - 1) = (m : Int) := by rw [show (N : Int) - 1 = (m : Int) by omega]; exact wrap_small m (by omega)
    have hlt1 : (m : Int) < (N : Int) := by omega
    have hlt2 : m < N := by omega
    have hle3 : (m : Int) ≤ (co : Int) := by omega
    have hle4 : m ≤ co := by omega
    have hlast : (l.concat x).getLast? = some num ↔ x = num := by simp
    have hdrop : (l.concat x).dropLast = l := by simp
    rw [hdrop]
    simp only [hlast]
    clear o1 o2 o3 hN hN2 hlast hdrop hNN hcap hR hm
    by_cases hxn : x = num
    · rw [if_pos hxn]
      have hb : ((x : Int) != (num : Int)) = false := by simp; omega
      go_enter Tryd.func94, Tryd.ntmps94
      go_wp2_with fail
      go_ret
      exact ⟨rfl, fun _ => hrd, hrd.bel⟩
    · rw [if_neg hxn]
      have hb : ((x : Int) != (num : Int)) = true := by simp; omega
      go_enter Tryd.func94, Tryd.ntmps94
      go_wp2_with fail
      go_ret
      exact ⟨rfl, fun h => absurd h hxn, hbel⟩
end
end Go.Proofs.YtanfnjlndckhkaaDoor
