/- WALKS: the reference of layer 2: put, get and what is over them. -/
import Derived.Test.YtlgokfgbcohioaaDoorGet
namespace Go.Proofs.YtlgokfgbcohioaaDoor
open Go.RowKit Plain

theorem leTo_snoc (k n : Nat) : le (k + 1) n = le k n ++ [leB n k] := by simp [le, List.range_succ]

set_option maxHeartbeats 400000 in
theorem rput_any (n k : Nat) (hn : n < 18446744073709551616) (hk : k ≤ 8) (w : World) :
    Calls Tryd.prog 115 #[.int .u64 n, .int .i64 k] w fun e w' => ∃ A c, e = .returned (.slice A k c) ∧
      w'.ownsRow w.heap.size 5 1 (.slice A k c) k (bcl (le k n)) ∧ Below w.heap.size w w' := by
  go_enter Tryd.func115, Tryd.ntmps115
  go_wp2
  go_loopw [5, 6, 7] (fun v x i wr => ∃ (j : Nat) (A : Option Addr) (c : Nat), i = .int .i64 j ∧ j ≤ k ∧ x = .int .u64 (n / 256 ^ j : Nat) ∧ v = .slice A j c ∧
      wr.ownsRow w.heap.size 5 1 (.slice A j c) j (bcl (le j n)) ∧ Below w.heap.size w wr) (fun _ _ i _ => k - (intOf i).toNat)
  case atStart => exact ⟨0, none, 0, rfl, by omega, by simp, rfl, World.ownsRow_nil _ _ _ _, Below.refl _ _⟩
  case round =>
    obtain ⟨j, A, c, rfl, hj, rfl, rfl, hx, hB⟩ := hrel
    have hb0 := hB.size
    have hq : n / 256 ^ j < 18446744073709551616 := Nat.lt_of_le_of_lt (Nat.div_le_self _ _) hn
    have hq2 : n / 256 ^ (j + 1) = n / 256 ^ j / 256 := by rw [Nat.pow_succ, Nat.div_div_eq_div_mul]
    have hq3 : (leB n j).toNat = n / 256 ^ j % 256 := by simp [leB]
    have HQ := Lib.hid hq2
    have HQ3 := Lib.hid hq3
    clear hq2 hq3
    generalize hm : n / 256 ^ j = m at *
    have HM := Lib.hid hm
    clear hm
    by_cases hlt : j < k
    · go_wp2_with (at_builtin; refine wpList_app1 rfl _ _ _ rfl elemB rfl hx rfl rfl (by intro u hu; simp at hu; subst hu; rfl) (by unfold maxLen; omega) (by omega) hb0 ?_; intro A1 c1 w2 hown2 hg2 _)
      go_roundw
      case rel =>
        refine ⟨j + 1, A1, c1, by go_num, hlt, by rw [HQ.out]; go_num, rfl, ?_, own_grown hB hx hb0 hg2⟩
        rw [leTo_snoc, byte_app]
        have e : bcl [leB n j] = [.int .u8 ((m : Int) % 256)] := by simp [bcl, HQ3.out]
        rw [e]
        simpa using hown2
      case measure => simp [intOf]; omega
    · obtain rfl : j = k := by omega
      go_wp2
      go_ret
      exact ⟨A, c, rfl, hx, hB⟩

theorem un_down {l : List UInt8} {q i k : Nat} (hi : i < k) (h : q + k ≤ l.length) :
    un ((l.drop (q + i)).take (k - i)) = 256 * un ((l.drop (q + (i + 1))).take (k - (i + 1))) + (l[q + i]'(by omega)).toNat := by
  rw [List.drop_eq_getElem_cons (show q + i < l.length by omega), show k - i = (k - (i + 1)) + 1 by omega, List.take_succ_cons, un]
  rw [Nat.add_comm, Nat.add_assoc]
theorem un_take_lt (l : List UInt8) (q k : Nat) (hk : k ≤ 7) : un ((l.drop q).take k) < 72057594037927936 := by
  have h := un_lt ((l.drop q).take k)
  have h2 : 256 ^ ((l.drop q).take k).length ≤ 256 ^ 7 := Nat.pow_le_pow_right (by omega) (by simp; omega)
  omega
theorem un_take_lt8 (l : List UInt8) (q k : Nat) (hk : k ≤ 8) : un ((l.drop q).take k) < 18446744073709551616 := by
  have h := un_lt ((l.drop q).take k)
  have h2 : 256 ^ ((l.drop q).take k).length ≤ 256 ^ 8 := Nat.pow_le_pow_right (by omega) (by simp; omega)
  omega

set_option maxHeartbeats 400000 in
theorem rget_any (A : Option Addr) (n c : Nat) (l : List UInt8) (hn : l.length = n) (hc : l.length ≤ 9223372036854775807) (p : Int) (k : Nat) (hk : k ≤ 8) (hk0 : 0 < k) (B : Nat) (w : World) (hr : Rd w B A (bcl l)) :
    Calls Tryd.prog 120 #[.slice A n c, .int .i64 p, .int .i64 k] w fun e w' =>
      e = .returned (.tuple #[.int .u64 (fget k l p).1, .int .i64 (fget k l p).2.1, .int .i64 (fget k l p).2.2]) ∧ w = w' := by
  subst hn
  by_cases h0 : p < 0 ∨ (l.length : Int) < p
  · rw [fget_arg _ _ _ h0]
    by_cases h1 : p < 0
    · go_enter Tryd.func120, Tryd.ntmps120
      go_wp2
      go_ret3
      exact ⟨rfl, rfl⟩
    · have h2 : (l.length : Int) < p := by omega
      clear h0
      go_enter Tryd.func120, Tryd.ntmps120
      go_wp2
      go_ret3
      exact ⟨rfl, rfl⟩
  · obtain ⟨q, rfl⟩ : ∃ q : Nat, p = q := ⟨p.toNat, by omega⟩
    have h1 : q ≤ l.length := by omega
    clear h0
    by_cases h2 : l.length < q + k
    · rw [fget_short _ _ _ h1 h2]
      go_enter Tryd.func120, Tryd.ntmps120
      go_wp2
      go_ret3
      exact ⟨rfl, rfl⟩
    · rw [fget_ok _ _ _ (by omega)]
      obtain ⟨b, off, rfl, hb, hcell⟩ := hr.some_ (by simp [bcl]; omega)
      clear hr
      have HC := Lib.hid hcell
      clear hcell
      go_enter Tryd.func120, Tryd.ntmps120
      go_wp2
      go_loop [9, 10] (fun v x => ∃ j : Nat, x = .int .i64 ((j : Int) - 1) ∧ j ≤ k ∧ v = .int .u64 (un ((l.drop (q + j)).take (k - j)) : Nat)) (fun _ x => (intOf x + 1).toNat)
      case atStart => exact ⟨k, rfl, by omega, by simp [un]⟩
      case round =>
        obtain ⟨j, rfl, hj, rfl⟩ := hrel
        by_cases hj0 : j = 0
        · subst hj0
          go_wp2
          go_ret3
          exact ⟨rfl, rfl⟩
        · obtain ⟨i, rfl⟩ : ∃ i, j = i + 1 := ⟨j - 1, by omega⟩
          rw [show (((i + 1 : Nat) : Int) - 1) = (i : Int) by omega]
          have hcj := HC.out (q + i) (by simp [bcl]; omega)
          rw [bcl_get (show q + i < l.length by omega)] at hcj
          have hv := un_take_lt l (q + (i + 1)) (k - (i + 1)) (by omega)
          have HU := Lib.hid (un_down (l := l) (q := q) (i := i) (k := k) (by omega) (by omega))
          have hlt := (l[q + i]'(by omega)).toNat_lt
          generalize un ((l.drop (q + (i + 1))).take (k - (i + 1))) = v at *
          generalize (l[q + i]'(by omega)).toNat = x at *
          go_wp2
          go_round
          case rel => exact ⟨i, by go_num, by omega, by rw [HU.out]; go_num⟩
          case measure => simp [intOf]

theorem fget_lt (l : List UInt8) (p : Int) : (fget 4 l p).1 < 4294967296 := by
  unfold fget
  split
  · simp
  · split
    · simp
    · have h := un_lt ((l.drop p.toNat).take 4)
      have h2 : 256 ^ ((l.drop p.toNat).take 4).length ≤ 256 ^ 4 := Nat.pow_le_pow_right (by omega) (by simp; omega)
      simp only
      omega
theorem rget4_any (A : Option Addr) (n c : Nat) (l : List UInt8) (hn : l.length = n) (hc : l.length ≤ 9223372036854775807) (p : Int) (B : Nat) (w : World) (hr : Rd w B A (bcl l)) :
    Calls Tryd.prog 113 #[.slice A n c, .int .i64 p] w fun e w' =>
      e = .returned (.tuple #[.int .u32 (fget 4 l p).1, .int .i64 (fget 4 l p).2.1, .int .i64 (fget 4 l p).2.2]) ∧ w = w' := by
  have hb := fget_lt l p
  go_enter Tryd.func113, Tryd.ntmps113
  go_wp2_with fail
  refine (rget_any A n c l hn hc p 4 (by omega) (by omega) B _ hr).mono ?_
  rintro e w1 ⟨rfl, rfl⟩
  go_wp2
  go_ret3
  exact ⟨rfl, rfl⟩
theorem rget8_any (A : Option Addr) (n c : Nat) (l : List UInt8) (hn : l.length = n) (hc : l.length ≤ 9223372036854775807) (p : Int) (B : Nat) (w : World) (hr : Rd w B A (bcl l)) :
    Calls Tryd.prog 112 #[.slice A n c, .int .i64 p] w fun e w' =>
      e = .returned (.tuple #[.int .u64 (fget 8 l p).1, .int .i64 (fget 8 l p).2.1, .int .i64 (fget 8 l p).2.2]) ∧ w = w' := by
  go_enter Tryd.func112, Tryd.ntmps112
  go_wp2_with fail
  refine (rget_any A n c l hn hc p 8 (by omega) (by omega) B _ hr).mono ?_
  rintro e w1 ⟨rfl, rfl⟩
  go_wp2
  go_ret3
  exact ⟨rfl, rfl⟩
theorem rput4_any (n : Nat) (hn : n < 4294967296) (w : World) :
    Calls Tryd.prog 96 #[.int .u32 n] w fun e w' => ∃ A c, e = .returned (.slice A 4 c) ∧
      w'.ownsRow w.heap.size 5 1 (.slice A 4 c) 4 (bcl (le 4 n)) ∧ Below w.heap.size w w' := by
  go_enter Tryd.func96, Tryd.ntmps96
  go_wp2_with fail
  refine (rput_any n 4 (by omega) (by omega) _).mono ?_
  rintro e w1 ⟨A, c, rfl, hown, hB⟩
  go_wp2
  go_ret
  exact ⟨A, c, rfl, hown, hB⟩
theorem rput8_any (n : Nat) (hn : n < 18446744073709551616) (w : World) :
    Calls Tryd.prog 95 #[.int .u64 n] w fun e w' => ∃ A c, e = .returned (.slice A 8 c) ∧
      w'.ownsRow w.heap.size 5 1 (.slice A 8 c) 8 (bcl (le 8 n)) ∧ Below w.heap.size w w' := by
  go_enter Tryd.func95, Tryd.ntmps95
  go_wp2_with fail
  refine (rput_any n 8 hn (by omega) _).mono ?_
  rintro e w1 ⟨A, c, rfl, hown, hB⟩
  go_wp2
  go_ret
  exact ⟨A, c, rfl, hown, hB⟩

end Go.Proofs.YtlgokfgbcohioaaDoor
