/- LAW WALK: FixedHalves -/
import Derived.Test.YtfmamcdlnbmpeaaGet
import Derived.Test.YtfmamcdlnbmpeaaTurnsW
namespace Go.Proofs.Ytfmamcdlnbmpeaa
open Go.RowKit Plain

theorem un_halves (l : List UInt8) (p : Nat) (h : p + 8 ≤ l.length) :
    un ((l.drop p).take 8) = un ((l.drop p).take 4) + un ((l.drop (p + 4)).take 4) * 4294967296 := by
  have e : (l.drop p).take 8 = (l.drop p).take 4 ++ (l.drop (p + 4)).take 4 := by
    rw [← List.drop_drop, show (8 : Nat) = 4 + 4 from rfl, List.take_add]
  rw [e, un_append]
  simp [show min 4 (l.length - p) = 4 by omega, Nat.mul_comm]
theorem un4_lt (l : List UInt8) (p : Nat) : un ((l.drop p).take 4) < 4294967296 := by
  have h := un_lt ((l.drop p).take 4)
  have h2 : 256 ^ ((l.drop p).take 4).length ≤ 256 ^ 4 := Nat.pow_le_pow_right (by omega) (by simp; omega)
  omega

set_option maxHeartbeats 400000 in
theorem halves_any (A : Option Addr) (c : Nat) (l : List UInt8) (p : Int) (w : World) (hnc : l.length ≤ c) (hc : c ≤ maxLen) (hl : l.length ≤ 140737488355328) (hr : Rd w w.heap.size A (bcl l)) (hp : -9223372036854775808 ≤ p ∧ p ≤ 9223372036854775807) :
    Calls Try.prog 6 #[.slice A l.length c, .int .i64 p] w fun e w' => e = .returned (.bool true) ∧ Below w.heap.size w w' := by
  unfold maxLen at hc
  go_enter Try.func6, Try.ntmps6
  go_wp2_with fail
  refine (get8_any A l.length c l rfl hnc hc p _ w hr).mono ?_
  rintro e w1 ⟨rfl, rfl⟩
  by_cases h0 : p < 0 ∨ (l.length : Int) < p
  · rw [fget_arg _ _ _ h0]
    go_wp2_with fail
    refine (get4_any A l.length c l rfl hnc hc p _ w hr).mono ?_
    rintro e w1 ⟨rfl, rfl⟩
    rw [fget_arg _ _ _ h0]
    go_wp2_with fail
    refine (awake2_any _).mono ?_
    rintro e w6 ⟨rfl, hB6⟩
    go_wp2_with fail
    go_ret
    exact ⟨rfl, hB6⟩
  · obtain ⟨q, rfl⟩ : ∃ q : Nat, p = q := ⟨p.toNat, by omega⟩
    have h1 : q ≤ l.length := by omega
    clear h0
    by_cases h2 : l.length < q + 8
    · rw [fget_short _ _ _ h1 h2]
      go_wp2_with fail
      refine (get4_any A l.length c l rfl hnc hc q _ w hr).mono ?_
      rintro e w1 ⟨rfl, rfl⟩
      by_cases h3 : l.length < q + 4
      · rw [fget_short _ _ _ h1 h3]
        go_wp2_with fail
        refine (awake2_any _).mono ?_
        rintro e w6 ⟨rfl, hB6⟩
        go_wp2_with fail
        go_ret
        exact ⟨rfl, hB6⟩
      · rw [fget_ok _ _ _ (by omega)]
        go_wp2_with fail
        refine (awake2_any _).mono ?_
        rintro e w6 ⟨rfl, hB6⟩
        go_wp2_with fail
        go_ret
        exact ⟨rfl, hB6⟩
    · rw [fget_ok _ _ _ (by omega)]
      go_wp2_with fail
      refine (get4_any A l.length c l rfl hnc hc q _ w hr).mono ?_
      rintro e w1 ⟨rfl, rfl⟩
      rw [fget_ok _ _ _ (by omega)]
      go_wp2_with fail
      refine (get4_any A l.length c l rfl hnc hc (q + 4 : Nat) _ w hr).mono ?_
      rintro e w1 ⟨rfl, rfl⟩
      rw [fget_ok _ _ _ (by omega)]
      have hx := un4_lt l q
      have hy := un4_lt l (q + 4)
      rw [un_halves l q (by omega)]
      generalize un ((l.drop q).take 4) = x at *
      generalize un ((l.drop (q + 4)).take 4) = y at *
      go_wp2_with fail
      go_show
      refine (awake2_any _).mono ?_
      rintro e w6 ⟨rfl, hB6⟩
      go_wp2_with fail
      go_ret
      exact ⟨rfl, hB6⟩
end Go.Proofs.Ytfmamcdlnbmpeaa
