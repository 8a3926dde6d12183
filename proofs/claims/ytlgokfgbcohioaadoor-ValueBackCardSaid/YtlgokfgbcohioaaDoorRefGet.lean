/- WALK: the reference's varint Get computes vget. -/
import Derived.Test.YtlgokfgbcohioaaDoorRefA0
namespace Go.Proofs.YtlgokfgbcohioaaDoor
open Go.RowKit Plain

theorem vget_of {l : List UInt8} {q : Nat} {r : Nat × Nat × Nat} (h : vgo 10 0 0 (l.drop q) = r) (hq : q ≤ l.length) :
    vget l q = if r.2.2 = 0 then (r.1, q + r.2.1, 0) else (0, 0, r.2.2) := by
  unfold vget
  rw [if_neg (by omega), Int.toNat_natCast, h]
theorem pow7 (i : Nat) : (2 : Int) ^ (7 * i) = ((128 ^ i : Nat) : Int) := by
  rw [show 128 ^ i = 2 ^ (7 * i) by rw [Nat.pow_mul]]; simp
theorem vstep_lt {v x i : Nat} (hi : i < 10) (hv : v < 128 ^ i) (h9 : i = 9 → x ≤ 1) : v + x % 128 * 128 ^ i < 18446744073709551616 := by
  by_cases h : i = 9
  · subst h
    have := h9 rfl
    have e : (128 : Nat) ^ 9 = 9223372036854775808 := by decide
    rw [e] at hv ⊢
    omega
  · have hp : 128 ^ (i + 1) ≤ 128 ^ 9 := Nat.pow_le_pow_right (by omega) (by omega)
    have e : (128 : Nat) ^ 9 = 9223372036854775808 := by decide
    rw [e, Nat.pow_succ] at hp
    have hm : x % 128 * 128 ^ i ≤ 127 * 128 ^ i := Nat.mul_le_mul_right _ (by omega)
    omega
theorem vstepE {v x i : Nat} (hi : i < 10) (hv : v < 128 ^ i) (h9 : i = 9 → x ≤ 1) :
    ((v : Int) + (x : Int) % 128 * 2 ^ (7 * i) % 18446744073709551616) % 18446744073709551616 = ((v + x % 128 * 128 ^ i : Nat) : Int) := by
  have h := vstep_lt hi hv h9
  rw [pow7]
  generalize hq : x % 128 * 128 ^ i = q at *
  have e : (x : Int) % 128 * ((128 ^ i : Nat) : Int) = (q : Int) := by rw [← hq, Int.natCast_mul]; rfl
  rw [e]
  omega
theorem vstep_pow {v x i : Nat} (hv : v < 128 ^ i) : v + x % 128 * 128 ^ i < 128 ^ (i + 1) := by
  have hm : x % 128 * 128 ^ i ≤ 127 * 128 ^ i := Nat.mul_le_mul_right _ (by omega)
  rw [Nat.pow_succ]
  omega

set_option maxHeartbeats 800000 in
set_option maxRecDepth 100000 in
theorem rvget_any (A : Option Addr) (n c : Nat) (l : List UInt8) (hn : l.length = n) (hl : l.length ≤ 140737488355328) (p : Int) (B : Nat) (w : World) (hr : Rd w B A (bcl l)) :
    Calls Tryd.prog 91 #[.slice A n c, .int .i64 p] w fun e w' =>
      e = .returned (.tuple #[.int .u64 (vget l p).1, .int .i64 (vget l p).2.1, .int .i64 (vget l p).2.2]) ∧ w = w' := by
  subst hn
  by_cases h0 : p < 0 ∨ (l.length : Int) < p
  · rw [vget_arg _ _ h0]
    by_cases h1 : p < 0
    · go_enter Tryd.func91, Tryd.ntmps91
      go_wp2
      go_ret3
      exact ⟨rfl, rfl⟩
    · have h2 : (l.length : Int) < p := by omega
      clear h0
      go_enter Tryd.func91, Tryd.ntmps91
      go_wp2
      go_ret3
      exact ⟨rfl, rfl⟩
  · obtain ⟨q, rfl⟩ : ∃ q : Nat, p = q := ⟨p.toNat, by omega⟩
    have h1 : q ≤ l.length := by omega
    clear h0
    have HR := Lib.hid hr
    clear hr
    go_enter Tryd.func91, Tryd.ntmps91
    go_wp2
    go_loop [7, 8, 9] (fun a b _ => ∃ i v : Nat, b = .int .i64 i ∧ i ≤ 10 ∧ a = .int .u64 v ∧ v < 128 ^ i ∧ q + i ≤ l.length ∧ vgo 10 0 0 (l.drop q) = vgo (10 - i) i v (l.drop (q + i))) (fun _ b _ => (10 - intOf b).toNat)
    case atStart => exact ⟨0, 0, rfl, by omega, rfl, by simp, h1, rfl⟩
    case round =>
      obtain ⟨i, v, rfl, hi, rfl, hv, hq, he⟩ := hrel
      have HE := Lib.hid he
      have HV := Lib.hid hv
      clear he hv
      by_cases hi10 : i = 10
      · subst hi10
        go_wp2
        go_ret3
        have e := vget_of (r := (0, 0, 3)) (HE.out.trans rfl) h1
        rw [e]
        exact ⟨rfl, rfl⟩
      · by_cases hend : q + i = l.length
        · have hd : decide (l.length ≤ q + i) = true := by simp; omega
          have hlt : i < 10 := by omega
          have e := vget_of (r := (0, 0, 2)) (HE.out.trans (vgo_stop (by simp; omega) hlt)) h1
          have E := Lib.hid e
          clear e hi10
          go_wp2
          go_ret3
          rw [E.out]
          exact ⟨rfl, rfl⟩
        · have hlt : i < 10 := by omega
          have hq2 : q + i < l.length := by omega
          have hd : decide (l.length ≤ q + i) = false := by simp; omega
          have hcons : vgo (10 - i) i v (l.drop (q + i)) = _ := (congrArg (vgo (10 - i) i v) (List.drop_eq_getElem_cons hq2)).trans (vgo_cons hlt)
          obtain ⟨b, off, rfl, hb, hcell⟩ := HR.out.some_ (by simp [bcl]; omega)
          have hcj := hcell (q + i) (by simp [bcl]; omega)
          rw [bcl_get hq2] at hcj
          have hx : (l[q + i]'hq2).toNat < 256 := (l[q + i]'hq2).toNat_lt
          clear hcell
          generalize (l[q + i]'hq2).toNat = x at *
          have HC := Lib.hid (HE.out.trans hcons)
          clear hcons HE hi10 hend
          by_cases h9 : i = 9 ∧ 1 < x
          · have e := vget_of (r := (0, 0, 3)) (HC.out.trans (if_pos h9)) h1
            have E := Lib.hid e
            obtain ⟨rfl, hx1⟩ := h9
            clear e HC
            go_wp2
            go_ret3
            rw [E.out]
            exact ⟨rfl, rfl⟩
          · have HC2 := Lib.hid (HC.out.trans (if_neg h9))
            clear HC
            have hvs := vstepE hlt HV.out (fun e => (by omega : x ≤ 1))
            have HVS := Lib.hid hvs
            clear hvs
            by_cases hi9 : i = 9
            · subst hi9
              have hx1 : x ≤ 1 := by omega
              have hm : x % 128 = x := by omega
              have e : vget l q = (v + x * 128 ^ 9, q + (9 + 1), 0) := (vget_of (HC2.out.trans (if_pos (by omega))) h1).trans (if_pos rfl)
              have E := Lib.hid e
              have HM := Lib.hid hm
              clear e HC2 hm h9
              go_wp2
              go_ret3
              rw [E.out]
              refine ⟨ret3_int ?_ (by simp only; omega) rfl, rfl⟩
              have e := HVS.out
              rw [HM.out] at e
              simp only [IntKind.wrap_u64]
              rw [← e]
              omega
            · have hi9' : ((i : Int) == 9) = false := by rw [beq_eq_false_iff_ne]; omega
              have HI := Lib.hid hi9
              clear h9 hi9
              go_wp2
              · go_ret3
                have hx2 : x < 128 := by omega
                have hm : x % 128 = x := by omega
                have e : vget l q = (v + x * 128 ^ i, q + (i + 1), 0) := (vget_of (HC2.out.trans (if_pos hx2)) h1).trans (if_pos rfl)
                rw [e]
                refine ⟨ret3_int ?_ (by simp only; omega) rfl, rfl⟩
                have e := HVS.out
                rw [hm] at e
                simp only [IntKind.wrap_u64]
                exact e
              · go_round
                case rel =>
                  have hx2 : ¬ x < 128 := by omega
                  have hlt2 := HI.out
                  refine ⟨i + 1, v + x % 128 * 128 ^ i, by go_num, by omega, ?_, vstep_pow HV.out, by omega, ?_⟩
                  · simp only [IntKind.wrap_u64]; rw [HVS.out]
                  · exact HC2.out.trans (if_neg hx2)
                case measure => simp [intOf]; omega
end Go.Proofs.YtlgokfgbcohioaaDoor
