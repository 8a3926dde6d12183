/- LAW WALK: FixedTurns -/
import Derived.Test.YtfmamcdlnbmpeaaTurn
import Derived.BigQuiet
import Derived.Deep.QuietTactic
import Derived.StillTailTactics
namespace Go.Proofs.Ytfmamcdlnbmpeaa
open Go.RowKit Plain

theorem strB {w : World} {B : Nat} {A : Option Addr} {l : List UInt8} (hr : Rd w B A (bcl l)) {n : Nat} (hn : l.length = n) (c : Nat) :
    (convert 26 9 (.slice A n c)).run Try.prog w = .ok (.string ⟨l.toArray⟩) w :=
  hn ▸ run_str _ _ _ Try.underlying26 Try.underlying5 Try.underlying9 hr c

set_option maxHeartbeats 400000 in
theorem awake2_any (w : World) : Calls Try.prog 16 #[] w fun e w' => e = .returned (.bool true) ∧ Below w.heap.size w w' := by
  go_enter Try.func16, Try.ntmps16
  go_wp2_with fail
  refine (put4_any 258 (by omega) _).mono ?_
  rintro e w1 ⟨A, c, rfl, hown, hB⟩
  have hv : le 4 258 = [2, 1, 0, 0] := by decide +kernel
  rw [hv] at hown
  obtain ⟨b, off, rfl, _, hc⟩ := (Rd.of_own hown).some_ (by simp [bcl])
  have h0 := hc 0 (by simp [bcl])
  have h1 := hc 1 (by simp [bcl])
  have h2 := hc 2 (by simp [bcl])
  simp [bcl] at h0 h1 h2
  clear hc hown
  go_wp2_with fail
  go_ret
  exact ⟨rfl, hB⟩

theorem le4_bytes (n : Nat) (hn : n < 4294967296) : ∃ a b c d : Nat, a < 256 ∧ b < 256 ∧ c < 256 ∧ d < 256 ∧ a * 16777216 + b * 65536 + c * 256 + d = n ∧
    bcl (le 4 n).reverse = [.int .u8 a, .int .u8 b, .int .u8 c, .int .u8 d] := by
  refine ⟨n / 16777216 % 256, n / 65536 % 256, n / 256 % 256, n % 256, by omega, by omega, by omega, by omega, by omega, ?_⟩
  simp [le, List.range_succ, bcl, leB]

set_option maxHeartbeats 400000 in
theorem turns_any (A : Option Addr) (c : Nat) (l : List UInt8) (n : Nat) (w : World) (hl : l.length ≤ 140737488355328) (hr : Rd w w.heap.size A (bcl l)) (hn : n < 4294967296) :
    Calls Try.prog 4 #[.slice A l.length c, .int .u32 n] w fun e w' => e = .returned (.bool true) ∧ Below w.heap.size w w' := by
  have hs0 := strB hr rfl c
  go_enter Try.func4, Try.ntmps4
  go_wp2_with fail
  refine (turn_any A l.length c l rfl _ w hl hr (Nat.le_refl _)).mono ?_
  rintro e w1 ⟨A1, c1, rfl, hown1, hB1⟩
  have hr1 := hr.below hB1 (Nat.le_refl _)
  clear hs0
  go_wp2_with fail
  refine (turn_any A1 l.length c1 l.reverse (by simp) _ w1 (by simpa using hl) (Rd.of_own hown1) (Nat.le_refl _)).mono ?_
  rintro e w2 ⟨A2, c2, rfl, hown2, hB2⟩
  rw [List.reverse_reverse] at hown2
  have hr2 := hr1.below hB2 hB1.size
  have hs1 := strB (Rd.of_own hown2) rfl c2
  have hs2 := strB hr2 rfl c
  clear hown1 hr hr1 hown2
  go_wp2_with fail
  refine (put4_any n hn _).mono ?_
  rintro e w3 ⟨A3, c3, rfl, hown3, hB3⟩
  clear hs1 hs2
  go_wp2_with fail
  refine (turn_any A3 4 c3 (le 4 n) (le_length _ _) _ _ (by rw [le_length]; omega) (Rd.of_own hown3) (Nat.le_refl _)).mono ?_
  rintro e w4 ⟨A4, c4, rfl, hown4, hB4⟩
  obtain ⟨x0, x1, x2, x3, b0, b1, b2, b3, hsum, hcells⟩ := le4_bytes n hn
  rw [hcells] at hown4
  obtain ⟨b, off, rfl, _, hc⟩ := (Rd.of_own hown4).some_ (by simp)
  have h0 := hc 0 (by simp)
  have h1 := hc 1 (by simp)
  have h2 := hc 2 (by simp)
  have h3 := hc 3 (by simp)
  simp at h0 h1 h2 h3
  have he : ((x0 : Int) * 16777216 + (x1 : Int) * 65536 + (x2 : Int) * 256 + (x3 : Int) == (n : Int)) = true := by rw [beq_iff_eq]; omega
  have e0 : IntKind.u32.wrap (x0 : Int) = x0 := by rw [IntKind.wrap_u32]; omega
  have e1 : IntKind.u32.wrap (x1 : Int) = x1 := by rw [IntKind.wrap_u32]; omega
  have e2 : IntKind.u32.wrap (x2 : Int) = x2 := by rw [IntKind.wrap_u32]; omega
  have e3 : IntKind.u32.wrap (x3 : Int) = x3 := by rw [IntKind.wrap_u32]; omega
  have m0 : IntKind.u32.wrap ((x0 : Int) * 16777216) = (x0 : Int) * 16777216 := by rw [IntKind.wrap_u32]; omega
  have m1 : IntKind.u32.wrap ((x1 : Int) * 65536) = (x1 : Int) * 65536 := by rw [IntKind.wrap_u32]; omega
  have m2 : IntKind.u32.wrap ((x2 : Int) * 256) = (x2 : Int) * 256 := by rw [IntKind.wrap_u32]; omega
  have s1 : IntKind.u32.wrap ((x0 : Int) * 16777216 + (x1 : Int) * 65536) = (x0 : Int) * 16777216 + (x1 : Int) * 65536 := by rw [IntKind.wrap_u32]; omega
  have s2 : IntKind.u32.wrap ((x0 : Int) * 16777216 + (x1 : Int) * 65536 + (x2 : Int) * 256) = (x0 : Int) * 16777216 + (x1 : Int) * 65536 + (x2 : Int) * 256 := by rw [IntKind.wrap_u32]; omega
  have s3 : IntKind.u32.wrap ((x0 : Int) * 16777216 + (x1 : Int) * 65536 + (x2 : Int) * 256 + (x3 : Int)) = (x0 : Int) * 16777216 + (x1 : Int) * 65536 + (x2 : Int) * 256 + (x3 : Int) := by rw [IntKind.wrap_u32]; omega
  clear hcells hsum hc hown4 hown3 b0 b1 b2 b3
  go_wp2_with fail
  go_still_tail 30, (by kernel_rfl)
  change wpList _ _ _ _ _ w4.drew
  have hB5 := bel_step (bel_step (bel_step hB1 hB2) hB3) hB4.drew
  clear h0 h1 h2 h3 hr2 hB1 hB2 hB3 hB4 e0 e1 e2 e3 m0 m1 m2 s1 s2 s3
  generalize w4.drew = w5 at *
  go_wp2_with (go_at_call 16; refine (awake2_any _).mono ?_; rintro e w6 ⟨rfl, hB6⟩)
  go_ret
  exact ⟨rfl, bel_step hB5 hB6⟩
end Go.Proofs.Ytfmamcdlnbmpeaa
