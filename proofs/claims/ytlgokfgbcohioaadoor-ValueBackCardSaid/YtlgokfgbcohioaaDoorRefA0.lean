/- WALKS: the reference of layer 1: Put; what Get needs. -/
import Derived.Test.YtlgokfgbcohioaaDoorLay
namespace Go.Proofs.YtlgokfgbcohioaaDoor
open Go.RowKit Plain

set_option maxHeartbeats 400000 in
theorem rvput_any (n : Nat) (hn : n < 18446744073709551616) (w : World) :
    Calls Tryd.prog 94 #[.int .u64 n] w fun e w' => ∃ A c, e = .returned (.slice A (vsize n) c) ∧
      w'.ownsRow w.heap.size 5 1 (.slice A (vsize n) c) (vsize n) (bcl (vput n)) ∧ Below w.heap.size w w' := by
  go_enter Tryd.func94, Tryd.ntmps94
  go_wp2
  go_loopw [3, 4] (fun v a wr => ∃ (m : Nat) (acc : List UInt8) (A : Option Addr) (c : Nat), m < 18446744073709551616 ∧ a = .int .u64 m ∧ v = .slice A acc.length c ∧
      wr.ownsRow w.heap.size 5 1 (.slice A acc.length c) acc.length (bcl acc) ∧ vput n = acc ++ vput m ∧ Below w.heap.size w wr) (fun _ a _ => (intOf a).toNat)
  case atStart => exact ⟨n, [], _, _, hn, rfl, rfl, World.ownsRow_nil _ _ _ _, rfl, Below.refl _ _⟩
  case round =>
    obtain ⟨m, acc, A, c, hm, rfl, rfl, hown, hv, hB⟩ := hrel
    have hlen : acc.length + (vput m).length ≤ 10 := by have e := congrArg List.length hv; rw [List.length_append] at e; have h2 := vsize_bd n; unfold vsize at h2; omega
    have hl1 : 1 ≤ (vput m).length := (vsize_bd m).1
    have HV := Lib.hid hv
    clear hv
    have hb0 := hB.size
    by_cases h0 : m < 128
    · have hd : decide ((128 : Int) ≤ (m : Int)) = false := by simp; omega
      have H0 := Lib.hid h0
      clear h0
      go_wp2_with (at_builtin; refine wpList_app1 rfl _ _ _ rfl elemB rfl hown rfl rfl (by intro u hu; simp at hu; subst hu; rfl) (by unfold maxLen; omega) (by omega) hb0 ?_; intro A1 c1 w2 hown2 hg2 _)
      go_ret
      obtain ⟨e1, e2⟩ := put_last HV.out H0.out
      rw [show (m : Int) % 256 = (m : Int) by have := H0.out; omega] at hown2
      exact ⟨A1, c1, by rw [e1]; rfl, by rw [e1, e2]; exact hown2, own_grown hB hown hb0 hg2⟩
    · have hd : decide ((128 : Int) ≤ (m : Int)) = true := by simp; omega
      have H0 := Lib.hid h0
      clear h0
      go_wp2_with (at_builtin; refine wpList_app1 rfl _ _ _ rfl elemB rfl hown rfl rfl (by intro u hu; simp at hu; subst hu; rfl) (by unfold maxLen; omega) (by omega) hb0 ?_; intro A1 c1 w2 hown2 hg2 _)
      go_roundw
      case rel =>
        refine ⟨m / 128, acc ++ [UInt8.ofNat (m % 128 + 128)], A1, c1, by omega, by go_num, by simp, ?_, ?_, own_grown hB hown hb0 hg2⟩
        · rw [List.length_append, bcl_snoc _ _ (by omega)]; exact hown2
        · rw [HV.out, vput_ge H0.out hm, List.append_assoc]; rfl
      case measure => have := H0.out; simp [intOf]; omega
/-! the reference's Get -/
theorem vget_arg (l : List UInt8) (p : Int) (h : p < 0 ∨ (l.length : Int) < p) : vget l p = (0, 0, 1) := by unfold vget; rw [if_pos h]
/-- what is left to do behind i bytes -/
theorem vgo_stop {i v : Nat} : ∀ {l : List UInt8}, l = [] → i < 10 → vgo (10 - i) i v l = (0, 0, 2) := by
  intro l hl hi
  subst hl
  obtain ⟨f, hf⟩ : ∃ f, 10 - i = f + 1 := ⟨9 - i, by omega⟩
  rw [hf]; rfl
theorem vgo_cons {i v : Nat} {c : UInt8} {l : List UInt8} (hi : i < 10) : vgo (10 - i) i v (c :: l) =
    if i = 9 ∧ 1 < c.toNat then (0, 0, 3) else if c.toNat < 128 then (v + c.toNat * 128 ^ i, i + 1, 0) else vgo (10 - (i + 1)) (i + 1) (v + c.toNat % 128 * 128 ^ i) l := by
  obtain ⟨f, hf⟩ : ∃ f, 10 - i = f + 1 := ⟨9 - i, by omega⟩
  have hf2 : 10 - (i + 1) = f := by omega
  rw [hf, hf2]; rfl
end Go.Proofs.YtlgokfgbcohioaaDoor
