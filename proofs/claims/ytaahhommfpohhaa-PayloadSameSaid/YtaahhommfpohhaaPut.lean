/- WALK: varint.Put returns vput. -/
import Derived.Test.YtaahhommfpohhaaSize
import Derived.Test.YtaahhommfpohhaaBase
namespace Go.Proofs.Ytaahhommfpohhaa
open Go.RowKit Plain

theorem elemB : Elem Try.prog 32 5 (.int .u8 0) 1 1 :=
  ⟨Try.underlying32, info_parts (show (Try.prog.info? 5).map (fun i => (i.zero, i.size, i.bytes)) = some (some (.int .u8 0), 1, 1) by kernel_rfl), rfl, by omega⟩

theorem bcl_snoc (acc : List UInt8) (k : Nat) (hk : k < 256) : bcl (acc ++ [UInt8.ofNat k]) = bcl acc ++ [.int .u8 (k : Int)] := by
  simp [bcl, UInt8.toNat_ofNat', Nat.mod_eq_of_lt hk]
theorem put_last {acc : List UInt8} {m n : Nat} (h : vput n = acc ++ vput m) (h0 : m < 128) : vsize n = acc.length + 1 ∧ bcl (vput n) = bcl acc ++ [.int .u8 (m : Int)] := by
  rw [vput_lt h0] at h
  exact ⟨by simp [vsize, h], by rw [h, bcl_snoc _ _ (by omega)]⟩
theorem or128 (m : Nat) : bits BinOp.or IntKind.u8 ((m : Int) % 256) 128 = ((m % 128 + 128 : Nat) : Int) := by
  have h : ∀ x : Fin 256, bits BinOp.or IntKind.u8 ((x.val : Nat) : Int) 128 = ((x.val % 128 + 128 : Nat) : Int) := by decide +kernel
  have h1 := h ⟨m % 256, Nat.mod_lt _ (by omega)⟩
  simp only at h1
  have e : m % 256 % 128 = m % 128 := by omega
  rw [e] at h1
  exact h1

set_option maxHeartbeats 400000 in
theorem put_any (n : Nat) (hn : n < 18446744073709551616) (w : World) :
    Calls Try.prog 70 #[.int .u64 n] w fun e w' => ∃ A c, e = .returned (.slice A (vsize n) c) ∧
      w'.ownsRow w.heap.size 5 1 (.slice A (vsize n) c) (vsize n) (bcl (vput n)) ∧ Below w.heap.size w w' := by
  obtain ⟨i0, hi, hz0, hz1, hz2⟩ := elemB.info
  have hb := vsize_bd n
  go_enter Try.func70, Try.ntmps70
  go_wp2_with (first
    | (go_at_call 81; refine (size_any n hn _).mono ?_; rintro e w' ⟨rfl, rfl⟩)
    | (at_make; refine wpList_make_own _ rfl _ _ 32 rfl w.heap.size 5 i0 (.int .u8 0) 1 elemB.ht hi hz0 hz1 .i64 .i64 _ (vsize n) rfl rfl rfl (by rw [hz2]; omega) (by unfold maxLen; omega) (Nat.le_refl _) ?_; intro w1 hown hgrow))
  have hB := (Below.refl w.heap.size w).grown hgrow (Nat.le_refl _) (fun _ h => by cases h)
  clear hgrow hz0 hz1 hz2 hi hb
  go_loopw [0, 3] (fun a v wr => ∃ (m : Nat) (acc : List UInt8) (A : Option Addr) (c : Nat), m < 18446744073709551616 ∧ a = .int .u64 m ∧ v = .slice A acc.length c ∧
      wr.ownsRow w.heap.size 5 1 (.slice A acc.length c) acc.length (bcl acc) ∧ vput n = acc ++ vput m ∧ Below w.heap.size w wr) (fun a _ _ => (intOf a).toNat)
  case atStart => exact ⟨n, [], _, _, hn, rfl, rfl, hown, rfl, hB⟩
  case round =>
    clear hown hB
    obtain ⟨m, acc, A, c, hm, rfl, rfl, hown, hv, hB⟩ := hrel
    have hlen : acc.length + (vput m).length ≤ 10 := by have e := congrArg List.length hv; rw [List.length_append] at e; have h2 := vsize_bd n; unfold vsize at h2; omega
    have hl1 : 1 ≤ (vput m).length := (vsize_bd m).1
    have HV := Lib.hid hv
    clear hv
    have hb0 := hB.size
    by_cases h0 : m < 128
    · go_wp2_with (at_builtin; go_loud (refine wpList_app1 rfl _ _ _ rfl elemB rfl hown rfl rfl (by intro u hu; simp at hu; subst hu; rfl) (by unfold maxLen; omega) (by omega) hb0 ?_); intro A1 c1 w2 hown2 hg2 _)
      go_ret
      obtain ⟨e1, e2⟩ := put_last HV.out h0
      exact ⟨A1, c1, by rw [e1]; rfl, by rw [e1, e2]; exact hown2, own_grown hB hown hb0 hg2⟩
    · go_wp2_with (at_builtin; refine wpList_app1 rfl _ _ _ rfl elemB rfl hown rfl rfl (by intro u hu; simp at hu; subst hu; rfl) (by unfold maxLen; omega) (by omega) hb0 ?_; intro A1 c1 w2 hown2 hg2 _)
      go_roundw
      case rel =>
        rw [or128] at hown2
        refine ⟨m / 128, acc ++ [UInt8.ofNat (m % 128 + 128)], A1, c1, by omega, by go_num, by simp, ?_, ?_, own_grown hB hown hb0 hg2⟩
        · rw [List.length_append, bcl_snoc _ _ (by omega)]; exact hown2
        · rw [HV.out, vput_ge h0 hm, List.append_assoc]; rfl
      case measure => simp [intOf]; omega
end Go.Proofs.Ytaahhommfpohhaa
