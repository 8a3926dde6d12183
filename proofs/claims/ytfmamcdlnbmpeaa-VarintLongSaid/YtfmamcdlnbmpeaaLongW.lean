/- LAW WALK: VarintLong -/
import Derived.Test.YtfmamcdlnbmpeaaVarL
import Derived.Test.YtfmamcdlnbmpeaaVGetC
import Derived.Test.YtfmamcdlnbmpeaaAppB
import Derived.Test.YtfmamcdlnbmpeaaZigLawW
import Derived.Laws.OwnMore
namespace Go.Proofs.Ytfmamcdlnbmpeaa
open Go.RowKit Plain

theorem or128x {x : Nat} (h : x < 128) : bits BinOp.or IntKind.u8 (x : Int) 128 = ((x + 128 : Nat) : Int) := by
  have e := or128 x
  rw [show ((x : Int) % 256) = x by omega, show x % 128 + 128 = x + 128 by omega] at e
  exact e
theorem bcl_setl (ini : List UInt8) (x y : Nat) (hy : y < 256) : (bcl (ini ++ [UInt8.ofNat x])).set ini.length (.int .u8 (y : Int)) = bcl (ini ++ [UInt8.ofNat y]) := by
  simp [bcl, UInt8.toNat_ofNat', Nat.mod_eq_of_lt hy]
def slen : Value → Nat | .slice _ n _ => n | _ => 0

set_option maxHeartbeats 1600000 in
theorem vlong_any (n m : Nat) (w : World) (hn : n < 18446744073709551616) (hm : m < 256) :
    Calls Try.prog 10 #[.int .u64 n, .int .u8 m] w fun e w' => e = .returned (.bool true) ∧ Below w.heap.size w w' := by
  have hbd := vsize_bd n
  go_enter Try.func10, Try.ntmps10
  go_wp2_with fail
  refine (put_any n hn _).mono ?_
  rintro e w1 ⟨A1, c1, rfl, ho1, hB1⟩
  obtain ⟨ini0, x0, ht0⟩ := told_vput hn
  have HT0 := Lib.hid ht0
  clear ht0
  go_wp2_with fail
  go_loopw [5] (fun b wr => ∃ (k : Nat) (A : Option Addr) (c : Nat) (L ini : List UInt8) (x : Nat), b = .slice A k c ∧ L.length = k ∧ vsize n ≤ k ∧ k ≤ 10 ∧ Plain.Told n L ini x ∧
      wr.ownsRow w.heap.size 5 1 (.slice A k c) k (bcl L) ∧ Below w.heap.size w wr) (fun b _ => 10 - slen b)
  case atStart => exact ⟨vsize n, A1, c1, vput n, ini0, x0, rfl, rfl, Nat.le_refl _, hbd.2, HT0.out, ho1, hB1⟩
  case round =>
    obtain ⟨k, A, c, L, ini, x, rfl, hL, hk1, hk2, ht, hown, hB⟩ := hrel
    have HT := Lib.hid ht
    clear ho1 hB1 ht
    by_cases hlt : k ≤ m % 10 ∧ k < 9
    · obtain ⟨hlt1, hlt2⟩ := hlt
      obtain ⟨rfl, hx, hi10, -, -⟩ := HT.out
      have hkl : ini.length + 1 = k := by simpa using hL
      obtain ⟨g, cap, he⟩ := ownsRow_succ (k := ini.length) (by rw [hkl]; exact hown)
      rw [hkl] at he
      injection he with he1 _ he3
      subst he1
      have hcell : wr.cell? ⟨g, ini.length, none⟩ = some (.int .u8 (x : Int)) := by
        obtain ⟨b, off, e, _, hc⟩ := (Rd.of_own hown).some_ (by simp [bcl])
        injection e with e1
        injection e1 with e2 e3
        subst e2 e3
        have h := hc ini.length (by simp [bcl])
        rw [Nat.zero_add] at h
        rw [h, bcl_snoc _ _ (by omega)]
        simp [bcl]
      have hfz := hown.frozenAt ini.length
      have HL := Lib.hid hL
      clear hL he3
      subst hkl
      have hst := hown.stored ini.length (.int .u8 (bits BinOp.or IntKind.u8 (x : Int) 128))
      have hB2 := own_grown hB hown hB.size hst.2
      have hb0 := hB2.size
      go_wp2_with (at_builtin; go_loud (refine wpList_app1 rfl (.tmp 46) (.tmp 47) 26 rfl elemB rfl hst.1 (by simp [go_sem]; rfl) rfl (by intro u hu; simp at hu; subst hu; rfl) (by unfold maxLen; omega) (by omega) hb0 ?_); intro A1 c1 w2 hown2 hg2 _)
      go_roundw
      case rel =>
        rw [or128x hx, bcl_setl _ _ _ (by omega)] at hown2
        refine ⟨_, A1, c1, ini ++ [UInt8.ofNat (x + 128)] ++ [UInt8.ofNat 0], _, 0, rfl, by simp, by omega, by omega, told_more HT.out hlt2, ?_, own_grown hB2 hst.1 hb0 hg2⟩
        rw [bcl_snoc _ _ (by omega)]
        exact hown2
      case measure => simp [slen]; omega
    · have hcap := own_cap hown
      have hr := Rd.of_own hown
      go_wp2_with fail
      all_goals
        refine (vget_any A k c L hL hcap.1 hcap.2 (by omega) 0 _ hr).mono ?_
        rintro e w2 ⟨rfl, hB2⟩
        rw [told_get HT.out, hL]
        replace hB := bel_step hB hB2
        clear hB2 hr hcap hown HT
        go_wp2_with fail
        go_loopw [10, 11] (fun o i wr => ∃ (j : Nat) (A : Option Addr) (c : Nat), j ≤ 12 ∧ i = .int .i64 j ∧ o = .slice A j c ∧
          wr.ownsRow w.heap.size 5 1 (.slice A j c) j (bcl (List.replicate j (UInt8.ofNat 128))) ∧ Below w.heap.size w wr) (fun _ i _ => 12 - (intOf i).toNat)
        case atStart => exact ⟨0, none, 0, by omega, rfl, rfl, ⟨rfl, .inl ⟨rfl, rfl⟩⟩, hB⟩
        case round =>
          clear hB
          obtain ⟨j, A3, c3, hj, rfl, rfl, hown3, hB3⟩ := hrel
          by_cases hlt3 : j < 12
          · have hcap3 := own_cap hown3
            have hr3 := Rd.of_own hown3
            go_wp2_with fail
            refine (vget_any A3 j c3 _ (List.length_replicate ..) hcap3.1 hcap3.2 (by rw [List.length_replicate]; omega) 0 _ hr3).mono ?_
            rintro e w4 ⟨rfl, hB4⟩
            rw [vget_open ⟨j, by omega⟩]
            have hown4 := own_kept hown3 hB4 (Nat.le_refl _)
            have hB5 := bel_step hB3 hB4
            have hb5 := hB5.size
            clear hown3 hB4 hB3 hr3 hcap3
            by_cases h10 : j < 10
            · rw [if_pos h10]
              go_wp2_with (at_builtin; refine wpList_app1 rfl _ _ _ rfl elemB rfl hown4 rfl rfl (by intro u hu; simp at hu; subst hu; rfl) (by unfold maxLen; omega) (by omega) hb5 ?_; intro A1 c1 w5 hown5 hg5 _)
              go_roundw
              case rel => exact ⟨j + 1, _, _, by omega, by go_num, rfl, by rw [List.replicate_succ', bcl_snoc _ _ (by omega)]; exact hown5, own_grown hB5 hown4 hb5 hg5⟩
              case measure => simp [intOf]; omega
            · rw [if_neg h10]
              go_wp2_with (at_builtin; refine wpList_app1 rfl _ _ _ rfl elemB rfl hown4 rfl rfl (by intro u hu; simp at hu; subst hu; rfl) (by unfold maxLen; omega) (by omega) hb5 ?_; intro A1 c1 w5 hown5 hg5 _)
              go_roundw
              case rel => exact ⟨j + 1, _, _, by omega, by go_num, rfl, by rw [List.replicate_succ', bcl_snoc _ _ (by omega)]; exact hown5, own_grown hB5 hown4 hb5 hg5⟩
              case measure => simp [intOf]; omega
          · go_wp2_with fail
            refine (awake1_any _).mono ?_
            rintro e w9 ⟨rfl, hB9⟩
            go_wp2_with fail
            go_ret
            exact ⟨rfl, bel_step hB3 hB9⟩
end Go.Proofs.Ytfmamcdlnbmpeaa
