/- LAW WALK: FixedBack -/
import Derived.Test.YtfmamcdlnbmpeaaAppB
import Derived.Test.YtfmamcdlnbmpeaaGet
import Derived.Test.YtfmamcdlnbmpeaaTurnsW
namespace Go.Proofs.Ytfmamcdlnbmpeaa
open Go.RowKit Plain

theorem fget_mid (k n : Nat) (l1 l2 : List UInt8) (hn : n < 256 ^ k) : fget k (l1 ++ le k n ++ l2) (l1.length : Nat) = (n, l1.length + k, 0) := by
  rw [fget_ok _ _ _ (by simp [le_length])]
  congr 1
  rw [List.append_assoc, List.drop_left, List.take_append_of_le_length (by simp [le_length]), List.take_of_length_le (by simp [le_length])]
  exact un_le k n hn

set_option maxHeartbeats 800000 in
theorem fixBack_any (n : Nat) (A1 : Option Addr) (c1 : Nat) (l1 : List UInt8) (A2 : Option Addr) (c2 : Nat) (l2 : List UInt8) (w : World) (hn : n < 18446744073709551616)
    (hl1 : l1.length ≤ 1048576) (hr1 : Rd w w.heap.size A1 (bcl l1)) (hl2 : l2.length ≤ 1048576) (hr2 : Rd w w.heap.size A2 (bcl l2)) :
    Calls Try.prog 7 #[.int .u64 n, .slice A1 l1.length c1, .slice A2 l2.length c2] w fun e w' => e = .returned (.bool true) ∧ Below w.heap.size w w' := by
  have ho0 := own_emptyB w (base := w.heap.size) (Nat.le_refl _)
  have hB0 := (Below.refl w.heap.size w).alloc (Nat.le_refl _) (.cells #[] 5)
  have hr10 := hr1.below hB0 (Nat.le_refl _)
  go_enter Try.func7, Try.ntmps7
  go_wp2_with (at_builtin; go_loud (refine wpList_appB rfl (.tmp 15) (.tmp 16) rfl rfl ho0 rfl hr10 rfl l1.length (by omega) (by omega) (by simp) ?_); intro A3 c3 w1 ho1 hg1)
  have hB1 := own_grown hB0 ho0 (by simp) hg1
  clear hg1 ho0 hB0 hr10
  refine (put4_any (n % 4294967296) (by omega) _).mono ?_
  rintro e w2 ⟨A4, c4, rfl, ho4, hB2⟩
  have ho1' := own_kept ho1 hB2 (Nat.le_refl _)
  have hB3 := hB1.trans (hB2.mono hB1.size)
  have hr4 := Rd.of_own ho4
  have hr25 := hr2.below hB3 (Nat.le_refl _)
  clear ho1 ho4 hB1 hB2
  have tok : True := trivial
  go_wp2_with (first
    | (at_builtin; refine wpList_appB rfl (.tmp 17) (.tmp 20) rfl rfl ho1' rfl hr4 (le_length _ _) (l1.length + 4) rfl (by omega) (hB3.size) ?_; intro A5 c5 w3 ho5 hg5; have hB5 := own_grown hB3 ho1' hB3.size hg5; have hr26 := hr2.below hB5 (Nat.le_refl _); clear hg5 ho1' hr4 hr25)
    | (at_builtin; refine wpList_appB rfl (.tmp 21) (.tmp 22) rfl rfl ho5 rfl hr26 rfl (l1.length + 4 + l2.length) rfl (by omega) (hB5.size) ?_; intro A6 c6 w4 ho6 hg6; have hB6 := own_grown hB5 ho5 hB5.size hg6; clear hg6 ho5 hr26 hB3 hB5; have hr6 := Rd.of_own ho6; have hcap6 := own_cap ho6; have ho7 := own_emptyB w4 (base := w4.heap.size) (Nat.le_refl _); have hB7 := (Below.refl w4.heap.size w4).alloc (Nat.le_refl _) (.cells #[] 5); have hr17 := (hr1.below hB6 (Nat.le_refl _)).below hB7 hB6.size)
    | (at_builtin; refine wpList_appB rfl (.tmp 24) (.tmp 25) rfl rfl ho7 rfl hr17 rfl l1.length (by omega) (by omega) hB7.size ?_; intro A8 c8 w5 ho8 hg8; have hB8 := own_grown hB7 ho7 hB7.size hg8; clear hB7 ho7 hr17 hg8 ho6))
  refine (put8_any n hn _).mono ?_
  rintro e w6 ⟨A9, c9, rfl, ho9, hB9⟩
  have ho8' := own_kept ho8 hB9 (Nat.le_refl _)
  have hB10 := hB8.trans (hB9.mono hB8.size)
  have hr9 := Rd.of_own ho9
  have hr29 := (hr2.below hB6 (Nat.le_refl _)).below hB10 hB6.size
  clear ho8 ho9 hB8 hB9
  go_wp2_with (first
    | (at_builtin; refine wpList_appB rfl (.tmp 26) (.tmp 28) rfl rfl ho8' rfl hr9 (le_length _ _) (l1.length + 8) rfl (by omega) (hB10.size) ?_; intro A11 c11 w7 ho11 hg11; have hB11 := own_grown hB10 ho8' hB10.size hg11; have hr211 := (hr2.below hB6 (Nat.le_refl _)).below hB11 hB6.size; clear hg11 ho8' hr9 hr29)
    | (at_builtin; refine wpList_appB rfl (.tmp 29) (.tmp 30) rfl rfl ho11 rfl hr211 rfl (l1.length + 8 + l2.length) rfl (by omega) (hB11.size) ?_; intro A12 c12 w8 ho12 hg12; have hB12 := own_grown hB11 ho11 hB11.size hg12; clear hg12 ho11 hr211 hB10 hB11))
  have hcap12 := own_cap ho12
  have hr12 := Rd.of_own ho12
  have hr68 := hr6.below hB12 (Nat.le_refl _)
  have hB := bel_step hB6 hB12
  clear hr6 hB12 hB6 ho12 hr1 hr2 tok
  rw [List.nil_append] at hr12 hr68
  have hlen4 : (l1 ++ le 4 (n % 4294967296) ++ l2).length = l1.length + 4 + l2.length := by simp [le_length]; omega
  have hlen8 : (l1 ++ le 8 n ++ l2).length = l1.length + 8 + l2.length := by simp [le_length]; omega
  have HL4 := Lib.hid hlen4
  have HL8 := Lib.hid hlen8
  clear hlen4 hlen8
  go_wp2_with fail
  refine (get4_any A6 (l1.length + 4 + l2.length) c6 _ HL4.out hcap6.1 hcap6.2 l1.length _ w8 hr68).mono ?_
  rintro e w9 ⟨rfl, rfl⟩
  rw [fget_mid 4 _ l1 l2 (by omega)]
  go_wp2_with fail
  refine (get8_any A12 (l1.length + 8 + l2.length) c12 _ HL8.out hcap12.1 hcap12.2 l1.length _ w8 hr12).mono ?_
  rintro e w9 ⟨rfl, rfl⟩
  rw [fget_mid 8 _ l1 l2 hn]
  clear hr12 hr68
  go_wp2_with fail
  refine (awake2_any _).mono ?_
  rintro e w9 ⟨rfl, hB9⟩
  go_wp2_with fail
  go_ret
  exact ⟨rfl, bel_step hB hB9⟩
end Go.Proofs.Ytfmamcdlnbmpeaa
