/- LAW WALK: VarintBack -/
import Derived.Test.YtfmamcdlnbmpeaaVarL
import Derived.Test.YtfmamcdlnbmpeaaVGetC
import Derived.Test.YtfmamcdlnbmpeaaAppB
import Derived.Test.YtfmamcdlnbmpeaaZigLawW
namespace Go.Proofs.Ytfmamcdlnbmpeaa
open Go.RowKit Plain

set_option maxHeartbeats 800000 in
theorem vback_any (n : Nat) (A1 : Option Addr) (c1 : Nat) (l1 : List UInt8) (A2 : Option Addr) (c2 : Nat) (l2 : List UInt8) (w : World) (hn : n < 18446744073709551616)
    (hl1 : l1.length ≤ 1048576) (hr1 : Rd w w.heap.size A1 (bcl l1)) (hl2 : l2.length ≤ 1048576) (hr2 : Rd w w.heap.size A2 (bcl l2)) :
    Calls Try.prog 9 #[.int .u64 n, .slice A1 l1.length c1, .slice A2 l2.length c2] w fun e w' => e = .returned (.bool true) ∧ Below w.heap.size w w' := by
  have ho0 := own_emptyB w (base := w.heap.size) (Nat.le_refl _)
  have hB0 := (Below.refl w.heap.size w).alloc (Nat.le_refl _) (.cells #[] 5)
  have hr10 := hr1.below hB0 (Nat.le_refl _)
  have hbd := vsize_bd n
  go_enter Try.func9, Try.ntmps9
  go_wp2_with (at_builtin; go_loud (refine wpList_appB rfl (.tmp 11) (.tmp 12) rfl rfl ho0 rfl hr10 rfl l1.length (by omega) (by omega) (by simp) ?_); intro A3 c3 w1 ho1 hg1)
  have hB1 := own_grown hB0 ho0 (by simp) hg1
  clear hg1 ho0 hB0 hr10
  refine (put_any n hn _).mono ?_
  rintro e w2 ⟨A4, c4, rfl, ho4, hB2⟩
  have ho1' := own_kept ho1 hB2 (Nat.le_refl _)
  have hB3 := hB1.trans (hB2.mono hB1.size)
  have hr4 := Rd.of_own ho4
  have hr25 := hr2.below hB3 (Nat.le_refl _)
  clear ho1 ho4 hB1 hB2
  have tok : True := trivial
  go_wp2_with (first
    | (at_builtin; refine wpList_appB rfl (.tmp 13) (.tmp 15) rfl rfl ho1' rfl hr4 rfl (l1.length + vsize n) rfl (by omega) (hB3.size) ?_; intro A5 c5 w3 ho5 hg5; have hB5 := own_grown hB3 ho1' hB3.size hg5; have hr26 := hr2.below hB5 (Nat.le_refl _); clear hg5 ho1' hr4 hr25)
    | (at_builtin; refine wpList_appB rfl (.tmp 16) (.tmp 17) rfl rfl ho5 rfl hr26 rfl (l1.length + vsize n + l2.length) rfl (by omega) (hB5.size) ?_; intro A6 c6 w4 ho6 hg6; have hB6 := own_grown hB5 ho5 hB5.size hg6; clear hg6 ho5 hr26 hB3 hB5; have hr6 := Rd.of_own ho6; have hcap6 := own_cap ho6))
  clear ho6
  rw [List.nil_append] at hr6
  have HL := Lib.hid (show (l1 ++ vput n ++ l2).length = l1.length + vsize n + l2.length by simp [vsize]; omega)
  refine (vget_any A6 (l1.length + vsize n + l2.length) c6 _ HL.out hcap6.1 hcap6.2 (by rw [HL.out]; omega) l1.length _ hr6).mono ?_
  rintro e w5 ⟨rfl, hB7⟩
  replace hB7 := bel_step hB6 hB7
  rw [vget_mid l1 l2 hn]
  clear hr6 hr1 hr2 hB6 hcap6
  go_wp2_with fail
  refine (size_any n hn _).mono ?_
  rintro e w6 ⟨rfl, rfl⟩
  go_wp2_with fail
  refine (put_any n hn _).mono ?_
  rintro e w7 ⟨A7, c7, rfl, ho7, hB8⟩
  replace hB8 := bel_step hB7 hB8
  clear ho7
  go_wp2_with fail
  refine (size_any n hn _).mono ?_
  rintro e w8 ⟨rfl, rfl⟩
  go_wp2_with fail
  refine (awake1_any _).mono ?_
  rintro e w9 ⟨rfl, hB9⟩
  go_wp2_with fail
  go_ret
  exact ⟨rfl, bel_step hB8 hB9⟩
end Go.Proofs.Ytfmamcdlnbmpeaa
