/- LAW WALK: VarintPlays -/
import Derived.Test.YtfmamcdlnbmpeaaVGetC
import Derived.Test.YtfmamcdlnbmpeaaZigLawW
import Derived.Test.YtfmamcdlnbmpeaaFixPlaysW
namespace Go.Proofs.Ytfmamcdlnbmpeaa
open Go.RowKit Plain

set_option maxHeartbeats 800000 in
theorem plays_any (n : Nat) (A : Option Addr) (c : Nat) (l : List UInt8) (p s : Int) (w : World) (hn : n < 18446744073709551616) (hb0 : -9223372036854775808 ≤ s) (hb1 : s ≤ 9223372036854775807) (hnc : l.length ≤ c) (hc : c ≤ maxLen) (hl : l.length ≤ 140737488355328) (hr : Rd w w.heap.size A (bcl l)) :
    Calls Try.prog 11 #[.int .u64 n, .slice A l.length c, .int .i64 p, .int .i64 s] w fun e w' => e = .returned (.bool true) ∧ Below w.heap.size w w' := by
  unfold maxLen at hc
  go_enter Try.func11, Try.ntmps11
  go_wp2_with fail
  refine (vget_any A l.length c l rfl hnc hc hl p w hr).mono ?_
  rintro e w1 ⟨rfl, hB1⟩
  have hr1 := hr.below hB1 (Nat.le_refl _)
  go_wp2_with fail
  refine (rvget_any A l.length c l rfl (by omega) p _ w1 hr1).mono ?_
  rintro e w2 ⟨rfl, rfl⟩
  go_wp2_with fail
  generalize hg : vget l p = g at *
  clear hg
  have hW : Below w.heap.size w w1.drew := hB1.trans ((Below.refl _ w1).drew)
  refine wp_region_L 22 [0, 3, 1, 2, 4, 5, 6, 7, 8, 9, 10, 11, 12, 13, 14, 15, 16, 17, 18, 19, 20, 21] rfl (by decide) (by decide) (by kernel_rfl) ?_
  simp only [List.filterMap_cons, List.filterMap_nil, List.getElem?_cons_zero, List.getElem?_cons_succ, Option.map_some]
  repeat (first
    | (refine wpL_take (v := ?_) (by kernel_rfl) (by kernel_rfl) (by kernel_rfl) (fun _ _ _ h => h) (by rfl) (fun u hu => ?_) ?_
       rotate_left
       focus
         unfold Grows at hu
         go_simp
         try with_reducible rfl
       simp only [Act.put, List.setIfInBounds_toArray, List.set_cons_zero, List.set_cons_succ])
    | (refine wpL_pass (by kernel_rfl) (by kernel_rfl) (by kernel_rfl) (fun _ _ _ h => h) (by rfl) ?_; simp only [Act.put, List.setIfInBounds_toArray, List.set_cons_zero, List.set_cons_succ])
    | (refine wpL_do (by kernel_rfl) (by rfl) (fun K hK => ?_); go_simp; go_at_call 27; refine (put_any n hn _).mono ?_; rintro e w1 ⟨A1, c1, rfl, hown1, hB1⟩; have hs1 := str_ever hown1 rfl; replace hW := bel_step hW hB1; clear hown1; refine hK _ _ hB1 ?_; clear hK K hB1)
    | (refine wpL_do (by kernel_rfl) (by rfl) (fun K hK => ?_); go_simp; go_at_call 30; refine (rvput_any n hn _).mono ?_; rintro e w1 ⟨A1, c1, rfl, hown1, hB1⟩; have hs1 := str_ever hown1 rfl; replace hW := bel_step hW hB1; clear hown1; refine hK _ _ hB1 ?_; clear hK K hB1))
  refine wpL_done (by kernel_rfl) ?_
  go_wp2_with fail
  refine (size_any n hn _).mono ?_
  rintro e w2 ⟨rfl, rfl⟩
  go_wp2_with fail
  refine (rvput_any n hn _).mono ?_
  rintro e w2 ⟨A2, c2, rfl, hown2, hB2⟩
  replace hW := bel_step hW hB2
  clear hown2
  go_wp2_with fail
  refine (zig_any s hb0 hb1 _).mono ?_
  rintro e w3 ⟨rfl, rfl⟩
  go_wp2_with fail
  refine (rzig_any s hb0 hb1 _).mono ?_
  rintro e w3 ⟨rfl, rfl⟩
  go_wp2_with fail
  refine (zag_any n hn _).mono ?_
  rintro e w3 ⟨rfl, rfl⟩
  go_wp2_with fail
  refine (rzag_any n hn _).mono ?_
  rintro e w3 ⟨rfl, rfl⟩
  go_wp2_with fail
  refine (awake1_any _).mono ?_
  rintro e w3 ⟨rfl, hB3⟩
  replace hW := bel_step hW hB3
  go_wp2_with fail
  go_ret
  exact ⟨rfl, hW⟩
end Go.Proofs.Ytfmamcdlnbmpeaa
