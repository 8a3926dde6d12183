/- LAW WALK: FixedPlays -/
import Derived.Test.YtfmamcdlnbmpeaaRefB
import Derived.Test.YtfmamcdlnbmpeaaTurnsW
import Derived.Test.YtfmamcdlnbmpeaaRegion
namespace Go.Proofs.Ytfmamcdlnbmpeaa
open Go.RowKit Plain

/-- reads as the bytes l, now and whatever grows -/
theorem str_ever {base : Nat} {w : World} {A : Option Addr} {n c : Nat} {l : List UInt8} (h : w.ownsRow base 5 1 (.slice A n c) n (bcl l)) (hn : l.length = n) :
    ∀ W, Below w.heap.size w W → (convert 26 9 (.slice A n c)).run Try.prog W = .ok (.string ⟨l.toArray⟩) W :=
  fun _ hW => strB ((Rd.of_own h).below hW (Nat.le_refl _)) hn c

set_option maxHeartbeats 800000 in
theorem fixPlays_any (n : Nat) (A : Option Addr) (c : Nat) (l : List UInt8) (p : Int) (w : World) (hn : n < 18446744073709551616) (hnc : l.length ≤ c) (hc : c ≤ maxLen) (hl : l.length ≤ 140737488355328) (hr : Rd w w.heap.size A (bcl l)) :
    Calls Try.prog 8 #[.int .u64 n, .slice A l.length c, .int .i64 p] w fun e w' => e = .returned (.bool true) ∧ Below w.heap.size w w' := by
  unfold maxLen at hc
  go_enter Try.func8, Try.ntmps8
  go_wp2_with fail
  refine (get4_any A l.length c l rfl hnc hc p _ w hr).mono ?_
  rintro e w1 ⟨rfl, rfl⟩
  go_wp2_with fail
  refine (rget4_any A l.length c l rfl (by omega) p _ w hr).mono ?_
  rintro e w1 ⟨rfl, rfl⟩
  generalize fget 4 l p = g4
  go_wp2_with fail
  refine (get8_any A l.length c l rfl hnc hc p _ w hr).mono ?_
  rintro e w1 ⟨rfl, rfl⟩
  go_wp2_with fail
  refine (rget8_any A l.length c l rfl (by omega) p _ w hr).mono ?_
  rintro e w1 ⟨rfl, rfl⟩
  generalize fget 8 l p = g8
  go_wp2_with fail
  have hW : Below w.heap.size w w.drew := (Below.refl _ _).drew
  refine wp_region_L 31 [0, 1, 4, 5, 2, 3, 6, 7, 8, 9, 10, 13, 11, 12, 14, 15, 16, 17, 18, 19, 22, 20, 21, 23, 24, 25, 26, 27, 28, 29, 30] rfl (by decide) (by decide) (by kernel_rfl) ?_
  simp only [List.filterMap_cons, List.filterMap_nil, List.getElem?_cons_zero, List.getElem?_cons_succ, Option.map_some]
  repeat (first
    | (refine wpL_take (v := ?_) (by kernel_rfl) (by kernel_rfl) (by kernel_rfl) (fun _ _ _ h => h) (by rfl) (fun u hu => ?_) ?_
       rotate_left
       focus
         unfold Grows at hu
         go_simp
         try with_reducible rfl
       simp only [Act.put, List.setIfInBounds_toArray, List.set_cons_zero, List.set_cons_succ])
    | (refine wpL_pass (by kernel_rfl) (by kernel_rfl) (by kernel_rfl) (fun _ _ _ h => h) (by rfl) ?_; simp only [Act.put, List.setIfInBounds_toArray, List.set_cons_zero, List.set_cons_succ])
    | (refine wpL_do (by kernel_rfl) (by rfl) (fun K hK => ?_); go_simp; go_at_call 15; refine (put4_any (n % 4294967296) (by omega) _).mono ?_; rintro e w1 ⟨A1, c1, rfl, hown1, hB1⟩; have hs1 := str_ever hown1 (le_length _ _); replace hW := bel_step hW hB1; clear hown1; refine hK _ _ hB1 ?_; clear hK K hB1)
    | (refine wpL_do (by kernel_rfl) (by rfl) (fun K hK => ?_); go_simp; go_at_call 24; refine (rput4_any (n % 4294967296) (by omega) _).mono ?_; rintro e w1 ⟨A1, c1, rfl, hown1, hB1⟩; have hs1 := str_ever hown1 (le_length _ _); replace hW := bel_step hW hB1; clear hown1; refine hK _ _ hB1 ?_; clear hK K hB1)
    | (refine wpL_do (by kernel_rfl) (by rfl) (fun K hK => ?_); go_simp; go_at_call 21; refine (put8_any n hn _).mono ?_; rintro e w1 ⟨A1, c1, rfl, hown1, hB1⟩; have hs1 := str_ever hown1 (le_length _ _); replace hW := bel_step hW hB1; clear hown1; refine hK _ _ hB1 ?_; clear hK K hB1)
    | (refine wpL_do (by kernel_rfl) (by rfl) (fun K hK => ?_); go_simp; go_at_call 25; refine (rput8_any n hn _).mono ?_; rintro e w1 ⟨A1, c1, rfl, hown1, hB1⟩; have hs1 := str_ever hown1 (le_length _ _); replace hW := bel_step hW hB1; clear hown1; refine hK _ _ hB1 ?_; clear hK K hB1)
    | (refine wpL_do (by kernel_rfl) (by rfl) (fun K hK => ?_); go_simp; go_at_call 14; refine (turn_any A l.length c l rfl w.heap.size _ hl (hr.below hW (Nat.le_refl _)) hW.size).mono ?_; rintro e w1 ⟨A1, c1, rfl, hown1, hB1⟩; have hs1 := str_ever hown1 (by simp); replace hW := bel_step hW hB1; clear hown1; refine hK _ _ hB1 ?_; clear hK K hB1)
    | (refine wpL_do (by kernel_rfl) (by rfl) (fun K hK => ?_); go_simp; go_at_call 26; refine (rturn_any A l.length c l rfl w.heap.size _ hl (hr.below hW (Nat.le_refl _)) hW.size).mono ?_; rintro e w1 ⟨A1, c1, rfl, hown1, hB1⟩; have hs1 := str_ever hown1 (by simp); replace hW := bel_step hW hB1; clear hown1; refine hK _ _ hB1 ?_; clear hK K hB1)
    | (refine wpL_do (by kernel_rfl) (by rfl) (fun K hK => ?_); go_simp; go_at_call 16; refine (awake2_any _).mono ?_; rintro e w1 ⟨rfl, hB1⟩; replace hW := bel_step hW hB1; refine hK _ _ hB1 ?_; clear hK K hB1))
  refine wpL_done (by kernel_rfl) ?_
  go_wp2_with fail
  go_ret
  exact ⟨rfl, hW⟩
end Go.Proofs.Ytfmamcdlnbmpeaa
