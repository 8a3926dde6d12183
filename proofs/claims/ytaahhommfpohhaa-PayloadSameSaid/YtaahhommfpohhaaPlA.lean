/- WALKS: payload.ends, payload.Put at one payload; crierlaw10.awake -/
import Derived.Test.YtaahhommfpohhaaWPuts
import Derived.Test.YtaahhommfpohhaaSlF
import Derived.Test.YtaahhommfpohhaaMtW
namespace Go.Proofs.Ytaahhommfpohhaa
open Go.RowKit Plain

set_option maxRecDepth 100000 in
set_option maxHeartbeats 2000000 in
theorem ends10_any (w : World) : Calls Try.prog 32 #[.agg #[.int .u64 0, .bool true, .int .u64 3, .string ⟨#[]⟩, .string ⟨#[]⟩, .slice none 0 0]] w fun e w' =>
    ∃ A c, e = .returned (.slice A 1 c) ∧ w'.ownsRow w.heap.size 65 4 (.slice A 1 c) 1 (flc [⟨3, 0, 3, ⟨#[]⟩⟩]) ∧ Below w.heap.size w w' := by
  obtain ⟨w0, hw0⟩ : ∃ w0, w.alloc (.cells #[.int .u64 0, .bool true, .int .u64 3, .string ⟨#[]⟩, .string ⟨#[]⟩, .slice none 0 0] 43) = w0 := ⟨_, rfl⟩
  have hE0 : Below w.heap.size w w0 := hw0 ▸ (Below.refl _ w).alloc (Nat.le_refl _) _
  have hD : BoxC w0 w.heap.size #[.int .u64 0, .bool true, .int .u64 3, .string ⟨#[]⟩, .string ⟨#[]⟩, .slice none 0 0] 43 := hw0 ▸ World.alloc_heap_new w _
  have hnil : w0.ownsRow w0.heap.size 65 4 (.slice none 0 0) 0 (flc []) := World.ownsRow_nil w0 _ _ _
  have x1 : w0.cell? ⟨w.heap.size, 1, none⟩ = some (.bool true) := hD.cell 1
  have x2 : w0.cell? ⟨w.heap.size, 2, none⟩ = some (.int .u64 3) := hD.cell 2
  go_enter Try.func32, Try.ntmps32
  go_wp2_with (at_builtin; refine wpList_appF1 (l := []) rfl _ _ rfl rfl hnil ⟨3, 0, 3, ⟨#[]⟩⟩ rfl (by simp) (by omega) (Nat.le_refl _) ?_; intro A5 c5 w5 ho5 hg5; have hB5 := own_grown (Below.refl _ _) hnil (Nat.le_refl _) hg5; have y3 : w5.cell? ⟨w.heap.size, 3, none⟩ = some (.string ⟨#[]⟩) := (hD.below hB5).cell 3; have y4 : w5.cell? ⟨w.heap.size, 4, none⟩ = some (.string ⟨#[]⟩) := (hD.below hB5).cell 4; clear hg5 hnil x1 x2)
  go_ret
  exact ⟨A5, c5, rfl, own_base ho5 hE0.size, bel_step hE0 hB5⟩
set_option maxRecDepth 100000 in
set_option maxHeartbeats 2000000 in
theorem put10_any (w : World) : Calls Try.prog 13 #[.agg #[.int .u64 0, .bool true, .int .u64 3, .string ⟨#[]⟩, .string ⟨#[]⟩, .slice none 0 0]] w fun e w' =>
    ∃ A c, e = .returned (.tuple #[.slice A 2 c, .int .i64 0]) ∧ Rd w' w'.heap.size A (bcl [24, 3]) ∧ Below w.heap.size w w' := by
  obtain ⟨w0, hw0⟩ : ∃ w0, w.alloc (.cells #[.int .u64 0, .bool true, .int .u64 3, .string ⟨#[]⟩, .string ⟨#[]⟩, .slice none 0 0] 43) = w0 := ⟨_, rfl⟩
  have hE0 : Below w.heap.size w w0 := hw0 ▸ (Below.refl _ w).alloc (Nat.le_refl _) _
  have hD : BoxC w0 w.heap.size #[.int .u64 0, .bool true, .int .u64 3, .string ⟨#[]⟩, .string ⟨#[]⟩, .slice none 0 0] 43 := hw0 ▸ World.alloc_heap_new w _
  have x0 : w0.cell? ⟨w.heap.size, 0, none⟩ = some (.int .u64 0) := hD.cell 0
  have x1 : w0.cell? ⟨w.heap.size, 1, none⟩ = some (.bool true) := hD.cell 1
  have x2 : w0.cell? ⟨w.heap.size, 2, none⟩ = some (.int .u64 3) := hD.cell 2
  have x3 : w0.cell? ⟨w.heap.size, 3, none⟩ = some (.string ⟨#[]⟩) := hD.cell 3
  have x4 : w0.cell? ⟨w.heap.size, 4, none⟩ = some (.string ⟨#[]⟩) := hD.cell 4
  have x5 : w0.cell? ⟨w.heap.size, 5, none⟩ = some (.slice none 0 0) := hD.cell 5
  have he := ends10_any w0
  go_enter Try.func13, Try.ntmps13
  go_wp2_with fail
  go_loopw [4, 25] (fun l i wr => l = .slice none 0 0 ∧ i = .int .i64 0 ∧ wr = w0) (fun _ _ _ => 0)
  case atStart => exact ⟨rfl, rfl, rfl⟩
  case round =>
    obtain ⟨rfl, rfl, rfl⟩ := hrel
    go_wp2_with fail
    refine he.mono ?_
    rintro e w1 ⟨A, c, rfl, ho, hB1⟩
    have hW1 := bel_step hE0 hB1
    have hnil : w1.ownsRow w1.heap.size 65 4 (.slice none 0 0) 0 (flc []) := World.ownsRow_nil w1 _ _ _
    have hr := Rd.of_own ho
    clear he ho hB1 x0 x1 x2 x3 x4 x5 hD
    go_wp2_with (at_builtin; refine wpList_appF (l := []) rfl _ _ rfl rfl hnil rfl hr rfl 1 rfl (by omega) (Nat.le_refl _) ?_; intro A5 c5 w5 ho5 hg5; have hB5 := own_grown (Below.refl _ _) hnil (Nat.le_refl _) hg5; clear hg5 hnil hr)
    have hp := puts_any [⟨3, 0, 3, ⟨#[]⟩⟩] A5 c5 (by simp) (fun f hf => by
      simp at hf
      subst hf
      exact ⟨by simp, by simp, by simp⟩) w5 (Rd.of_own ho5)
    unfold PutsPost at hp
    rw [show wput [⟨3, 0, 3, ⟨#[]⟩⟩] = ([24, 3], 0) by decide +kernel] at hp
    simp only [List.length_cons, List.length_nil] at hp
    refine Calls.mono (show Calls Try.prog 31 #[.slice A5 1 c5] _ _ from hp) ?_
    rintro e w6 ⟨A6, c6, rfl, ho6, hB6⟩
    clear hp ho5
    go_wp2_with fail
    go_ret2
    exact ⟨A6, c6, rfl, Rd.of_own ho6, bel_step (bel_step hW1 hB5) hB6⟩
set_option maxRecDepth 100000 in
set_option maxHeartbeats 2000000 in
theorem awake10_any (w : World) : Calls Try.prog 17 #[] w fun e w' => e = .returned (.bool true) ∧ Below w.heap.size w w' := by
  have hp := put10_any w
  go_enter Try.func17, Try.ntmps17
  go_wp2_with fail
  refine hp.mono ?_
  rintro e w1 ⟨A, c, rfl, hr, hB⟩
  have hst := run_str 32 9 5 Try.underlying32 Try.underlying5 Try.underlying9 hr c
  simp only [List.length_cons, List.length_nil] at hst
  clear hp hr
  go_wp2_with fail
  go_ret
  exact ⟨rfl, hB⟩
end Go.Proofs.Ytaahhommfpohhaa
