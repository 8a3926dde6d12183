/- LAW WALK: ValueReads -/
import Derived.Test.YtfmamcdlnbmpeaaDoorVOfR
import Derived.Test.YtfmamcdlnbmpeaaDoorVPutsW
namespace Go.Proofs.YtfmamcdlnbmpeaaDoor
open Go.RowKit Plain

def FldOk (f : Fld) : Prop := -9223372036854775808 ≤ f.num ∧ f.num ≤ 9223372036854775807 ∧ f.val < 18446744073709551616
set_option maxHeartbeats 1000000 in
theorem vreads_any (l : List Fld) (A : Option Addr) (c : Nat) (base : Int) (raw : Bool) (hl : l.length ≤ 9223372036854775807) (hwf : ∀ f ∈ l, FldOk f) (w : World) (hr : Rd w w.heap.size A (flc l)) (hK : Kinds w) :
    Calls Tryd.prog 4 #[.slice A l.length c, .int .i64 base, .bool raw] w fun e w' => e = .returned (.bool true) ∧ Below w.heap.size w w' := by
  obtain ⟨u, hu⟩ : ∃ u, vof base raw l = u := ⟨_, rfl⟩
  have HWF := Lib.hid hwf
  obtain ⟨⟨k, n, s⟩, er⟩ := u
  clear hwf
  go_enter Tryd.func4, Tryd.ntmps4
  go_wp2_with fail
  refine (vof_any l A c base raw hl HWF.out w hr hK).mono ?_
  rintro e w1 ⟨rfl, hB1⟩
  rw [hu]
  dsimp only [VV.cells]
  have hB1' : Below w.heap.size w (w1.alloc (.cells #[.int .i64 k, .int .u64 n, .string s] 24)) := hB1.alloc hB1.size _
  have hr1 := (hr.below hB1' (Nat.le_refl _)).more hB1'.size
  have hK1 := hK.below hB1' hK.pos
  go_wp2_with fail
  refine (rvof_any l A c base raw hl HWF.out _ hr1).mono ?_
  rintro e w2 ⟨rfl, hB2⟩
  rw [hu]
  dsimp only [VV.cells]
  obtain ⟨d0, d1, d2, -⟩ := boxV1 hB2
  have hK2 := hK1.below hB2 hK1.pos
  have hB3 := bel_step hB1' hB2
  have hlt : w1.heap.size < w2.heap.size := World.block_lt_of_cell? w2 _ d0
  clear hu hr1 hK1 hB2 hr hB1' hB1 hK
  go_wp2_with fail
  refine (awake5_any _ (hK2.below ((Below.refl w2.heap.size w2).alloc (Nat.le_refl _) _) hK2.pos)).mono ?_
  rintro e w5 ⟨rfl, hB5⟩
  go_wp2_with fail
  go_ret
  exact ⟨rfl, bel_step (hB3.alloc hB3.size _) hB5⟩
end Go.Proofs.YtfmamcdlnbmpeaaDoor
