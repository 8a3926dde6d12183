/- LAW WALK: PropsSame -/
import Derived.Test.YtlgokfgbcohioaaDoorPpSM
import Derived.Test.YtlgokfgbcohioaaDoorPpLM
namespace Go.Proofs.YtlgokfgbcohioaaDoor
open Go.RowKit Plain

theorem Dr.below {w w' : World} {B : Nat} (h : Dr w w') : Below B w w' := by
  obtain ⟨k, rfl⟩ := h; exact below_drewN (Below.refl _ _) k
set_option maxRecDepth 100000 in
set_option maxHeartbeats 2000000 in
theorem psames_any (a b : Ps) (A1 A2 : Option Addr) (c1 c2 : Nat) (w : World) (ha : a.list.length ≤ 9223372036854775807) (hb : b.list.length ≤ 9223372036854775807) (ho1 : a.Ok) (ho2 : b.Ok) (h1 : a.At w w.heap.size A1) (h2 : b.At w w.heap.size A2) (hK : Kinds w) :
    Calls Tryd.prog 6 #[.slice A1 a.list.length c1, .slice A2 b.list.length c2] w fun e w' => e = .returned (.bool true) ∧ Below w.heap.size w w' := by
  have s1 := fun W (hB : Below w.heap.size w W) => psame_any a b A1 A2 c1 c2 W ha hb ho1 ho2 ((h1.below hB (Nat.le_refl _)).more hB.size) ((h2.below hB (Nat.le_refl _)).more hB.size)
  have s2 := fun W (hB : Below w.heap.size w W) => rsame_any a b A1 A2 c1 c2 W ha hb ho1 ho2 ((h1.below hB (Nat.le_refl _)).more hB.size) ((h2.below hB (Nat.le_refl _)).more hB.size)
  have s3 := fun W (hB : Below w.heap.size w W) => psame_any b a A2 A1 c2 c1 W hb ha ho2 ho1 ((h2.below hB (Nat.le_refl _)).more hB.size) ((h1.below hB (Nat.le_refl _)).more hB.size)
  have s4 := fun W (hB : Below w.heap.size w W) => psame_any a a A1 A1 c1 c1 W ha ha ho1 ho1 ((h1.below hB (Nat.le_refl _)).more hB.size) ((h1.below hB (Nat.le_refl _)).more hB.size)
  rw [Ps.same_symm b a] at s3
  rw [Ps.same_refl] at s4
  generalize a.same b = t at *
  have HK := Lib.hid hK
  clear ho1 ho2 h1 h2 hK
  generalize a.list.length = n1 at *
  generalize b.list.length = n2 at *
  go_enter Tryd.func6, Tryd.ntmps6
  go_wp2_with fail
  refine (s1 w (Below.refl _ _)).mono ?_
  rintro e w1 ⟨rfl, hW1⟩
  go_wp2_with fail
  refine (s2 w1 hW1).mono ?_
  rintro e w2 ⟨rfl, hd2⟩
  have hW2 := bel_step hW1 (Dr.below hd2)
  clear s2 hd2
  go_wp2_with fail
  refine (s3 w2 hW2).mono ?_
  rintro e w3 ⟨rfl, hB3⟩
  have hW3 := bel_step hW2 hB3
  clear s3 hB3
  go_wp2_with fail
  refine (s1 w3 hW3).mono ?_
  rintro e w4 ⟨rfl, hB4⟩
  have hW4 := bel_step hW3 hB4
  clear s1 hB4
  go_wp2_with fail
  refine (s4 w4 hW4).mono ?_
  rintro e w5 ⟨rfl, hB5⟩
  have hW5 := bel_step hW4 hB5
  clear s4 hB5
  go_wp2_with fail
  refine (awake7_any w5 (HK.out.below hW5 HK.out.pos)).mono ?_
  rintro e w6 ⟨rfl, hB6⟩
  go_wp2_with fail
  go_ret
  exact ⟨rfl, bel_step hW5 hB6⟩
end Go.Proofs.YtlgokfgbcohioaaDoor
