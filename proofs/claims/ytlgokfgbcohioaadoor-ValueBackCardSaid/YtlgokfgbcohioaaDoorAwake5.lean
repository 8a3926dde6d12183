/- LAW WALK: awake of layer 5. -/
import Derived.Test.YtlgokfgbcohioaaDoorValP
namespace Go.Proofs.YtlgokfgbcohioaaDoor
open Go.RowKit Plain

theorem put5 (w : World) (hK : Kinds w) : Calls Tryd.prog 28 #[.agg #[.int .i64 5, .int .u64 1, .string ⟨#[]⟩], .int .i64 10, .bool true] w fun e w' =>
    ∃ b o c, e = .returned (.tuple #[.slice (some ⟨b, o, none⟩) 1 c, .int .i64 0]) ∧ w'.cell? ⟨b, o, none⟩ = some (.int .i64 14) ∧ w'.cell? ⟨b, o + 1, none⟩ = some (.int .i64 0) ∧ w'.cell? ⟨b, o + 2, none⟩ = some (.int .u64 1) ∧ w'.cell? ⟨b, o + 3, none⟩ = some (.string ⟨#[]⟩) ∧ Below w.heap.size w w' := by
  refine (vput_any 5 1 ⟨#[]⟩ 10 true (by omega) (by omega) w hK).mono ?_
  rintro e w1 ⟨A, c, rfl, hc1, hc2, hr, hB⟩
  have e2 : verr 5 ((1 : Nat) : Int) (ByteArray.mk #[]).toList.isEmpty 10 true = 0 := by decide +kernel
  have e1 : vfls 5 1 ⟨#[]⟩ 10 true = [⟨14, 0, 1, ⟨#[]⟩⟩] := by
    unfold vfls
    rw [e2]
    rfl
  rw [e1] at hr
  obtain ⟨b, o, rfl, _, hc⟩ := hr.some_ (by decide)
  exact ⟨b, o, c, by rw [e1, e2]; rfl, hc 0 (by decide), hc 1 (by decide), hc 2 (by decide), hc 3 (by decide), hB⟩
theorem awake5_any (w : World) (hK : Kinds w) : Calls Tryd.prog 30 #[] w fun e w' => e = .returned (.bool true) ∧ Below w.heap.size w w' := by
  go_enter Tryd.func30, Tryd.ntmps30
  go_wp2_with fail
  refine (put5 w hK).mono ?_
  rintro e w1 ⟨b, o, c, rfl, g0, g1, g2, g3, hB⟩
  go_wp2_with fail
  go_ret
  exact ⟨rfl, hB⟩

end Go.Proofs.YtlgokfgbcohioaaDoor
