/- api.Value opened; the table of kinds out of the row's list. -/
import Derived.Test.YtlgokfgbcohioaaDoorOpen
import Derived.Test.YtlgokfgbcohioaaDoorFld
import Derived.Lib.SmallJoins
import Derived.Lib.LaidTab
namespace Go.Proofs.YtlgokfgbcohioaaDoor
open Go.ChangeShapes Go.WideShapes Go.ChangeAt Go.RowKit

set_option maxRecDepth 100000 in
theorem val_U : ∃ f0 f1 f2, Tryd.prog.underlying 42 = some (.struct #[f0, f1, f2]) ∧ Go.Deep.oneCellFields Tryd.prog #[f0, f1, f2] = true ∧ f0.type = 3 ∧ f1.type = 40 ∧ f2.type = 9 :=
  ⟨_, _, _, Tryd.underlying42, by kernel_rfl, rfl, rfl, rfl⟩
set_option maxRecDepth 100000 in
theorem val_C : Tryd.prog.cellsOf 42 = 3 := by kernel_rfl

set_option maxRecDepth 100000 in
theorem open_value {H : Type} {enc : TypeId × Value → H} {r : Reach} {b0 : Nat} {W : World} {v : Value} {d : DataW H} {p : List MemPlace} (hv : Value.okWide Tryd.prog W r b0 42 v) (h : DataW.Trod enc Tryd.prog W 0 (fun _ => true) true 42 v d p) :
    ∃ (k : Int) (n : Nat) (s : ByteArray), v = .agg #[.int .i64 k, .int .u64 n, .string s] ∧ d = .agg [.lit (.int .i64 k), .lit (.int .u64 n), .lit (.string s.data.toList)] ∧ p = [] ∧
      -9223372036854775808 ≤ k ∧ k ≤ 9223372036854775807 ∧ n < 18446744073709551616 ∧ s.size ≤ maxLen := by
  obtain ⟨f0, f1, f2, hu, h1, t0, t1, t2⟩ := val_U
  obtain ⟨v0, v1, v2, y0, y1, y2, n, rfl, rfl, rfl, r0, r1, r2⟩ := Go.Joins.open_agg3 hu h1 val_C hv h
  rw [t0] at r0
  rw [t1] at r1
  rw [t2] at r2
  obtain ⟨k, e0, x0, w0⟩ := DataW.trod_int Tryd.underlying3 r0
  obtain ⟨m, e1, x1, w1⟩ := DataW.trod_int Tryd.underlying40 r1
  obtain ⟨s, e2, x2, w2⟩ := DataW.trod_string Tryd.underlying9 r2
  obtain rfl : v0 = _ := by simpa using e0
  obtain rfl : v1 = _ := by simpa using e1
  obtain rfl : v2 = _ := by simpa using e2
  obtain ⟨m', rfl, b1⟩ := nat_of_u64 w1
  have b0 := bd_of_i64 w0
  subst x0 x1 x2
  exact ⟨k, m', s, rfl, rfl, rfl, b0.1, b0.2, b1, w2⟩

set_option maxRecDepth 100000 in
theorem gTab : Tryd.prog.globalNamed "crier/value.kinds" = some 0 := by kernel_rfl
set_option maxRecDepth 100000 in
theorem gTabType : ∃ t e, (Tryd.prog.globals[0]?).map (·.type) = some t ∧ Tryd.prog.underlying t = some (.array 8 e) ∧ Tryd.prog.underlying e = some (.int .i64) ∧ Tryd.prog.cellsOf e = 1 ∧ Tryd.prog.cellsOf t = 8 :=
  ⟨89, 3, by kernel_rfl, by kernel_rfl, by kernel_rfl, by kernel_rfl, by kernel_rfl⟩
set_option maxRecDepth 100000 in
theorem kinds_of_tab {W : World} (h : Lib.TabIs Tryd.prog W "crier/value.kinds" .i64 [0, 0, 0, 5, 1, 0, 2, 2]) : Kinds W := by
  intro j hj
  rw [h.cell gTab j hj]
  have : ∀ i : Fin 8, ([0, 0, 0, 5, 1, 0, 2, 2] : List Int).getD i.val 0 = Plain.vkind (i.val : Int) := by decide +kernel
  exact congrArg (fun z => some (Value.int .i64 z)) (this ⟨j, hj⟩)
end Go.Proofs.YtlgokfgbcohioaaDoor
