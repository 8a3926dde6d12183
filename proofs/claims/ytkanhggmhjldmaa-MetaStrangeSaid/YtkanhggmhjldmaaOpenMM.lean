/- api.Meta opened. -/
import Derived.Test.YtkanhggmhjldmaaMeta7
import Derived.Test.YtkanhggmhjldmaaMeta2
import Derived.Lib.SmallJoins
namespace Go.Proofs.Ytkanhggmhjldmaa
open Go.ChangeShapes Go.WideShapes Go.ChangeAt Go.RowKit Go.Deep

theorem meta_U : ∃ f0 f1 f2 f3 f4 f5 f6 f7, Try.prog.underlying 24 = some (.struct #[f0, f1, f2, f3, f4, f5, f6, f7]) ∧ Go.Deep.oneCellFields Try.prog #[f0, f1, f2, f3, f4, f5, f6, f7] = true ∧
    f0.type = 4 ∧ f1.type = 9 ∧ f2.type = 22 ∧ f3.type = 22 ∧ f4.type = 9 ∧ f5.type = 9 ∧ f6.type = 9 ∧ f7.type = 9 :=
  ⟨_, _, _, _, _, _, _, _, Try.underlying24, by kernel_rfl, rfl, rfl, rfl, rfl, rfl, rfl, rfl, rfl⟩
theorem meta_C : Try.prog.cellsOf 24 = 8 := by kernel_rfl
theorem list8 {α : Type} {l : List α} (h : l.length = 8) : ∃ a b c d e f g i, l = [a, b, c, d, e, f, g, i] := by
  match l, h with
  | [a, b, c, d, e, f, g, i], _ => exact ⟨a, b, c, d, e, f, g, i, rfl⟩

set_option maxRecDepth 100000 in
theorem open_meta {H : Type} {enc : TypeId × Value → H} {r : Reach} {b0 : Nat} {W : World} {v : Value} {d : DataW H} {p : List MemPlace} (hv : Value.okWide Try.prog W r b0 24 v) (h : DataW.Trod enc Try.prog W 0 (fun _ => true) true 24 v d p) :
    ∃ m : MM, v = .agg m.cells ∧ MOk m := by
  obtain ⟨f0, f1, f2, f3, f4, f5, f6, f7, hu, hone, t0, t1, t2, t3, t4, t5, t6, t7⟩ := meta_U
  obtain ⟨cs, rfl, hsz⟩ := okWide_struct hu hv
  rw [meta_C] at hsz
  obtain ⟨l⟩ := cs
  obtain ⟨c0, c1, c2, c3, c4, c5, c6, c7, rfl⟩ := list8 (show l.length = 8 from hsz)
  obtain ⟨fuel, hf⟩ := h
  obtain ⟨xs, n, _, _, _, hlen, hfl⟩ := DataW.trod_struct hu hf
  obtain ⟨y0, y1, y2, y3, y4, y5, y6, y7, rfl⟩ := list8 (show xs.length = 8 from hlen)
  obtain ⟨o0, k0⟩ := hone_of hone 0 f0 rfl
  obtain ⟨o1, k1⟩ := hone_of hone 1 f1 rfl
  obtain ⟨o2, k2⟩ := hone_of hone 2 f2 rfl
  obtain ⟨o3, k3⟩ := hone_of hone 3 f3 rfl
  obtain ⟨o4, k4⟩ := hone_of hone 4 f4 rfl
  obtain ⟨o5, k5⟩ := hone_of hone 5 f5 rfl
  obtain ⟨o6, k6⟩ := hone_of hone 6 f6 rfl
  obtain ⟨o7, k7⟩ := hone_of hone 7 f7 rfl
  have r0 : DataW.trod enc Try.prog W 0 (fun _ => true) true n f0.type [c0] = some y0 := by simpa [Value.cells, o0, k0] using hfl 0 f0 rfl
  have r1 : DataW.trod enc Try.prog W 0 (fun _ => true) true n f1.type [c1] = some y1 := by simpa [Value.cells, o1, k1] using hfl 1 f1 rfl
  have r2 : DataW.trod enc Try.prog W 0 (fun _ => true) true n f2.type [c2] = some y2 := by simpa [Value.cells, o2, k2] using hfl 2 f2 rfl
  have r3 : DataW.trod enc Try.prog W 0 (fun _ => true) true n f3.type [c3] = some y3 := by simpa [Value.cells, o3, k3] using hfl 3 f3 rfl
  have r4 : DataW.trod enc Try.prog W 0 (fun _ => true) true n f4.type [c4] = some y4 := by simpa [Value.cells, o4, k4] using hfl 4 f4 rfl
  have r5 : DataW.trod enc Try.prog W 0 (fun _ => true) true n f5.type [c5] = some y5 := by simpa [Value.cells, o5, k5] using hfl 5 f5 rfl
  have r6 : DataW.trod enc Try.prog W 0 (fun _ => true) true n f6.type [c6] = some y6 := by simpa [Value.cells, o6, k6] using hfl 6 f6 rfl
  have r7 : DataW.trod enc Try.prog W 0 (fun _ => true) true n f7.type [c7] = some y7 := by simpa [Value.cells, o7, k7] using hfl 7 f7 rfl
  rw [t0] at r0
  rw [t1] at r1
  rw [t2] at r2
  rw [t3] at r3
  rw [t4] at r4
  rw [t5] at r5
  rw [t6] at r6
  rw [t7] at r7
  obtain ⟨a0, e0, _⟩ := DataW.trod_bool Try.underlying4 r0
  obtain ⟨a1, e1, _⟩ := DataW.trod_string Try.underlying9 r1
  obtain ⟨a2, e2, _, w2⟩ := DataW.trod_int Try.underlying22 r2
  obtain ⟨a3, e3, _, w3⟩ := DataW.trod_int Try.underlying22 r3
  obtain ⟨a4, e4, _⟩ := DataW.trod_string Try.underlying9 r4
  obtain ⟨a5, e5, _⟩ := DataW.trod_string Try.underlying9 r5
  obtain ⟨a6, e6, _⟩ := DataW.trod_string Try.underlying9 r6
  obtain ⟨a7, e7, _⟩ := DataW.trod_string Try.underlying9 r7
  obtain rfl : c0 = _ := by simpa using e0
  obtain rfl : c1 = _ := by simpa using e1
  obtain rfl : c2 = _ := by simpa using e2
  obtain rfl : c3 = _ := by simpa using e3
  obtain rfl : c4 = _ := by simpa using e4
  obtain rfl : c5 = _ := by simpa using e5
  obtain rfl : c6 = _ := by simpa using e6
  obtain rfl : c7 = _ := by simpa using e7
  obtain ⟨n2, rfl, b2⟩ := nat_of_u64 w2
  obtain ⟨n3, rfl, b3⟩ := nat_of_u64 w3
  exact ⟨⟨a0, a1, n2, n3, a4, a5, a6, a7⟩, rfl, b2, b3⟩
end Go.Proofs.Ytkanhggmhjldmaa
