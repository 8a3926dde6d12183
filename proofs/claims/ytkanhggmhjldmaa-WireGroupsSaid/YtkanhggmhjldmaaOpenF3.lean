/- []api.Field opened. -/
import Derived.Test.YtkanhggmhjldmaaOpen
import Derived.Lib.SmallJoins
import Derived.Test.YtkanhggmhjldmaaFlds
import Derived.Deep.Slices
namespace Go.Proofs.Ytkanhggmhjldmaa
open Go.ChangeShapes Go.WideShapes Go.ChangeAt Go.RowKit

theorem fld_U : ∃ f0 f1 f2 f3, Try.prog.underlying 49 = some (.struct #[f0, f1, f2, f3]) ∧ Go.Deep.oneCellFields Try.prog #[f0, f1, f2, f3] = true ∧ f0.type = 3 ∧ f1.type = 3 ∧ f2.type = 22 ∧ f3.type = 9 :=
  ⟨_, _, _, _, Try.underlying49, by kernel_rfl, rfl, rfl, rfl, rfl⟩
theorem fld_C : Try.prog.cellsOf 49 = 4 := by kernel_rfl

set_option maxRecDepth 100000 in
theorem open_field {H : Type} {enc : TypeId × Value → H} {W : World} {n : Nat} {cs : List Value} {x : DataW H × List MemPlace} (h : DataW.trod enc Try.prog W 0 (fun _ => true) true n 49 cs = some x) :
    ∃ f : Fld, cs = f.cells ∧ FldOk f := by
  obtain ⟨f0, f1, f2, f3, hu, h1, t0, t1, t2, t3⟩ := fld_U
  obtain ⟨y0, y1, y2, y3, n', rfl, hl, r0, r1, r2, r3⟩ := Go.Joins.trod_struct4 hu h
  rw [fld_C] at hl
  obtain ⟨o0, k0⟩ := Go.Deep.hone_of h1 0 f0 rfl
  obtain ⟨o1, k1⟩ := Go.Deep.hone_of h1 1 f1 rfl
  obtain ⟨o2, k2⟩ := Go.Deep.hone_of h1 2 f2 rfl
  obtain ⟨o3, k3⟩ := Go.Deep.hone_of h1 3 f3 rfl
  match cs, hl with
  | [v0, v1, v2, v3], _ =>
    have r0 : DataW.trod enc Try.prog W 0 (fun _ => true) true n' f0.type [v0] = some y0 := by simpa [o0, k0] using r0
    have r1 : DataW.trod enc Try.prog W 0 (fun _ => true) true n' f1.type [v1] = some y1 := by simpa [o1, k1] using r1
    have r2 : DataW.trod enc Try.prog W 0 (fun _ => true) true n' f2.type [v2] = some y2 := by simpa [o2, k2] using r2
    have r3 : DataW.trod enc Try.prog W 0 (fun _ => true) true n' f3.type [v3] = some y3 := by simpa [o3, k3] using r3
    rw [t0] at r0
    rw [t1] at r1
    rw [t2] at r2
    rw [t3] at r3
    obtain ⟨a, e0, _, w0⟩ := DataW.trod_int Try.underlying3 r0
    obtain ⟨b, e1, _, _⟩ := DataW.trod_int Try.underlying3 r1
    obtain ⟨m, e2, _, w2⟩ := DataW.trod_int Try.underlying22 r2
    obtain ⟨s, e3, _, _⟩ := DataW.trod_string Try.underlying9 r3
    obtain rfl : v0 = _ := by simpa using e0
    obtain rfl : v1 = _ := by simpa using e1
    obtain rfl : v2 = _ := by simpa using e2
    obtain rfl : v3 = _ := by simpa using e3
    obtain ⟨m', rfl, bm⟩ := nat_of_u64 w2
    have ba := bd_of_i64 w0
    exact ⟨⟨a, b, m', s⟩, rfl, ba.1, ba.2, bm⟩

set_option maxRecDepth 100000 in
theorem open_fields {H : Type} {enc : TypeId × Value → H} {r : Reach} {b0 : Nat} {W : World} {v : Value} {d : DataW H} {p : List MemPlace} (hv : Value.okWide Try.prog W r b0 34 v) (h : DataW.Trod enc Try.prog W 0 (fun _ => true) true 34 v d p) :
    ∃ A c, ∃ l : List Fld, v = .slice A l.length c ∧ l.length ≤ c ∧ c ≤ maxLen ∧ Rd W W.heap.size A (flc l) ∧ (∀ f ∈ l, FldOk f) ∧ (l = [] ∨ ∃ es sp, d = .slice es sp ∧ es.length = l.length) := by
  obtain ⟨a, n, c, rfl⟩ := okWide_slice Try.underlying34 hv
  obtain ⟨fuel, hf⟩ := h
  rcases Go.Deep.open_slice Try.underlying34 hf with ⟨hcs, _⟩ | ⟨x, len, cap, m, n', D, Pl, hcs, _, hl, hm, hmm, hx, hel⟩
  · simp [Value.cells] at hcs
    obtain ⟨rfl, rfl, rfl⟩ := hcs
    exact ⟨none, 0, [], rfl, Nat.le_refl _, by simp [maxLen], Rd.nil, by simp, .inl rfl⟩
  · simp [Value.cells] at hcs
    obtain ⟨rfl, rfl, rfl⟩ := hcs
    simp only [if_true] at hmm
    subst hmm
    have hF0 : ∀ i, ∃ f : Fld, i < m → W.cells? 0 (x.add (i * 4)) 4 = some f.cells ∧ FldOk f := fun i => by
      by_cases hi : i < m
      · obtain ⟨cs', h1, h2⟩ := hel i hi
        rw [fld_C] at h1
        obtain ⟨f, rfl, hf⟩ := open_field h2
        exact ⟨f, fun _ => ⟨h1, hf⟩⟩
      · exact ⟨⟨0, 0, 0, ⟨#[]⟩⟩, fun h => absurd h hi⟩
    obtain ⟨F, hF⟩ := Classical.axiomOfChoice hF0
    refine ⟨some x, m, (List.range n).map F, by simp, by simpa using hl, hm, ?_, ?_, .inr ⟨_, _, (Prod.mk.inj hx).1, by simp⟩⟩
    · rcases Nat.eq_zero_or_pos n with rfl | hn
      · exact .inl rfl
      · have hc : ∀ i, i < m → ∀ r, r < 4 → W.cell? (x.add (i * 4 + r)) = (F i).cells[r]? := fun i hi r hr => by
          have h := World.cells?_some (hF i hi).1
          have e : (x.add (i * 4)).add r = x.add (i * 4 + r) := Addr.add_add _ _ _
          rw [← e]
          exact h.2.2 r hr
        obtain ⟨b, off, spot⟩ := x
        have h0 := hc 0 (by omega) 0 (by omega)
        have hspot : spot = none := by simpa [Addr.add] using World.cell?_spot h0
        subst hspot
        refine .inr ⟨b, off, rfl, World.block_lt_of_cell? W _ h0, fun i hi => ?_⟩
        rw [flc_len] at hi
        simp at hi
        have hq : i / 4 < n := by omega
        have h := hc (i / 4) (by omega) (i % 4) (by omega)
        rw [Addr.add_lit, show i / 4 * 4 + i % 4 = i by omega] at h
        rw [h, ← flc_at (l := (List.range n).map F) (i := i / 4) (f := F (i / 4)) (by simp [hq]) (i % 4) (by omega), show 4 * (i / 4) + i % 4 = i by omega]
    · intro f hf
      obtain ⟨i, hi, rfl⟩ := List.mem_map.1 hf
      exact (hF i (by have := List.mem_range.1 hi; omega)).2
theorem reach_fields {H : Type} {ts : List TypeId} {ds : List (DataW H)} (h : (DataW.weightsEach Try.prog ts ds).all (· ≤ reachBytes) = true) {j : Nat} {d : DataW H} {l : List Fld}
    (ht : ts[j]? = some 34) (hd : ds[j]? = some d) (q : l = [] ∨ ∃ es sp, d = .slice es sp ∧ es.length = l.length) : l.length * 40 ≤ 140737488355328 := by
  rcases q with rfl | ⟨es, sp, rfl, e⟩
  · simp
  · have := sized_slice h ht hd Try.underlying34
    rw [show Try.prog.bytesOf 49 = 40 by kernel_rfl] at this
    simp only [reachBytes] at this
    omega
end Go.Proofs.Ytkanhggmhjldmaa
