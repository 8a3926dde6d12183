/- api.DataSet opened. -/
import Derived.Test.YtlgokfgbcohioaaDoorK3
import Derived.Test.YtlgokfgbcohioaaDoorDsPM
import Derived.Deep.Slices
import Derived.Deep.Strs
namespace Go.Proofs.YtlgokfgbcohioaaDoor
open Go.ChangeShapes Go.WideShapes Go.ChangeAt Go.RowKit

theorem flat_at {α : Type} {cells : α → List Value} {size : Nat} (hcl : ∀ a, (cells a).length = size) : ∀ {l : List α} {i : Nat} {a : α}, l[i]? = some a → ∀ j, j < size → (l.flatMap cells)[size * i + j]? = (cells a)[j]? := by
  intro l
  induction l with
  | nil => intro i a h; simp at h
  | cons g l ih =>
    intro i a h j hj
    simp only [List.flatMap_cons]
    have hg := hcl g
    cases i with
    | zero =>
      obtain rfl : g = a := by simpa using h
      rw [Nat.mul_zero, Nat.zero_add, List.getElem?_append_left (by omega)]
    | succ i =>
      have e : size * (i + 1) = size * i + size := Nat.mul_succ _ _
      rw [List.getElem?_append_right (by omega), ← ih (by simpa using h) j hj]
      congr 1
      omega
theorem flat_len {α : Type} {cells : α → List Value} {size : Nat} (hcl : ∀ a, (cells a).length = size) (l : List α) : (l.flatMap cells).length = size * l.length := by
  induction l with
  | nil => simp
  | cons g l ih => rw [List.flatMap_cons, List.length_append, ih, hcl, List.length_cons, Nat.mul_succ]; omega
theorem map_flat {α : Type} (f : α → Value) (l : List α) : l.map f = l.flatMap fun a => [f a] := by
  induction l with
  | nil => rfl
  | cons a l ih => rw [List.map_cons, List.flatMap_cons, ih]; rfl
/-- a slice opened, its elements by a law of their own -/
theorem open_list {H : Type} {enc : TypeId × Value → H} {W : World} {α : Type} (a0 : α) {t e : TypeId} (hu : Tryd.prog.underlying t = some (.slice e)) (size : Nat) (hs : Tryd.prog.cellsOf e = size) (hpos : 0 < size) (cells : α → List Value) (hcl : ∀ a, (cells a).length = size) (P : α → Prop)
    (ho : ∀ n cs y, DataW.trod enc Tryd.prog W 0 (fun _ => true) true n e cs = some y → ∃ a, cs = cells a ∧ P a)
    {fuel : Nat} {v : Value} {x : DataW H × List MemPlace} (h : DataW.trod enc Tryd.prog W 0 (fun _ => true) true fuel t [v] = some x) :
    ∃ A c, ∃ l : List α, v = .slice A l.length c ∧ l.length ≤ c ∧ c ≤ maxLen ∧ Rd W W.heap.size A (l.flatMap cells) ∧ (∀ a ∈ l, P a) ∧ (l = [] ∨ ∃ es sp, x.1 = .slice es sp ∧ es.length = l.length) := by
  rcases Go.Deep.open_slice hu h with ⟨hcs, _⟩ | ⟨y, len, cap, m, n', D, Pl, hcs, _, hl, hm, hmm, hx, hel⟩
  · obtain rfl : v = _ := by simpa using hcs
    exact ⟨none, 0, [], rfl, Nat.le_refl _, by simp [maxLen], Rd.nil, by simp, .inl rfl⟩
  · obtain rfl : v = _ := by simpa using hcs
    simp only [if_true] at hmm
    subst hmm
    have hF0 : ∀ i, ∃ f : α, i < m → W.cells? 0 (y.add (i * size)) size = some (cells f) ∧ P f := fun i => by
      by_cases hi : i < m
      · obtain ⟨cs', h1, h2⟩ := hel i hi
        rw [hs] at h1
        obtain ⟨f, rfl, hf⟩ := ho _ _ _ h2
        exact ⟨f, fun _ => ⟨h1, hf⟩⟩
      · exact ⟨a0, fun h => absurd h hi⟩
    obtain ⟨F, hF⟩ := Classical.axiomOfChoice hF0
    refine ⟨some y, m, (List.range len).map F, by simp, by simpa using hl, hm, ?_, ?_, .inr ⟨_, _, by rw [hx], by simp⟩⟩
    · rcases Nat.eq_zero_or_pos len with rfl | hn
      · exact .inl rfl
      · have hc : ∀ i, i < m → ∀ r, r < size → W.cell? (y.add (i * size + r)) = (cells (F i))[r]? := fun i hi r hr => by
          have h := World.cells?_some (hF i hi).1
          have e : (y.add (i * size)).add r = y.add (i * size + r) := Addr.add_add _ _ _
          rw [← e]
          exact h.2.2 r hr
        obtain ⟨b, off, spot⟩ := y
        have h0 := hc 0 (by omega) 0 hpos
        have hlt0 : (cells (F 0))[0]? = some ((cells (F 0))[0]'(by rw [hcl]; exact hpos)) := List.getElem?_eq_getElem _
        rw [hlt0] at h0
        have hspot : spot = none := by simpa [Addr.add] using World.cell?_spot h0
        subst hspot
        rw [Addr.add_lit] at h0
        refine .inr ⟨b, off, rfl, World.block_lt_of_cell? W _ h0, fun i hi => ?_⟩
        rw [flat_len hcl] at hi
        simp only [List.length_map, List.length_range] at hi
        have hq : i / size < len := Nat.div_lt_of_lt_mul hi
        have hr : i % size < size := Nat.mod_lt _ hpos
        have h := hc (i / size) (by omega) (i % size) hr
        have hdm : i / size * size + i % size = i := by rw [Nat.mul_comm]; exact Nat.div_add_mod i size
        rw [Addr.add_lit, hdm] at h
        rw [h, ← flat_at hcl (l := (List.range len).map F) (i := i / size) (a := F (i / size)) (by simp [hq]) (i % size) hr, Nat.div_add_mod]
    · intro f hf
      obtain ⟨i, hi, rfl⟩ := List.mem_map.1 hf
      exact (hF i (by have := List.mem_range.1 hi; omega)).2
set_option maxRecDepth 100000 in
theorem str_C : Tryd.prog.cellsOf 9 = 1 := by kernel_rfl
set_option maxRecDepth 100000 in
theorem u32_C : Tryd.prog.cellsOf 69 = 1 := by kernel_rfl
set_option maxRecDepth 100000 in
theorem vals_C : Tryd.prog.cellsOf 45 = 1 := by kernel_rfl
theorem maxLen_eq : maxLen = 9223372036854775807 := rfl
set_option maxRecDepth 100000 in
theorem open_strings {H : Type} {enc : TypeId × Value → H} {W : World} {fuel : Nat} {v : Value} {x : DataW H × List MemPlace} (h : DataW.trod enc Tryd.prog W 0 (fun _ => true) true fuel 22 [v] = some x) :
    ∃ A c, ∃ l : List ByteArray, v = .slice A l.length c ∧ l.length ≤ c ∧ c ≤ maxLen ∧ Rd W W.heap.size A (scl l) := by
  obtain ⟨A, c, l, h1, h2, h3, h4, _, _⟩ := open_list ByteArray.empty Tryd.underlying22 1 str_C (by omega) (fun s => [.string s]) (fun _ => rfl) (fun _ => True)
    (fun n cs y h => by obtain ⟨s, e, _, _⟩ := DataW.trod_string Tryd.underlying9 h; exact ⟨s, e, trivial⟩) h
  exact ⟨A, c, l, h1, h2, h3, by rw [show scl l = l.flatMap fun s => [.string s] from map_flat _ _]; exact h4⟩
set_option maxRecDepth 100000 in
theorem open_u32s {H : Type} {enc : TypeId × Value → H} {W : World} {fuel : Nat} {v : Value} {x : DataW H × List MemPlace} (h : DataW.trod enc Tryd.prog W 0 (fun _ => true) true fuel 23 [v] = some x) :
    ∃ A c, ∃ l : List Nat, v = .slice A l.length c ∧ l.length ≤ c ∧ c ≤ maxLen ∧ Rd W W.heap.size A (ucl l) ∧ ∀ n ∈ l, n < 4294967296 := by
  obtain ⟨A, c, l, h1, h2, h3, h4, h5, _⟩ := open_list 0 Tryd.underlying23 1 u32_C (by omega) (fun (n : Nat) => [.int .u32 n]) (fun _ => rfl) (fun n => n < 4294967296)
    (fun n cs y h => by
      obtain ⟨a, e, _, w⟩ := DataW.trod_int Tryd.underlying69 h
      obtain ⟨m, rfl, b⟩ := nat_of_u32 w
      exact ⟨m, e, b⟩) h
  exact ⟨A, c, l, h1, h2, h3, by rw [show ucl l = l.flatMap fun (n : Nat) => [.int .u32 n] from map_flat _ _]; exact h4, h5⟩
set_option maxRecDepth 100000 in
theorem trod_value {H : Type} {enc : TypeId × Value → H} {W : World} {n : Nat} {cs : List Value} {x : DataW H × List MemPlace} (h : DataW.trod enc Tryd.prog W 0 (fun _ => true) true n 42 cs = some x) : ∃ v : VV, cs = v.cells.toList ∧ VVOk v := by
  obtain ⟨f0, f1, f2, hu, h1, t0, t1, t2⟩ := val_U
  obtain ⟨y0, y1, y2, n', rfl, hl, r0, r1, r2⟩ := Go.Deep.trod_struct3 hu h
  rw [val_C] at hl
  obtain ⟨o0, k0⟩ := Go.Deep.hone_of h1 0 f0 rfl
  obtain ⟨o1, k1⟩ := Go.Deep.hone_of h1 1 f1 rfl
  obtain ⟨o2, k2⟩ := Go.Deep.hone_of h1 2 f2 rfl
  match cs, hl with
  | [v0, v1, v2], _ =>
    have r0 : DataW.trod enc Tryd.prog W 0 (fun _ => true) true n' f0.type [v0] = some y0 := by simpa [o0, k0] using r0
    have r1 : DataW.trod enc Tryd.prog W 0 (fun _ => true) true n' f1.type [v1] = some y1 := by simpa [o1, k1] using r1
    have r2 : DataW.trod enc Tryd.prog W 0 (fun _ => true) true n' f2.type [v2] = some y2 := by simpa [o2, k2] using r2
    rw [t0] at r0
    rw [t1] at r1
    rw [t2] at r2
    obtain ⟨a, e0, _, w0⟩ := DataW.trod_int Tryd.underlying3 r0
    obtain ⟨m, e1, _, w1⟩ := DataW.trod_int Tryd.underlying40 r1
    obtain ⟨s, e2, _, _⟩ := DataW.trod_string Tryd.underlying9 r2
    obtain rfl : v0 = _ := by simpa using e0
    obtain rfl : v1 = _ := by simpa using e1
    obtain rfl : v2 = _ := by simpa using e2
    obtain ⟨m', rfl, bm⟩ := nat_of_u64 w1
    have ba := bd_of_i64 w0
    exact ⟨⟨a, m', s⟩, rfl, ba.1, ba.2, bm⟩
set_option maxRecDepth 100000 in
theorem open_vals {H : Type} {enc : TypeId × Value → H} {W : World} {fuel : Nat} {v : Value} {x : DataW H × List MemPlace} (h : DataW.trod enc Tryd.prog W 0 (fun _ => true) true fuel 45 [v] = some x) :
    ∃ A c, ∃ l : List VV, v = .slice A l.length c ∧ l.length ≤ c ∧ c ≤ maxLen ∧ Rd W W.heap.size A (vvl l) ∧ ∀ u ∈ l, VVOk u := by
  obtain ⟨A, c, l, h1, h2, h3, h4, h5, _⟩ := open_list VV.zero Tryd.underlying45 3 val_C (by omega) (fun v : VV => v.cells.toList) (fun _ => rfl) VVOk (fun n cs y h => trod_value h) h
  exact ⟨A, c, l, h1, h2, h3, h4, h5⟩
set_option maxRecDepth 100000 in
theorem one_of {H : Type} {enc : TypeId × Value → H} {W : World} {n : Nat} {cs : List Value} {x : DataW H × List MemPlace} (h : DataW.trod enc Tryd.prog W 0 (fun _ => true) true n 45 cs = some x) : ∃ v, cs = [v] := by
  rcases Go.Deep.open_slice Tryd.underlying45 h with ⟨hcs, _⟩ | ⟨y, len, cap, m, n', D, Pl, hcs, _⟩
  · exact ⟨_, hcs⟩
  · exact ⟨_, hcs⟩
set_option maxRecDepth 100000 in
theorem open_rows {H : Type} {enc : TypeId × Value → H} {W : World} {fuel : Nat} {v : Value} {x : DataW H × List MemPlace} (h : DataW.trod enc Tryd.prog W 0 (fun _ => true) true fuel 24 [v] = some x) :
    ∃ A c, ∃ l : List RowH, v = .slice A l.length c ∧ l.length ≤ c ∧ c ≤ maxLen ∧ Rd W W.heap.size A (rcl l) ∧ ∀ r ∈ l, Rd W W.heap.size r.adr (vvl r.vals) ∧ r.vals.length ≤ r.cap ∧ r.cap ≤ maxLen ∧ ∀ u ∈ r.vals, VVOk u := by
  obtain ⟨A, c, l, h1, h2, h3, h4, h5, _⟩ := open_list (⟨none, 0, []⟩ : RowH) Tryd.underlying24 1 vals_C (by omega) (fun r : RowH => [.slice r.adr r.vals.length r.cap]) (fun _ => rfl)
    (fun r => Rd W W.heap.size r.adr (vvl r.vals) ∧ r.vals.length ≤ r.cap ∧ r.cap ≤ maxLen ∧ ∀ u ∈ r.vals, VVOk u)
    (fun n cs y h => by
      obtain ⟨u, rfl⟩ := one_of h
      obtain ⟨A, c, l, rfl, h2, h3, h4, h5⟩ := open_vals h
      exact ⟨⟨A, c, l⟩, rfl, h4, h2, h3, h5⟩) h
  exact ⟨A, c, l, h1, h2, h3, by rw [show rcl l = l.flatMap fun r : RowH => [.slice r.adr r.vals.length r.cap] from map_flat _ _]; exact h4, h5⟩
set_option maxRecDepth 100000 in
theorem ds_U : ∃ f0 f1 f2, Tryd.prog.underlying 26 = some (.struct #[f0, f1, f2]) ∧ Go.Deep.oneCellFields Tryd.prog #[f0, f1, f2] = true ∧ f0.type = 22 ∧ f1.type = 23 ∧ f2.type = 24 :=
  ⟨_, _, _, Tryd.underlying26, by kernel_rfl, rfl, rfl, rfl⟩
set_option maxRecDepth 100000 in
theorem ds_C : Tryd.prog.cellsOf 26 = 3 := by kernel_rfl
set_option maxRecDepth 100000 in
theorem open_dataset {H : Type} {enc : TypeId × Value → H} {r : Reach} {b0 : Nat} {W : World} {v : Value} {d : DataW H} {p : List MemPlace} (hv : Value.okWide Tryd.prog W r b0 26 v) (h : DataW.Trod enc Tryd.prog W 0 (fun _ => true) true 26 v d p) :
    ∃ D : DS, v = D.agg ∧ D.At W W.heap.size ∧ DSOk D ∧ (D.cols.length ≤ D.c1 ∧ D.types.length ≤ D.c2 ∧ D.rows.length ≤ D.c3 ∧ ∀ r ∈ D.rows, r.vals.length ≤ r.cap) := by
  obtain ⟨f0, f1, f2, hu, h1, t0, t1, t2⟩ := ds_U
  obtain ⟨v0, v1, v2, y0, y1, y2, n, rfl, rfl, rfl, r0, r1, r2⟩ := Go.Joins.open_agg3 hu h1 ds_C hv h
  rw [t0] at r0
  rw [t1] at r1
  rw [t2] at r2
  obtain ⟨A1, c1, cols, rfl, a1, m1, q1⟩ := open_strings r0
  obtain ⟨A2, c2, types, rfl, a2, m2, q2, k2⟩ := open_u32s r1
  obtain ⟨A3, c3, rows, rfl, a3, m3, q3, k3⟩ := open_rows r2
  rw [maxLen_eq] at m1 m2 m3
  refine ⟨⟨A1, c1, cols, A2, c2, types, A3, c3, rows⟩, rfl, ⟨q1, q2, q3, fun r hr => (k3 r hr).1⟩, ⟨Nat.le_trans a1 m1, Nat.le_trans a2 m2, Nat.le_trans a3 m3, fun r hr => ?_, k2, fun r hr => (k3 r hr).2.2.2⟩, a1, a2, a3, fun r hr => (k3 r hr).2.1⟩
  have h1 := (k3 r hr).2.1
  have h2 := (k3 r hr).2.2.1
  rw [maxLen_eq] at h2
  omega
end Go.Proofs.YtlgokfgbcohioaaDoor
