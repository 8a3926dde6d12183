/- []string, []api.Value, api.DataSet, []api.Prop opened. -/
import Derived.Test.YtaahhommfpohhaaOpen
import Derived.Test.YtaahhommfpohhaaSlE
import Derived.Test.YtaahhommfpohhaaSlP
import Derived.Test.YtaahhommfpohhaaRows
import Derived.Deep.Slices
import Derived.Deep.Strs
import Derived.Lib.SmallJoins
namespace Go.Proofs.Ytaahhommfpohhaa
open Go.ChangeShapes Go.WideShapes Go.ChangeAt Go.RowKit

set_option maxRecDepth 100000 in
theorem val_U : ∃ f0 f1 f2, Try.prog.underlying 27 = some (.struct #[f0, f1, f2]) ∧ Go.Deep.oneCellFields Try.prog #[f0, f1, f2] = true ∧ f0.type = 3 ∧ f1.type = 22 ∧ f2.type = 9 :=
  ⟨_, _, _, Try.underlying27, by kernel_rfl, rfl, rfl, rfl⟩
set_option maxRecDepth 100000 in
theorem val_C : Try.prog.cellsOf 27 = 3 := by kernel_rfl
theorem flat_at {α : Type} {cells : α → List Value} {size : Nat} (hcl : ∀ a, (cells a).length = size) : ∀ {l : List α} {i : Nat} {a : α}, l[i]? = some a → ∀ j, j < size → (l.flatMap cells)[size * i + j]? = (cells a)[j]? := by
  intro l
  induction l with
  | nil => intro i a h; simp at h
  | cons g l ih =>
    intro i a h j hj
    simp only [List.flatMap_cons]
    have hg := hcl g
    cases i with
    | zero =>
      obtain rfl : g = a := by simpa using h
      rw [Nat.mul_zero, Nat.zero_add, List.getElem?_append_left (by omega)]
    | succ i =>
      have e : size * (i + 1) = size * i + size := Nat.mul_succ _ _
      rw [List.getElem?_append_right (by omega), ← ih (by simpa using h) j hj]
      congr 1
      omega
theorem flat_len {α : Type} {cells : α → List Value} {size : Nat} (hcl : ∀ a, (cells a).length = size) (l : List α) : (l.flatMap cells).length = size * l.length := by
  induction l with
  | nil => simp
  | cons g l ih => rw [List.flatMap_cons, List.length_append, ih, hcl, List.length_cons, Nat.mul_succ]; omega
theorem map_flat {α : Type} (f : α → Value) (l : List α) : l.map f = l.flatMap fun a => [f a] := by
  induction l with
  | nil => rfl
  | cons a l ih => rw [List.map_cons, List.flatMap_cons, ih]; rfl
/-- a slice opened, its elements by a law of their own -/
theorem open_list {H : Type} {enc : TypeId × Value → H} {W : World} {α : Type} (a0 : α) {t e : TypeId} (hu : Try.prog.underlying t = some (.slice e)) (size : Nat) (hs : Try.prog.cellsOf e = size) (hpos : 0 < size) (cells : α → List Value) (hcl : ∀ a, (cells a).length = size) (P : α → Prop)
    (ho : ∀ n cs y, DataW.trod enc Try.prog W 0 (fun _ => true) true n e cs = some y → ∃ a, cs = cells a ∧ P a)
    {fuel : Nat} {v : Value} {x : DataW H × List MemPlace} (h : DataW.trod enc Try.prog W 0 (fun _ => true) true fuel t [v] = some x) :
    ∃ A c, ∃ l : List α, v = .slice A l.length c ∧ l.length ≤ c ∧ c ≤ maxLen ∧ Rd W W.heap.size A (l.flatMap cells) ∧ (∀ a ∈ l, P a) ∧ (l = [] ∨ ∃ es sp, x.1 = .slice es sp ∧ es.length = l.length) := by
  rcases Go.Deep.open_slice hu h with ⟨hcs, _⟩ | ⟨y, len, cap, m, n', D, Pl, hcs, _, hl, hm, hmm, hx, hel⟩
  · obtain rfl : v = _ := by simpa using hcs
    exact ⟨none, 0, [], rfl, Nat.le_refl _, by simp [maxLen], Rd.nil, by simp, .inl rfl⟩
  · obtain rfl : v = _ := by simpa using hcs
    simp only [if_true] at hmm
    subst hmm
    have hF0 : ∀ i, ∃ f : α, i < m → W.cells? 0 (y.add (i * size)) size = some (cells f) ∧ P f := fun i => by
      by_cases hi : i < m
      · obtain ⟨cs', h1, h2⟩ := hel i hi
        rw [hs] at h1
        obtain ⟨f, rfl, hf⟩ := ho _ _ _ h2
        exact ⟨f, fun _ => ⟨h1, hf⟩⟩
      · exact ⟨a0, fun h => absurd h hi⟩
    obtain ⟨F, hF⟩ := Classical.axiomOfChoice hF0
    refine ⟨some y, m, (List.range len).map F, by simp, by simpa using hl, hm, ?_, ?_, .inr ⟨_, _, by rw [hx], by simp⟩⟩
    · rcases Nat.eq_zero_or_pos len with rfl | hn
      · exact .inl rfl
      · have hc : ∀ i, i < m → ∀ r, r < size → W.cell? (y.add (i * size + r)) = (cells (F i))[r]? := fun i hi r hr => by
          have h := World.cells?_some (hF i hi).1
          have e : (y.add (i * size)).add r = y.add (i * size + r) := Addr.add_add _ _ _
          rw [← e]
          exact h.2.2 r hr
        obtain ⟨b, off, spot⟩ := y
        have h0 := hc 0 (by omega) 0 hpos
        have hlt0 : (cells (F 0))[0]? = some ((cells (F 0))[0]'(by rw [hcl]; exact hpos)) := List.getElem?_eq_getElem _
        rw [hlt0] at h0
        have hspot : spot = none := by simpa [Addr.add] using World.cell?_spot h0
        subst hspot
        rw [Addr.add_lit] at h0
        refine .inr ⟨b, off, rfl, World.block_lt_of_cell? W _ h0, fun i hi => ?_⟩
        rw [flat_len hcl] at hi
        simp only [List.length_map, List.length_range] at hi
        have hq : i / size < len := Nat.div_lt_of_lt_mul hi
        have hr : i % size < size := Nat.mod_lt _ hpos
        have h := hc (i / size) (by omega) (i % size) hr
        have hdm : i / size * size + i % size = i := by rw [Nat.mul_comm]; exact Nat.div_add_mod i size
        rw [Addr.add_lit, hdm] at h
        rw [h, ← flat_at hcl (l := (List.range len).map F) (i := i / size) (a := F (i / size)) (by simp [hq]) (i % size) hr, Nat.div_add_mod]
    · intro f hf
      obtain ⟨i, hi, rfl⟩ := List.mem_map.1 hf
      exact (hF i (by have := List.mem_range.1 hi; omega)).2
set_option maxRecDepth 100000 in
theorem str_C : Try.prog.cellsOf 9 = 1 := by kernel_rfl
set_option maxRecDepth 100000 in
theorem u32_C : Try.prog.cellsOf 23 = 1 := by kernel_rfl
set_option maxRecDepth 100000 in
theorem vals_C : Try.prog.cellsOf 106 = 1 := by kernel_rfl
theorem maxLen_eq : maxLen = 9223372036854775807 := rfl
set_option maxRecDepth 100000 in
theorem open_strings {H : Type} {enc : TypeId × Value → H} {W : World} {fuel : Nat} {v : Value} {x : DataW H × List MemPlace} (h : DataW.trod enc Try.prog W 0 (fun _ => true) true fuel 75 [v] = some x) :
    ∃ A c, ∃ l : List ByteArray, v = .slice A l.length c ∧ l.length ≤ c ∧ c ≤ maxLen ∧ Rd W W.heap.size A (scl l) := by
  obtain ⟨A, c, l, h1, h2, h3, h4, _, _⟩ := open_list ByteArray.empty Try.underlying75 1 str_C (by omega) (fun s => [.string s]) (fun _ => rfl) (fun _ => True)
    (fun n cs y h => by obtain ⟨s, e, _, _⟩ := DataW.trod_string Try.underlying9 h; exact ⟨s, e, trivial⟩) h
  exact ⟨A, c, l, h1, h2, h3, by rw [show scl l = l.flatMap fun s => [.string s] from map_flat _ _]; exact h4⟩
set_option maxRecDepth 100000 in
theorem open_u32s {H : Type} {enc : TypeId × Value → H} {W : World} {fuel : Nat} {v : Value} {x : DataW H × List MemPlace} (h : DataW.trod enc Try.prog W 0 (fun _ => true) true fuel 76 [v] = some x) :
    ∃ A c, ∃ l : List Nat, v = .slice A l.length c ∧ l.length ≤ c ∧ c ≤ maxLen ∧ Rd W W.heap.size A (ucl l) ∧ ∀ n ∈ l, n < 4294967296 := by
  obtain ⟨A, c, l, h1, h2, h3, h4, h5, _⟩ := open_list 0 Try.underlying76 1 u32_C (by omega) (fun (n : Nat) => [.int .u32 n]) (fun _ => rfl) (fun n => n < 4294967296)
    (fun n cs y h => by
      obtain ⟨a, e, _, w⟩ := DataW.trod_int Try.underlying23 h
      obtain ⟨m, rfl, b⟩ := nat_of_u32 w
      exact ⟨m, e, b⟩) h
  exact ⟨A, c, l, h1, h2, h3, by rw [show ucl l = l.flatMap fun (n : Nat) => [.int .u32 n] from map_flat _ _]; exact h4, h5⟩
set_option maxRecDepth 100000 in
theorem trod_value {H : Type} {enc : TypeId × Value → H} {W : World} {n : Nat} {cs : List Value} {x : DataW H × List MemPlace} (h : DataW.trod enc Try.prog W 0 (fun _ => true) true n 27 cs = some x) : ∃ v : VV, cs = v.cells.toList ∧ VVOk v := by
  obtain ⟨f0, f1, f2, hu, h1, t0, t1, t2⟩ := val_U
  obtain ⟨y0, y1, y2, n', rfl, hl, r0, r1, r2⟩ := Go.Deep.trod_struct3 hu h
  rw [val_C] at hl
  obtain ⟨o0, k0⟩ := Go.Deep.hone_of h1 0 f0 rfl
  obtain ⟨o1, k1⟩ := Go.Deep.hone_of h1 1 f1 rfl
  obtain ⟨o2, k2⟩ := Go.Deep.hone_of h1 2 f2 rfl
  match cs, hl with
  | [v0, v1, v2], _ =>
    have r0 : DataW.trod enc Try.prog W 0 (fun _ => true) true n' f0.type [v0] = some y0 := by simpa [o0, k0] using r0
    have r1 : DataW.trod enc Try.prog W 0 (fun _ => true) true n' f1.type [v1] = some y1 := by simpa [o1, k1] using r1
    have r2 : DataW.trod enc Try.prog W 0 (fun _ => true) true n' f2.type [v2] = some y2 := by simpa [o2, k2] using r2
    rw [t0] at r0
    rw [t1] at r1
    rw [t2] at r2
    obtain ⟨a, e0, _, w0⟩ := DataW.trod_int Try.underlying3 r0
    obtain ⟨m, e1, _, w1⟩ := DataW.trod_int Try.underlying22 r1
    obtain ⟨s, e2, _, _⟩ := DataW.trod_string Try.underlying9 r2
    obtain rfl : v0 = _ := by simpa using e0
    obtain rfl : v1 = _ := by simpa using e1
    obtain rfl : v2 = _ := by simpa using e2
    obtain ⟨m', rfl, bm⟩ := nat_of_u64 w1
    have ba := bd_of_i64 w0
    exact ⟨⟨a, m', s⟩, rfl, ba.1, ba.2, bm⟩
set_option maxRecDepth 100000 in
theorem open_vals {H : Type} {enc : TypeId × Value → H} {W : World} {fuel : Nat} {v : Value} {x : DataW H × List MemPlace} (h : DataW.trod enc Try.prog W 0 (fun _ => true) true fuel 106 [v] = some x) :
    ∃ A c, ∃ l : List VV, v = .slice A l.length c ∧ l.length ≤ c ∧ c ≤ maxLen ∧ Rd W W.heap.size A (vvl l) ∧ ∀ u ∈ l, VVOk u := by
  obtain ⟨A, c, l, h1, h2, h3, h4, h5, _⟩ := open_list VV.zero Try.underlying106 3 val_C (by omega) (fun v : VV => v.cells.toList) (fun _ => rfl) VVOk (fun n cs y h => trod_value h) h
  exact ⟨A, c, l, h1, h2, h3, h4, h5⟩
set_option maxRecDepth 100000 in
theorem one_of {H : Type} {enc : TypeId × Value → H} {W : World} {n : Nat} {cs : List Value} {x : DataW H × List MemPlace} (h : DataW.trod enc Try.prog W 0 (fun _ => true) true n 106 cs = some x) : ∃ v, cs = [v] := by
  rcases Go.Deep.open_slice Try.underlying106 h with ⟨hcs, _⟩ | ⟨y, len, cap, m, n', D, Pl, hcs, _⟩
  · exact ⟨_, hcs⟩
  · exact ⟨_, hcs⟩
set_option maxRecDepth 100000 in
theorem open_rows {H : Type} {enc : TypeId × Value → H} {W : World} {fuel : Nat} {v : Value} {x : DataW H × List MemPlace} (h : DataW.trod enc Try.prog W 0 (fun _ => true) true fuel 77 [v] = some x) :
    ∃ A c, ∃ l : List RowH, v = .slice A l.length c ∧ l.length ≤ c ∧ c ≤ maxLen ∧ Rd W W.heap.size A (rcl l) ∧ ∀ r ∈ l, Rd W W.heap.size r.adr (vvl r.vals) ∧ r.vals.length ≤ r.cap ∧ r.cap ≤ maxLen ∧ ∀ u ∈ r.vals, VVOk u := by
  obtain ⟨A, c, l, h1, h2, h3, h4, h5, _⟩ := open_list (⟨none, 0, []⟩ : RowH) Try.underlying77 1 vals_C (by omega) (fun r : RowH => [.slice r.adr r.vals.length r.cap]) (fun _ => rfl)
    (fun r => Rd W W.heap.size r.adr (vvl r.vals) ∧ r.vals.length ≤ r.cap ∧ r.cap ≤ maxLen ∧ ∀ u ∈ r.vals, VVOk u)
    (fun n cs y h => by
      obtain ⟨u, rfl⟩ := one_of h
      obtain ⟨A, c, l, rfl, h2, h3, h4, h5⟩ := open_vals h
      exact ⟨⟨A, c, l⟩, rfl, h4, h2, h3, h5⟩) h
  exact ⟨A, c, l, h1, h2, h3, by rw [show rcl l = l.flatMap fun r : RowH => [.slice r.adr r.vals.length r.cap] from map_flat _ _]; exact h4, h5⟩
set_option maxRecDepth 100000 in
theorem ds_U : ∃ f0 f1 f2, Try.prog.underlying 79 = some (.struct #[f0, f1, f2]) ∧ Go.Deep.oneCellFields Try.prog #[f0, f1, f2] = true ∧ f0.type = 75 ∧ f1.type = 76 ∧ f2.type = 77 :=
  ⟨_, _, _, Try.underlying79, by kernel_rfl, rfl, rfl, rfl⟩
set_option maxRecDepth 100000 in
theorem ds_C : Try.prog.cellsOf 79 = 3 := by kernel_rfl
set_option maxRecDepth 100000 in
theorem open_dataset {H : Type} {enc : TypeId × Value → H} {r : Reach} {b0 : Nat} {W : World} {v : Value} {d : DataW H} {p : List MemPlace} (hv : Value.okWide Try.prog W r b0 79 v) (h : DataW.Trod enc Try.prog W 0 (fun _ => true) true 79 v d p) :
    ∃ D : DS, v = D.agg ∧ D.At W W.heap.size ∧ DSOk D ∧ (D.cols.length ≤ D.c1 ∧ D.types.length ≤ D.c2 ∧ D.rows.length ≤ D.c3 ∧ ∀ r ∈ D.rows, r.vals.length ≤ r.cap) := by
  obtain ⟨f0, f1, f2, hu, h1, t0, t1, t2⟩ := ds_U
  obtain ⟨v0, v1, v2, y0, y1, y2, n, rfl, rfl, rfl, r0, r1, r2⟩ := Go.Joins.open_agg3 hu h1 ds_C hv h
  rw [t0] at r0
  rw [t1] at r1
  rw [t2] at r2
  obtain ⟨A1, c1, cols, rfl, a1, m1, q1⟩ := open_strings r0
  obtain ⟨A2, c2, types, rfl, a2, m2, q2, k2⟩ := open_u32s r1
  obtain ⟨A3, c3, rows, rfl, a3, m3, q3, k3⟩ := open_rows r2
  rw [maxLen_eq] at m1 m2 m3
  refine ⟨⟨A1, c1, cols, A2, c2, types, A3, c3, rows⟩, rfl, ⟨q1, q2, q3, fun r hr => (k3 r hr).1⟩, ⟨Nat.le_trans a1 m1, Nat.le_trans a2 m2, Nat.le_trans a3 m3, fun r hr => ?_, k2, fun r hr => (k3 r hr).2.2.2⟩, a1, a2, a3, fun r hr => (k3 r hr).2.1⟩
  have h1 := (k3 r hr).2.1
  have h2 := (k3 r hr).2.2.1
  rw [maxLen_eq] at h2
  omega
theorem bulk_pos {H : Type} (d : DataW H) : 1 ≤ Rows.uptoBulk d := by
  cases d with
  | lit l => cases l <;> simp [Rows.uptoBulk]
  | nil => simp [Rows.uptoBulk]
  | ptr d => simp [Rows.uptoBulk]
  | slice elems spare => simp [Rows.uptoBulk]
  | agg parts => simp [Rows.uptoBulk]
  | iface t d => simp [Rows.uptoBulk]
  | map entries => simp [Rows.uptoBulk]
  | held h => simp [Rows.uptoBulk]
theorem bulk_part {H : Type} {d : DataW H} {l : List (DataW H)} (h : d ∈ l) : Rows.uptoBulk d ≤ Rows.uptoBulkAll l := by
  induction l with
  | nil => cases h
  | cons x r ih =>
    simp only [Rows.uptoBulkAll]
    cases List.mem_cons.1 h with
    | inl e => subst e; omega
    | inr e => have := ih e; omega
/-- a slice opened, its elements by a law that may lean on less fuel, each beside its datum -/
theorem open_listN {H : Type} {enc : TypeId × Value → H} {W : World} {α : Type} (a0 : α) {t e : TypeId} (hu : Try.prog.underlying t = some (.slice e)) (size : Nat) (hs : Try.prog.cellsOf e = size) (hpos : 0 < size) (cells : α → List Value) (hcl : ∀ a, (cells a).length = size) (P : α → DataW H → Prop)
    {fuel : Nat} (ho : ∀ n, n < fuel → ∀ cs y, DataW.trod enc Try.prog W 0 (fun _ => true) true n e cs = some y → ∃ a, cs = cells a ∧ P a y.1)
    {v : Value} {x : DataW H × List MemPlace} (h : DataW.trod enc Try.prog W 0 (fun _ => true) true fuel t [v] = some x) :
    ∃ A c, ∃ l : List α, v = .slice A l.length c ∧ l.length ≤ c ∧ c ≤ maxLen ∧ Rd W W.heap.size A (l.flatMap cells) ∧ (l = [] ∨ ∃ es sp, x.1 = .slice es sp ∧ es.length = l.length ∧ ∀ a ∈ l, ∃ d ∈ es, P a d) := by
  rcases DataW.trod_slice hu h with ⟨hcs, _⟩ | ⟨y, len, cap, elems, rest, n, hfuel, hcs, rfl, _, hl, hm, hlen, hel, _, _⟩
  · obtain rfl : v = _ := by simpa using hcs
    exact ⟨none, 0, [], rfl, Nat.le_refl _, by simp [maxLen], Rd.nil, .inl rfl⟩
  · obtain rfl : v = _ := by simpa using hcs
    have hF0 : ∀ i, ∃ f : α, i < len → W.cells? 0 (y.add (i * size)) size = some (cells f) ∧ P f (elems.getD i (.nil, [])).1 := fun i => by
      by_cases hi : i < len
      · have h1 := hel i hi
        rw [hs] at h1
        have h2 : elems[i]? = some (elems.getD i (.nil, [])) := by rw [List.getD_eq_getElem?_getD, List.getElem?_eq_getElem (by omega)]; rfl
        rw [h2] at h1
        obtain ⟨cs', h3, h4⟩ := Option.bind_eq_some_iff.1 h1
        obtain ⟨f, rfl, hf⟩ := ho n (by omega) _ _ h4
        exact ⟨f, fun _ => ⟨h3, hf⟩⟩
      · exact ⟨a0, fun h => absurd h hi⟩
    obtain ⟨F, hF⟩ := Classical.axiomOfChoice hF0
    refine ⟨some y, cap, (List.range len).map F, by simp, by simpa using hl, hm, ?_, .inr ⟨_, _, rfl, by simp [hlen], ?_⟩⟩
    · rcases Nat.eq_zero_or_pos len with rfl | hn
      · exact .inl rfl
      · have hc : ∀ i, i < len → ∀ r, r < size → W.cell? (y.add (i * size + r)) = (cells (F i))[r]? := fun i hi r hr => by
          have h := World.cells?_some (hF i hi).1
          have e : (y.add (i * size)).add r = y.add (i * size + r) := Addr.add_add _ _ _
          rw [← e]
          exact h.2.2 r hr
        obtain ⟨b, off, spot⟩ := y
        have h0 := hc 0 (by omega) 0 hpos
        have hlt0 : (cells (F 0))[0]? = some ((cells (F 0))[0]'(by rw [hcl]; exact hpos)) := List.getElem?_eq_getElem _
        rw [hlt0] at h0
        have hspot : spot = none := by simpa [Addr.add] using World.cell?_spot h0
        subst hspot
        rw [Addr.add_lit] at h0
        refine .inr ⟨b, off, rfl, World.block_lt_of_cell? W _ h0, fun i hi => ?_⟩
        rw [flat_len hcl] at hi
        simp only [List.length_map, List.length_range] at hi
        have hq : i / size < len := Nat.div_lt_of_lt_mul hi
        have hr : i % size < size := Nat.mod_lt _ hpos
        have h := hc (i / size) (by omega) (i % size) hr
        have hdm : i / size * size + i % size = i := by rw [Nat.mul_comm]; exact Nat.div_add_mod i size
        rw [Addr.add_lit, hdm] at h
        rw [h, ← flat_at hcl (l := (List.range len).map F) (i := i / size) (a := F (i / size)) (by simp [hq]) (i % size) hr, Nat.div_add_mod]
    · intro f hf
      obtain ⟨i, hi, rfl⟩ := List.mem_map.1 hf
      have hi2 := List.mem_range.1 hi
      refine ⟨_, ?_, (hF i hi2).2⟩
      refine List.mem_map.2 ⟨elems.getD i (.nil, []), ?_, rfl⟩
      rw [List.getD_eq_getElem?_getD, List.getElem?_eq_getElem (show i < elems.length by omega)]
      exact List.getElem_mem _
def Ps.of : List Pn → Ps
  | [] => .nil
  | p :: l => .cons p.key p.type p.null p.v p.adr p.cap p.sub (Ps.of l)
theorem Ps.of_list : ∀ l : List Pn, (Ps.of l).list = l := by
  intro l
  induction l with
  | nil => rfl
  | cons p l ih => rw [Ps.of, Ps.list, ih]
/-- what a list of properties is, where it lies, and its datum -/
structure PsIs {H : Type} (W : World) (A : Option Addr) (l : Ps) (d : DataW H) : Prop where
  at_ : l.At W W.heap.size A
  ok : l.Ok
  deep : l.depth ≤ Rows.uptoBulk d
structure PropIs {H : Type} (W : World) (p : Pn) (d : DataW H) : Prop where
  ty : p.type < 4294967296
  v : VVOk p.v
  len : p.sub.list.length ≤ 9223372036854775807
  at_ : p.sub.At W W.heap.size p.adr
  ok : p.sub.Ok
  deep : pone p.v p.sub.depth ≤ Rows.uptoBulk d
set_option maxRecDepth 100000 in
theorem prop_U : ∃ f0 f1 f2 f3 f4, Try.prog.underlying 102 = some (.struct #[f0, f1, f2, f3, f4]) ∧ (f0.type = 9 ∧ f1.type = 23 ∧ f2.type = 4 ∧ f3.type = 27 ∧ f4.type = 25) ∧ (f0.offset = 0 ∧ f1.offset = 1 ∧ f2.offset = 2 ∧ f3.offset = 3 ∧ f4.offset = 6) :=
  ⟨_, _, _, _, _, Try.underlying102, ⟨rfl, rfl, rfl, rfl, rfl⟩, ⟨rfl, rfl, rfl, rfl, rfl⟩⟩
set_option maxRecDepth 100000 in
theorem prop_C : Try.prog.cellsOf 102 = 7 := by kernel_rfl
set_option maxRecDepth 100000 in
theorem props_C : Try.prog.cellsOf 25 = 1 := by kernel_rfl
set_option maxRecDepth 100000 in
theorem bool_C : Try.prog.cellsOf 4 = 1 := by kernel_rfl
set_option maxRecDepth 100000 in
theorem trod_prop {H : Type} {enc : TypeId × Value → H} {W : World} {n : Nat} {cs : List Value} {x : DataW H × List MemPlace}
    (hsub : ∀ m, m < n → ∀ v y, DataW.trod enc Try.prog W 0 (fun _ => true) true m 25 [v] = some y → ∃ A c, ∃ l : Ps, v = .slice A l.list.length c ∧ l.list.length ≤ c ∧ c ≤ maxLen ∧ PsIs W A l y.1)
    (h : DataW.trod enc Try.prog W 0 (fun _ => true) true n 102 cs = some x) : ∃ p : Pn, cs = p.cells ∧ PropIs W p x.1 := by
  obtain ⟨f0, f1, f2, f3, f4, hu, ⟨t0, t1, t2, t3, t4⟩, o0, o1, o2, o3, o4⟩ := prop_U
  obtain ⟨xs, n', hn, rfl, hl, hlen, hf⟩ := DataW.trod_struct hu h
  rw [prop_C] at hl
  match xs, hlen with
  | [y0, y1, y2, y3, y4], _ =>
    have r0 := hf 0 f0 rfl
    have r1 := hf 1 f1 rfl
    have r2 := hf 2 f2 rfl
    have r3 := hf 3 f3 rfl
    have r4 := hf 4 f4 rfl
    rw [t0, o0, str_C] at r0
    rw [t1, o1, u32_C] at r1
    rw [t2, o2, bool_C] at r2
    rw [t3, o3, val_C] at r3
    rw [t4, o4, props_C] at r4
    match cs, hl with
    | [v0, v1, v2, v3, v4, v5, v6], _ =>
      have r0 : DataW.trod enc Try.prog W 0 (fun _ => true) true n' 9 [v0] = some y0 := r0
      have r1 : DataW.trod enc Try.prog W 0 (fun _ => true) true n' 23 [v1] = some y1 := r1
      have r2 : DataW.trod enc Try.prog W 0 (fun _ => true) true n' 4 [v2] = some y2 := r2
      have r3 : DataW.trod enc Try.prog W 0 (fun _ => true) true n' 27 [v3, v4, v5] = some y3 := r3
      have r4 : DataW.trod enc Try.prog W 0 (fun _ => true) true n' 25 [v6] = some y4 := r4
      obtain ⟨s, e0, _, _⟩ := DataW.trod_string Try.underlying9 r0
      obtain ⟨z, e1, _, w1⟩ := DataW.trod_int Try.underlying23 r1
      obtain ⟨b, e2, _⟩ := DataW.trod_bool Try.underlying4 r2
      obtain ⟨vv, e3, hv⟩ := trod_value r3
      obtain ⟨A, c, l, e4, _, hc, hp⟩ := hsub n' (by omega) v6 y4 r4
      obtain rfl : v0 = _ := by simpa using e0
      obtain rfl : v1 = _ := by simpa using e1
      obtain rfl : v2 = _ := by simpa using e2
      obtain ⟨z', rfl, bz⟩ := nat_of_u32 w1
      subst e4
      obtain ⟨rfl, rfl, rfl⟩ : v3 = .int .i64 vv.k ∧ v4 = .int .u64 vv.n ∧ v5 = .string vv.s := by simpa [VV.cells] using e3
      refine ⟨⟨s, z', b, vv, A, c, l⟩, rfl, bz, hv, ?_, hp.at_, hp.ok, ?_⟩
      · rw [maxLen_eq] at hc; simp only; omega
      · have h1 := hp.deep
        have h0 := bulk_pos y0.1
        simp only [Rows.uptoBulk, List.map_cons, List.map_nil, Rows.uptoBulkAll]
        have h3 := bulk_pos y1.1
        have h4 := bulk_pos y4.1
        unfold pone
        split <;> omega
theorem open_ps {H : Type} {enc : TypeId × Value → H} {W : World} : ∀ (fuel : Nat) (v : Value) (x : DataW H × List MemPlace), DataW.trod enc Try.prog W 0 (fun _ => true) true fuel 25 [v] = some x →
    ∃ A c, ∃ l : Ps, v = .slice A l.list.length c ∧ l.list.length ≤ c ∧ c ≤ maxLen ∧ PsIs W A l x.1 := by
  intro fuel
  induction fuel using Nat.strongRecOn with
  | ind fuel ih =>
    intro v x h
    obtain ⟨A, c, l, h1, h2, h3, h4, h5⟩ := open_listN (⟨.empty, 0, false, VV.zero, none, 0, .nil⟩ : Pn) Try.underlying25 7 prop_C (by omega) Pn.cells (fun _ => rfl) (PropIs W)
      (fun n hn cs y h => trod_prop (fun m hm v y h => ih m (by omega) v y h) h) h
    have hall : ∀ p ∈ l, ∃ d : DataW H, PropIs W p d ∧ Rows.uptoBulk d ≤ Rows.uptoBulk x.1 := by
      rcases h5 with rfl | ⟨es, sp, e1, e2, h5⟩
      · intro p hp; cases hp
      · intro p hp
        obtain ⟨d, hd, hpd⟩ := h5 p hp
        refine ⟨d, hpd, ?_⟩
        rw [e1]
        have := bulk_part hd
        simp only [Rows.uptoBulk]
        omega
    refine ⟨A, c, Ps.of l, by rw [Ps.of_list]; exact h1, by rw [Ps.of_list]; exact h2, h3, ⟨by rw [Ps.of_list]; exact h4, ?_⟩, ?_, ?_⟩
    · clear h1 h2 h3 h4 h5
      induction l with
      | nil => exact trivial
      | cons p l ih2 =>
        obtain ⟨d, hp, _⟩ := hall p (by simp)
        exact ⟨hp.at_.rd, hp.at_.subs, ih2 (fun q hq => hall q (by simp [hq]))⟩
    · clear h1 h2 h3 h4 h5
      induction l with
      | nil => exact trivial
      | cons p l ih2 =>
        obtain ⟨d, hp, _⟩ := hall p (by simp)
        exact ⟨hp.ty, hp.v, hp.len, hp.ok, ih2 (fun q hq => hall q (by simp [hq]))⟩
    · clear h1 h2 h3 h4 h5
      rw [Ps.depth_list, Ps.of_list]
      induction l with
      | nil => exact Nat.zero_le _
      | cons p l ih2 =>
        obtain ⟨d, hp, hb⟩ := hall p (by simp)
        have h1 := ih2 (fun q hq => hall q (by simp [hq]))
        have h2 := hp.deep
        rw [pdeep]
        omega
set_option maxRecDepth 100000 in
theorem open_props {H : Type} {enc : TypeId × Value → H} {r : Reach} {b0 : Nat} {W : World} {v : Value} {d : DataW H} {p : List MemPlace} (hv : Value.okWide Try.prog W r b0 25 v) (h : DataW.Trod enc Try.prog W 0 (fun _ => true) true 25 v d p) :
    ∃ A c, ∃ l : Ps, v = .slice A l.list.length c ∧ l.list.length ≤ 9223372036854775807 ∧ l.At W W.heap.size A ∧ l.Ok ∧ l.depth ≤ Rows.uptoBulk d := by
  obtain ⟨a, n, c, rfl⟩ := okWide_slice Try.underlying25 hv
  obtain ⟨fuel, hf⟩ := h
  obtain ⟨A, c', l, h1, h2, h3, h4⟩ := open_ps fuel _ _ hf
  rw [maxLen_eq] at h3
  exact ⟨A, c', l, h1, by omega, h4.at_, h4.ok, h4.deep⟩
end Go.Proofs.Ytaahhommfpohhaa
