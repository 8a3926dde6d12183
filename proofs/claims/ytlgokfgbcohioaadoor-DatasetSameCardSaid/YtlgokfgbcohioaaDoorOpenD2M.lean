/- api.DataSet opened, with what its rows take up. -/
import Derived.Test.YtlgokfgbcohioaaDoorOpenDM
namespace Go.Proofs.YtlgokfgbcohioaaDoor
open Go.ChangeShapes Go.WideShapes Go.ChangeAt Go.RowKit

/-- a slice opened, its elements by a law of their own, each beside its datum -/
theorem open_list2 {H : Type} {enc : TypeId × Value → H} {W : World} {α : Type} (a0 : α) {t e : TypeId} (hu : Tryd.prog.underlying t = some (.slice e)) (size : Nat) (hs : Tryd.prog.cellsOf e = size) (hpos : 0 < size) (cells : α → List Value) (hcl : ∀ a, (cells a).length = size) (P : α → DataW H → Prop)
    (ho : ∀ n cs y, DataW.trod enc Tryd.prog W 0 (fun _ => true) true n e cs = some y → ∃ a, cs = cells a ∧ P a y.1)
    {fuel : Nat} {v : Value} {x : DataW H × List MemPlace} (h : DataW.trod enc Tryd.prog W 0 (fun _ => true) true fuel t [v] = some x) :
    ∃ A c, ∃ l : List α, v = .slice A l.length c ∧ l.length ≤ c ∧ c ≤ maxLen ∧ Rd W W.heap.size A (l.flatMap cells) ∧ (l = [] ∨ ∃ es sp, x.1 = .slice es sp ∧ es.length = l.length ∧ ∀ a ∈ l, ∃ d ∈ es, P a d) := by
  rcases Go.Deep.open_slice hu h with ⟨hcs, _⟩ | ⟨y, len, cap, m, n', D, Pl, hcs, _, hl, hm, hmm, hx, hel⟩
  · obtain rfl : v = _ := by simpa using hcs
    exact ⟨none, 0, [], rfl, Nat.le_refl _, by simp [maxLen], Rd.nil, .inl rfl⟩
  · obtain rfl : v = _ := by simpa using hcs
    simp only [if_true] at hmm
    subst hmm
    have hF0 : ∀ i, ∃ f : α, i < m → W.cells? 0 (y.add (i * size)) size = some (cells f) ∧ P f (D i) := fun i => by
      by_cases hi : i < m
      · obtain ⟨cs', h1, h2⟩ := hel i hi
        rw [hs] at h1
        obtain ⟨f, rfl, hf⟩ := ho _ _ _ h2
        exact ⟨f, fun _ => ⟨h1, hf⟩⟩
      · exact ⟨a0, fun h => absurd h hi⟩
    obtain ⟨F, hF⟩ := Classical.axiomOfChoice hF0
    refine ⟨some y, m, (List.range len).map F, by simp, by simpa using hl, hm, ?_, .inr ⟨_, _, by rw [hx], by simp, ?_⟩⟩
    · rcases Nat.eq_zero_or_pos len with rfl | hn
      · exact .inl rfl
      · have hc : ∀ i, i < m → ∀ r, r < size → W.cell? (y.add (i * size + r)) = (cells (F i))[r]? := fun i hi r hr => by
          have h := World.cells?_some (hF i hi).1
          have e : (y.add (i * size)).add r = y.add (i * size + r) := Addr.add_add _ _ _
          rw [← e]
          exact h.2.2 r hr
        obtain ⟨b, off, spot⟩ := y
        have h0 := hc 0 (by omega) 0 hpos
        have hlt0 : (cells (F 0))[0]? = some ((cells (F 0))[0]'(by rw [hcl]; exact hpos)) := List.getElem?_eq_getElem _
        rw [hlt0] at h0
        have hspot : spot = none := by simpa [Addr.add] using World.cell?_spot h0
        subst hspot
        rw [Addr.add_lit] at h0
        refine .inr ⟨b, off, rfl, World.block_lt_of_cell? W _ h0, fun i hi => ?_⟩
        rw [flat_len hcl] at hi
        simp only [List.length_map, List.length_range] at hi
        have hq : i / size < len := Nat.div_lt_of_lt_mul hi
        have hr : i % size < size := Nat.mod_lt _ hpos
        have h := hc (i / size) (by omega) (i % size) hr
        have hdm : i / size * size + i % size = i := by rw [Nat.mul_comm]; exact Nat.div_add_mod i size
        rw [Addr.add_lit, hdm] at h
        rw [h, ← flat_at hcl (l := (List.range len).map F) (i := i / size) (a := F (i / size)) (by simp [hq]) (i % size) hr, Nat.div_add_mod]
    · intro f hf
      obtain ⟨i, hi, rfl⟩ := List.mem_map.1 hf
      have hi2 := List.mem_range.1 hi
      exact ⟨D i, List.mem_map.2 ⟨i, hi, rfl⟩, (hF i (by omega)).2⟩
def valsIs {H : Type} (r : RowH) (d : DataW H) : Prop := r.vals = [] ∨ ∃ es sp, d = .slice es sp ∧ es.length = r.vals.length ∧ ∀ v ∈ r.vals, ∃ d ∈ es, ∃ a b, d = .agg [a, b, .lit (.string v.s.data.toList)]
/-- what a row is, and its datum -/
def RowIs {H : Type} (W : World) (r : RowH) (d : DataW H) : Prop :=
  (Rd W W.heap.size r.adr (vvl r.vals) ∧ r.vals.length ≤ r.cap ∧ r.cap ≤ maxLen ∧ ∀ u ∈ r.vals, VVOk u) ∧ valsIs r d
set_option maxRecDepth 100000 in
theorem trod_value2 {H : Type} {enc : TypeId × Value → H} {W : World} {n : Nat} {cs : List Value} {x : DataW H × List MemPlace} (h : DataW.trod enc Tryd.prog W 0 (fun _ => true) true n 42 cs = some x) : ∃ v : VV, cs = v.cells.toList ∧ VVOk v ∧ ∃ a b, x.1 = .agg [a, b, .lit (.string v.s.data.toList)] := by
  obtain ⟨f0, f1, f2, hu, h1, t0, t1, t2⟩ := val_U
  obtain ⟨y0, y1, y2, n', rfl, hl, r0, r1, r2⟩ := Go.Deep.trod_struct3 hu h
  rw [val_C] at hl
  obtain ⟨o0, k0⟩ := Go.Deep.hone_of h1 0 f0 rfl
  obtain ⟨o1, k1⟩ := Go.Deep.hone_of h1 1 f1 rfl
  obtain ⟨o2, k2⟩ := Go.Deep.hone_of h1 2 f2 rfl
  match cs, hl with
  | [v0, v1, v2], _ =>
    have r0 : DataW.trod enc Tryd.prog W 0 (fun _ => true) true n' f0.type [v0] = some y0 := by simpa [o0, k0] using r0
    have r1 : DataW.trod enc Tryd.prog W 0 (fun _ => true) true n' f1.type [v1] = some y1 := by simpa [o1, k1] using r1
    have r2 : DataW.trod enc Tryd.prog W 0 (fun _ => true) true n' f2.type [v2] = some y2 := by simpa [o2, k2] using r2
    rw [t0] at r0
    rw [t1] at r1
    rw [t2] at r2
    obtain ⟨a, e0, _, w0⟩ := DataW.trod_int Tryd.underlying3 r0
    obtain ⟨m, e1, _, w1⟩ := DataW.trod_int Tryd.underlying40 r1
    obtain ⟨s, e2, x2, _⟩ := DataW.trod_string Tryd.underlying9 r2
    obtain rfl : v0 = _ := by simpa using e0
    obtain rfl : v1 = _ := by simpa using e1
    obtain rfl : v2 = _ := by simpa using e2
    obtain ⟨m', rfl, bm⟩ := nat_of_u64 w1
    have ba := bd_of_i64 w0
    subst x2
    exact ⟨⟨a, m', s⟩, rfl, ⟨ba.1, ba.2, bm⟩, _, _, rfl⟩
set_option maxRecDepth 100000 in
theorem open_vals2 {H : Type} {enc : TypeId × Value → H} {W : World} {fuel : Nat} {v : Value} {x : DataW H × List MemPlace} (h : DataW.trod enc Tryd.prog W 0 (fun _ => true) true fuel 45 [v] = some x) :
    ∃ r : RowH, v = .slice r.adr r.vals.length r.cap ∧ RowIs W r x.1 := by
  obtain ⟨A, c, l, h1, h2, h3, h4, h6⟩ := open_list2 VV.zero Tryd.underlying45 3 val_C (by omega) (fun v : VV => v.cells.toList) (fun _ => rfl) (fun v d => VVOk v ∧ ∃ a b, d = .agg [a, b, .lit (.string v.s.data.toList)]) (fun n cs y h => trod_value2 h) h
  refine ⟨⟨A, c, l⟩, h1, ⟨h4, h2, h3, ?_⟩, ?_⟩
  · rcases h6 with rfl | ⟨es, sp, _, _, h6⟩
    · intro u hu; cases hu
    · intro u hu
      obtain ⟨d, _, hd⟩ := h6 u hu
      exact hd.1
  · rcases h6 with h | ⟨es, sp, e1, e2, h6⟩
    · exact .inl h
    · refine .inr ⟨es, sp, e1, e2, fun v hv => ?_⟩
      obtain ⟨d, hd, h7⟩ := h6 v hv
      exact ⟨d, hd, h7.2⟩
set_option maxRecDepth 100000 in
theorem open_rows2 {H : Type} {enc : TypeId × Value → H} {W : World} {fuel : Nat} {v : Value} {x : DataW H × List MemPlace} (h : DataW.trod enc Tryd.prog W 0 (fun _ => true) true fuel 24 [v] = some x) :
    ∃ A c, ∃ l : List RowH, v = .slice A l.length c ∧ l.length ≤ c ∧ c ≤ maxLen ∧ Rd W W.heap.size A (rcl l) ∧ (l = [] ∨ ∃ es sp, x.1 = .slice es sp ∧ es.length = l.length ∧ ∀ r ∈ l, ∃ d ∈ es, RowIs W r d) := by
  obtain ⟨A, c, l, h1, h2, h3, h4, h5⟩ := open_list2 (⟨none, 0, []⟩ : RowH) Tryd.underlying24 1 vals_C (by omega) (fun r : RowH => [.slice r.adr r.vals.length r.cap]) (fun _ => rfl) (RowIs W)
    (fun n cs y h => by
      obtain ⟨u, rfl⟩ := one_of h
      obtain ⟨r, rfl, h2⟩ := open_vals2 h
      exact ⟨r, rfl, h2⟩) h
  exact ⟨A, c, l, h1, h2, h3, by rw [show rcl l = l.flatMap fun r : RowH => [.slice r.adr r.vals.length r.cap] from map_flat _ _]; exact h4, h5⟩
theorem weights_mem_all {H : Type} {P : Program} {e : TypeId} {d : DataW H} {n : Nat} (hn : n ∈ d.weights P e) : ∀ {l : List (DataW H)}, d ∈ l → n ∈ DataW.weightsAll P e l := by
  intro l
  induction l with
  | nil => intro h; cases h
  | cons a l ih =>
    intro h
    rw [DataW.weightsAll]
    rcases List.mem_cons.1 h with rfl | h
    · exact List.mem_append_left _ hn
    · exact List.mem_append_right _ (ih h)
/-- what the rows of a table take up -/
def rowsIs {H : Type} (D : DS) (d : DataW H) : Prop := ∃ a b c, d = .agg [a, b, c] ∧ (D.rows = [] ∨ ∃ es sp, c = .slice es sp ∧ es.length = D.rows.length ∧ ∀ r ∈ D.rows, ∃ d ∈ es, valsIs r d)
set_option maxRecDepth 100000 in
theorem open_dataset2 {H : Type} {enc : TypeId × Value → H} {r : Reach} {b0 : Nat} {W : World} {v : Value} {d : DataW H} {p : List MemPlace} (hv : Value.okWide Tryd.prog W r b0 26 v) (h : DataW.Trod enc Tryd.prog W 0 (fun _ => true) true 26 v d p) :
    ∃ D : DS, v = D.agg ∧ D.At W W.heap.size ∧ DSOk D ∧ rowsIs D d := by
  obtain ⟨f0, f1, f2, hu, h1, t0, t1, t2⟩ := ds_U
  obtain ⟨v0, v1, v2, y0, y1, y2, n, rfl, rfl, rfl, r0, r1, r2⟩ := Go.Joins.open_agg3 hu h1 ds_C hv h
  rw [t0] at r0
  rw [t1] at r1
  rw [t2] at r2
  obtain ⟨A1, c1, cols, rfl, a1, m1, q1⟩ := open_strings r0
  obtain ⟨A2, c2, types, rfl, a2, m2, q2, k2⟩ := open_u32s r1
  obtain ⟨A3, c3, rows, rfl, a3, m3, q3, k3⟩ := open_rows2 r2
  rw [maxLen_eq] at m1 m2 m3
  have k4 : ∀ r ∈ rows, Rd W W.heap.size r.adr (vvl r.vals) ∧ r.vals.length ≤ r.cap ∧ r.cap ≤ maxLen ∧ ∀ u ∈ r.vals, VVOk u := by
    rcases k3 with rfl | ⟨es, sp, _, _, k3⟩
    · intro r hr; cases hr
    · intro r hr
      obtain ⟨d, _, hd⟩ := k3 r hr
      exact hd.1
  refine ⟨⟨A1, c1, cols, A2, c2, types, A3, c3, rows⟩, rfl, ⟨q1, q2, q3, fun r hr => (k4 r hr).1⟩, ⟨Nat.le_trans a1 m1, Nat.le_trans a2 m2, Nat.le_trans a3 m3, fun r hr => ?_, k2, fun r hr => (k4 r hr).2.2.2⟩, ⟨_, _, _, rfl, ?_⟩⟩
  · have h1 := (k4 r hr).2.1
    have h2 := (k4 r hr).2.2.1
    rw [maxLen_eq] at h2
    omega
  · rcases k3 with h | ⟨es, sp, e1, e2, k3⟩
    · exact .inl h
    · refine .inr ⟨es, sp, e1, e2, fun r hr => ?_⟩
      obtain ⟨d, hd, hr2⟩ := k3 r hr
      exact ⟨d, hd, hr2.2⟩
set_option maxRecDepth 100000 in
theorem reach_dataset {H : Type} {ts : List TypeId} {ds : List (DataW H)} (h : (DataW.weightsEach Tryd.prog ts ds).all (· ≤ reachBytes) = true) {j : Nat} {d : DataW H} {D : DS}
    (ht : ts[j]? = some 26) (hd : ds[j]? = some d) (q : rowsIs D d) : D.rows.length * 24 ≤ 140737488355328 ∧ ∀ r ∈ D.rows, r.vals.length * 32 ≤ 140737488355328 ∧ ∀ v ∈ r.vals, v.s.size ≤ 140737488355328 := by
  obtain ⟨a, b, c, rfl, q⟩ := q
  obtain ⟨f0, f1, f2, hu, h1, t0, t1, t2⟩ := ds_U
  have hall : ∀ n, n ∈ c.weights Tryd.prog 24 → n ≤ 140737488355328 := fun n hn => by
    have hm : n ∈ (DataW.agg [a, b, c] : DataW H).weights Tryd.prog 26 := by
      simp only [DataW.weights, hu]
      simp only [List.map_cons, List.map_nil, t0, t1, t2, DataW.weightsEach]
      simp [hn]
    have := List.all_eq_true.1 h _ (DataW.weights_mem_each ht hd n hm)
    simp only [decide_eq_true_eq] at this
    exact Nat.le_trans this (by decide)
  rcases q with e | ⟨es, sp, rfl, e, q⟩
  · rw [e]; simp
  · have hb1 : Tryd.prog.bytesOf 45 = 24 := by kernel_rfl
    have hb2 : Tryd.prog.bytesOf 42 = 32 := by kernel_rfl
    constructor
    · have := hall ((es.length + sp.length) * Tryd.prog.bytesOf 45) (by simp [DataW.weights, Tryd.underlying24])
      rw [hb1] at this
      omega
    · intro r hr
      obtain ⟨d, hd2, hr2⟩ := q r hr
      rcases hr2 with e2 | ⟨es', sp', rfl, e2, e3⟩
      · rw [e2]; simp
      · constructor
        · have := hall ((es'.length + sp'.length) * Tryd.prog.bytesOf 42) (by
            simp only [DataW.weights, Tryd.underlying24]
            refine List.mem_cons_of_mem _ (List.mem_append_left _ (weights_mem_all ?_ hd2))
            simp [DataW.weights, Tryd.underlying45])
          rw [hb2] at this
          omega
        · intro v hv
          obtain ⟨dv, hdv, a', b', rfl⟩ := e3 v hv
          obtain ⟨f0, f1, f2, hu', _, t0', t1', t2'⟩ := val_U
          have := hall v.s.data.toList.length (by
            simp only [DataW.weights, Tryd.underlying24]
            refine List.mem_cons_of_mem _ (List.mem_append_left _ (weights_mem_all ?_ hd2))
            simp only [DataW.weights, Tryd.underlying45]
            refine List.mem_cons_of_mem _ (List.mem_append_left _ (weights_mem_all ?_ hdv))
            simp only [DataW.weights, hu']
            simp only [List.map_cons, List.map_nil, t0', t1', t2', DataW.weightsEach]
            simp [DataW.weights, Tryd.underlying9])
          simpa using this
end Go.Proofs.YtlgokfgbcohioaaDoor
