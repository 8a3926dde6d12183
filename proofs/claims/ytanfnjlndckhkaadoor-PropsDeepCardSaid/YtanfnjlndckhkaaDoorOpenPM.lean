/- []api.Prop opened: a tree of lists, by induction over the reading's fuel. -/
import Derived.Test.YtanfnjlndckhkaaDoorK2
import Derived.Test.YtanfnjlndckhkaaDoorK6
import Derived.Test.YtanfnjlndckhkaaDoorRows
namespace Go.Proofs.YtanfnjlndckhkaaDoor
open Go.ChangeShapes Go.WideShapes Go.ChangeAt Go.RowKit

theorem bulk_pos {H : Type} (d : DataW H) : 1 ≤ Rows.uptoBulk d := by
  cases d with
  | lit l => cases l <;> simp [Rows.uptoBulk]
  | nil => simp [Rows.uptoBulk]
  | ptr d => simp [Rows.uptoBulk]
  | slice elems spare => simp [Rows.uptoBulk]
  | agg parts => simp [Rows.uptoBulk]
  | iface t d => simp [Rows.uptoBulk]
  | map entries => simp [Rows.uptoBulk]
  | held h => simp [Rows.uptoBulk]
theorem bulk_part {H : Type} {d : DataW H} {l : List (DataW H)} (h : d ∈ l) : Rows.uptoBulk d ≤ Rows.uptoBulkAll l := by
  induction l with
  | nil => cases h
  | cons x r ih =>
    simp only [Rows.uptoBulkAll]
    cases List.mem_cons.1 h with
    | inl e => subst e; omega
    | inr e => have := ih e; omega
/-- a slice opened, its elements by a law that may lean on less fuel, each beside its datum -/
theorem open_listN {H : Type} {enc : TypeId × Value → H} {W : World} {α : Type} (a0 : α) {t e : TypeId} (hu : Tryd.prog.underlying t = some (.slice e)) (size : Nat) (hs : Tryd.prog.cellsOf e = size) (hpos : 0 < size) (cells : α → List Value) (hcl : ∀ a, (cells a).length = size) (P : α → DataW H → Prop)
    {fuel : Nat} (ho : ∀ n, n < fuel → ∀ cs y, DataW.trod enc Tryd.prog W 0 (fun _ => true) true n e cs = some y → ∃ a, cs = cells a ∧ P a y.1)
    {v : Value} {x : DataW H × List MemPlace} (h : DataW.trod enc Tryd.prog W 0 (fun _ => true) true fuel t [v] = some x) :
    ∃ A c, ∃ l : List α, v = .slice A l.length c ∧ l.length ≤ c ∧ c ≤ maxLen ∧ Rd W W.heap.size A (l.flatMap cells) ∧ (l = [] ∨ ∃ es sp, x.1 = .slice es sp ∧ es.length = l.length ∧ ∀ a ∈ l, ∃ d ∈ es, P a d) := by
  rcases DataW.trod_slice hu h with ⟨hcs, _⟩ | ⟨y, len, cap, elems, rest, n, hfuel, hcs, rfl, _, hl, hm, hlen, hel, _, _⟩
  · obtain rfl : v = _ := by simpa using hcs
    exact ⟨none, 0, [], rfl, Nat.le_refl _, by simp [maxLen], Rd.nil, .inl rfl⟩
  · obtain rfl : v = _ := by simpa using hcs
    have hF0 : ∀ i, ∃ f : α, i < len → W.cells? 0 (y.add (i * size)) size = some (cells f) ∧ P f (elems.getD i (.nil, [])).1 := fun i => by
      by_cases hi : i < len
      · have h1 := hel i hi
        rw [hs] at h1
        have h2 : elems[i]? = some (elems.getD i (.nil, [])) := by rw [List.getD_eq_getElem?_getD, List.getElem?_eq_getElem (by omega)]; rfl
        rw [h2] at h1
        obtain ⟨cs', h3, h4⟩ := Option.bind_eq_some_iff.1 h1
        obtain ⟨f, rfl, hf⟩ := ho n (by omega) _ _ h4
        exact ⟨f, fun _ => ⟨h3, hf⟩⟩
      · exact ⟨a0, fun h => absurd h hi⟩
    obtain ⟨F, hF⟩ := Classical.axiomOfChoice hF0
    refine ⟨some y, cap, (List.range len).map F, by simp, by simpa using hl, hm, ?_, .inr ⟨_, _, rfl, by simp [hlen], ?_⟩⟩
    · rcases Nat.eq_zero_or_pos len with rfl | hn
      · exact .inl rfl
      · have hc : ∀ i, i < len → ∀ r, r < size → W.cell? (y.add (i * size + r)) = (cells (F i))[r]? := fun i hi r hr => by
          have h := World.cells?_some (hF i hi).1
          have e : (y.add (i * size)).add r = y.add (i * size + r) := Addr.add_add _ _ _
          rw [← e]
          exact h.2.2 r hr
        obtain ⟨b, off, spot⟩ := y
        have h0 := hc 0 (by omega) 0 hpos
        have hlt0 : (cells (F 0))[0]? = some ((cells (F 0))[0]'(by rw [hcl]; exact hpos)) := List.getElem?_eq_getElem _
        rw [hlt0] at h0
        have hspot : spot = none := by simpa [Addr.add] using World.cell?_spot h0
        subst hspot
        rw [Addr.add_lit] at h0
        refine .inr ⟨b, off, rfl, World.block_lt_of_cell? W _ h0, fun i hi => ?_⟩
        rw [flat_len hcl] at hi
        simp only [List.length_map, List.length_range] at hi
        have hq : i / size < len := Nat.div_lt_of_lt_mul hi
        have hr : i % size < size := Nat.mod_lt _ hpos
        have h := hc (i / size) (by omega) (i % size) hr
        have hdm : i / size * size + i % size = i := by rw [Nat.mul_comm]; exact Nat.div_add_mod i size
        rw [Addr.add_lit, hdm] at h
        rw [h, ← flat_at hcl (l := (List.range len).map F) (i := i / size) (a := F (i / size)) (by simp [hq]) (i % size) hr, Nat.div_add_mod]
    · intro f hf
      obtain ⟨i, hi, rfl⟩ := List.mem_map.1 hf
      have hi2 := List.mem_range.1 hi
      refine ⟨_, ?_, (hF i hi2).2⟩
      refine List.mem_map.2 ⟨elems.getD i (.nil, []), ?_, rfl⟩
      rw [List.getD_eq_getElem?_getD, List.getElem?_eq_getElem (show i < elems.length by omega)]
      exact List.getElem_mem _
def Ps.of : List Pn → Ps
  | [] => .nil
  | p :: l => .cons p.key p.type p.null p.v p.adr p.cap p.sub (Ps.of l)
theorem Ps.of_list : ∀ l : List Pn, (Ps.of l).list = l := by
  intro l
  induction l with
  | nil => rfl
  | cons p l ih => rw [Ps.of, Ps.list, ih]
/-- what a list of properties is, where it lies, and its datum -/
structure PsIs {H : Type} (W : World) (A : Option Addr) (l : Ps) (d : DataW H) : Prop where
  at_ : l.At W W.heap.size A
  ok : l.Ok
  deep : l.depth ≤ Rows.uptoBulk d
structure PropIs {H : Type} (W : World) (p : Pn) (d : DataW H) : Prop where
  ty : p.type < 4294967296
  v : VVOk p.v
  len : p.sub.list.length ≤ 9223372036854775807
  at_ : p.sub.At W W.heap.size p.adr
  ok : p.sub.Ok
  deep : pone p.v p.sub.depth ≤ Rows.uptoBulk d
set_option maxRecDepth 100000 in
theorem prop_U : ∃ f0 f1 f2 f3 f4, Tryd.prog.underlying 75 = some (.struct #[f0, f1, f2, f3, f4]) ∧ (f0.type = 9 ∧ f1.type = 60 ∧ f2.type = 4 ∧ f3.type = 42 ∧ f4.type = 35) ∧ (f0.offset = 0 ∧ f1.offset = 1 ∧ f2.offset = 2 ∧ f3.offset = 3 ∧ f4.offset = 6) :=
  ⟨_, _, _, _, _, Tryd.underlying75, ⟨rfl, rfl, rfl, rfl, rfl⟩, ⟨rfl, rfl, rfl, rfl, rfl⟩⟩
set_option maxRecDepth 100000 in
theorem prop_C : Tryd.prog.cellsOf 75 = 7 := by kernel_rfl
set_option maxRecDepth 100000 in
theorem props_C : Tryd.prog.cellsOf 35 = 1 := by kernel_rfl
set_option maxRecDepth 100000 in
theorem bool_C : Tryd.prog.cellsOf 4 = 1 := by kernel_rfl
set_option maxRecDepth 100000 in
theorem trod_prop {H : Type} {enc : TypeId × Value → H} {W : World} {n : Nat} {cs : List Value} {x : DataW H × List MemPlace}
    (hsub : ∀ m, m < n → ∀ v y, DataW.trod enc Tryd.prog W 0 (fun _ => true) true m 35 [v] = some y → ∃ A c, ∃ l : Ps, v = .slice A l.list.length c ∧ l.list.length ≤ c ∧ c ≤ maxLen ∧ PsIs W A l y.1)
    (h : DataW.trod enc Tryd.prog W 0 (fun _ => true) true n 75 cs = some x) : ∃ p : Pn, cs = p.cells ∧ PropIs W p x.1 := by
  obtain ⟨f0, f1, f2, f3, f4, hu, ⟨t0, t1, t2, t3, t4⟩, o0, o1, o2, o3, o4⟩ := prop_U
  obtain ⟨xs, n', hn, rfl, hl, hlen, hf⟩ := DataW.trod_struct hu h
  rw [prop_C] at hl
  match xs, hlen with
  | [y0, y1, y2, y3, y4], _ =>
    have r0 := hf 0 f0 rfl
    have r1 := hf 1 f1 rfl
    have r2 := hf 2 f2 rfl
    have r3 := hf 3 f3 rfl
    have r4 := hf 4 f4 rfl
    rw [t0, o0, str_C] at r0
    rw [t1, o1, u32_C] at r1
    rw [t2, o2, bool_C] at r2
    rw [t3, o3, val_C] at r3
    rw [t4, o4, props_C] at r4
    match cs, hl with
    | [v0, v1, v2, v3, v4, v5, v6], _ =>
      have r0 : DataW.trod enc Tryd.prog W 0 (fun _ => true) true n' 9 [v0] = some y0 := r0
      have r1 : DataW.trod enc Tryd.prog W 0 (fun _ => true) true n' 60 [v1] = some y1 := r1
      have r2 : DataW.trod enc Tryd.prog W 0 (fun _ => true) true n' 4 [v2] = some y2 := r2
      have r3 : DataW.trod enc Tryd.prog W 0 (fun _ => true) true n' 42 [v3, v4, v5] = some y3 := r3
      have r4 : DataW.trod enc Tryd.prog W 0 (fun _ => true) true n' 35 [v6] = some y4 := r4
      obtain ⟨s, e0, _, _⟩ := DataW.trod_string Tryd.underlying9 r0
      obtain ⟨z, e1, _, w1⟩ := DataW.trod_int Tryd.underlying60 r1
      obtain ⟨b, e2, _⟩ := DataW.trod_bool Tryd.underlying4 r2
      obtain ⟨vv, e3, hv⟩ := trod_value r3
      obtain ⟨A, c, l, e4, _, hc, hp⟩ := hsub n' (by omega) v6 y4 r4
      obtain rfl : v0 = _ := by simpa using e0
      obtain rfl : v1 = _ := by simpa using e1
      obtain rfl : v2 = _ := by simpa using e2
      obtain ⟨z', rfl, bz⟩ := nat_of_u32 w1
      subst e4
      obtain ⟨rfl, rfl, rfl⟩ : v3 = .int .i64 vv.k ∧ v4 = .int .u64 vv.n ∧ v5 = .string vv.s := by simpa [VV.cells] using e3
      refine ⟨⟨s, z', b, vv, A, c, l⟩, rfl, bz, hv, ?_, hp.at_, hp.ok, ?_⟩
      · rw [maxLen_eq] at hc; simp only; omega
      · have h1 := hp.deep
        have h0 := bulk_pos y0.1
        simp only [Rows.uptoBulk, List.map_cons, List.map_nil, Rows.uptoBulkAll]
        have h3 := bulk_pos y1.1
        have h4 := bulk_pos y4.1
        unfold pone
        split <;> omega
theorem open_ps {H : Type} {enc : TypeId × Value → H} {W : World} : ∀ (fuel : Nat) (v : Value) (x : DataW H × List MemPlace), DataW.trod enc Tryd.prog W 0 (fun _ => true) true fuel 35 [v] = some x →
    ∃ A c, ∃ l : Ps, v = .slice A l.list.length c ∧ l.list.length ≤ c ∧ c ≤ maxLen ∧ PsIs W A l x.1 := by
  intro fuel
  induction fuel using Nat.strongRecOn with
  | ind fuel ih =>
    intro v x h
    obtain ⟨A, c, l, h1, h2, h3, h4, h5⟩ := open_listN (⟨.empty, 0, false, VV.zero, none, 0, .nil⟩ : Pn) Tryd.underlying35 7 prop_C (by omega) Pn.cells (fun _ => rfl) (PropIs W)
      (fun n hn cs y h => trod_prop (fun m hm v y h => ih m (by omega) v y h) h) h
    have hall : ∀ p ∈ l, ∃ d : DataW H, PropIs W p d ∧ Rows.uptoBulk d ≤ Rows.uptoBulk x.1 := by
      rcases h5 with rfl | ⟨es, sp, e1, e2, h5⟩
      · intro p hp; cases hp
      · intro p hp
        obtain ⟨d, hd, hpd⟩ := h5 p hp
        refine ⟨d, hpd, ?_⟩
        rw [e1]
        have := bulk_part hd
        simp only [Rows.uptoBulk]
        omega
    refine ⟨A, c, Ps.of l, by rw [Ps.of_list]; exact h1, by rw [Ps.of_list]; exact h2, h3, ⟨by rw [Ps.of_list]; exact h4, ?_⟩, ?_, ?_⟩
    · clear h1 h2 h3 h4 h5
      induction l with
      | nil => exact trivial
      | cons p l ih2 =>
        obtain ⟨d, hp, _⟩ := hall p (by simp)
        exact ⟨hp.at_.rd, hp.at_.subs, ih2 (fun q hq => hall q (by simp [hq]))⟩
    · clear h1 h2 h3 h4 h5
      induction l with
      | nil => exact trivial
      | cons p l ih2 =>
        obtain ⟨d, hp, _⟩ := hall p (by simp)
        exact ⟨hp.ty, hp.v, hp.len, hp.ok, ih2 (fun q hq => hall q (by simp [hq]))⟩
    · clear h1 h2 h3 h4 h5
      rw [Ps.depth_list, Ps.of_list]
      induction l with
      | nil => exact Nat.zero_le _
      | cons p l ih2 =>
        obtain ⟨d, hp, hb⟩ := hall p (by simp)
        have h1 := ih2 (fun q hq => hall q (by simp [hq]))
        have h2 := hp.deep
        rw [pdeep]
        omega
set_option maxRecDepth 100000 in
theorem open_props {H : Type} {enc : TypeId × Value → H} {r : Reach} {b0 : Nat} {W : World} {v : Value} {d : DataW H} {p : List MemPlace} (hv : Value.okWide Tryd.prog W r b0 35 v) (h : DataW.Trod enc Tryd.prog W 0 (fun _ => true) true 35 v d p) :
    ∃ A c, ∃ l : Ps, v = .slice A l.list.length c ∧ l.list.length ≤ 9223372036854775807 ∧ l.At W W.heap.size A ∧ l.Ok ∧ l.depth ≤ Rows.uptoBulk d := by
  obtain ⟨a, n, c, rfl⟩ := okWide_slice Tryd.underlying35 hv
  obtain ⟨fuel, hf⟩ := h
  obtain ⟨A, c', l, h1, h2, h3, h4⟩ := open_ps fuel _ _ hf
  rw [maxLen_eq] at h3
  exact ⟨A, c', l, h1, by omega, h4.at_, h4.ok, h4.deep⟩
end Go.Proofs.YtanfnjlndckhkaaDoor
