/- []api.Metric, []api.Template opened: a tree of lists, by induction over the reading's fuel; api.Metric, api.Payload. -/
import Derived.Test.YtaahhommfpohhaaSlO
import Derived.Test.YtaahhommfpohhaaMtP
import Derived.Lib.SmallJoins
namespace Go.Proofs.Ytaahhommfpohhaa
open Go.ChangeShapes Go.WideShapes Go.ChangeAt Go.RowKit Go.Deep

set_option maxRecDepth 100000 in
theorem meta_U : ∃ f0 f1 f2 f3 f4 f5 f6 f7, Try.prog.underlying 72 = some (.struct #[f0, f1, f2, f3, f4, f5, f6, f7]) ∧ (f0.type = 4 ∧ f1.type = 9 ∧ f2.type = 22 ∧ f3.type = 22 ∧ f4.type = 9 ∧ f5.type = 9 ∧ f6.type = 9 ∧ f7.type = 9) ∧
    (f0.offset = 0 ∧ f1.offset = 1 ∧ f2.offset = 2 ∧ f3.offset = 3 ∧ f4.offset = 4 ∧ f5.offset = 5 ∧ f6.offset = 6 ∧ f7.offset = 7) :=
  ⟨_, _, _, _, _, _, _, _, Try.underlying72, ⟨rfl, rfl, rfl, rfl, rfl, rfl, rfl, rfl⟩, ⟨rfl, rfl, rfl, rfl, rfl, rfl, rfl, rfl⟩⟩
set_option maxRecDepth 100000 in
theorem meta_C : Try.prog.cellsOf 72 = 8 := by kernel_rfl
set_option maxRecDepth 100000 in
theorem u64_C : Try.prog.cellsOf 22 = 1 := by kernel_rfl
set_option maxRecDepth 100000 in
theorem trod_meta {H : Type} {enc : TypeId × Value → H} {W : World} {n : Nat} {cs : List Value} {x : DataW H × List MemPlace} (h : DataW.trod enc Try.prog W 0 (fun _ => true) true n 72 cs = some x) : ∃ m : MM, cs = m.cells.toList ∧ MOk m := by
  obtain ⟨f0, f1, f2, f3, f4, f5, f6, f7, hu, ⟨t0, t1, t2, t3, t4, t5, t6, t7⟩, o0, o1, o2, o3, o4, o5, o6, o7⟩ := meta_U
  obtain ⟨xs, n', hn, rfl, hl, hlen, hf⟩ := DataW.trod_struct hu h
  rw [meta_C] at hl
  match xs, hlen with
  | [y0, y1, y2, y3, y4, y5, y6, y7], _ =>
    have r0 := hf 0 f0 rfl
    have r1 := hf 1 f1 rfl
    have r2 := hf 2 f2 rfl
    have r3 := hf 3 f3 rfl
    have r4 := hf 4 f4 rfl
    have r5 := hf 5 f5 rfl
    have r6 := hf 6 f6 rfl
    have r7 := hf 7 f7 rfl
    rw [t0, o0, bool_C] at r0
    rw [t1, o1, str_C] at r1
    rw [t2, o2, u64_C] at r2
    rw [t3, o3, u64_C] at r3
    rw [t4, o4, str_C] at r4
    rw [t5, o5, str_C] at r5
    rw [t6, o6, str_C] at r6
    rw [t7, o7, str_C] at r7
    match cs, hl with
    | [v0, v1, v2, v3, v4, v5, v6, v7], _ =>
      have r0 : DataW.trod enc Try.prog W 0 (fun _ => true) true n' 4 [v0] = some y0 := r0
      have r1 : DataW.trod enc Try.prog W 0 (fun _ => true) true n' 9 [v1] = some y1 := r1
      have r2 : DataW.trod enc Try.prog W 0 (fun _ => true) true n' 22 [v2] = some y2 := r2
      have r3 : DataW.trod enc Try.prog W 0 (fun _ => true) true n' 22 [v3] = some y3 := r3
      have r4 : DataW.trod enc Try.prog W 0 (fun _ => true) true n' 9 [v4] = some y4 := r4
      have r5 : DataW.trod enc Try.prog W 0 (fun _ => true) true n' 9 [v5] = some y5 := r5
      have r6 : DataW.trod enc Try.prog W 0 (fun _ => true) true n' 9 [v6] = some y6 := r6
      have r7 : DataW.trod enc Try.prog W 0 (fun _ => true) true n' 9 [v7] = some y7 := r7
      obtain ⟨a0, e0, _⟩ := DataW.trod_bool Try.underlying4 r0
      obtain ⟨a1, e1, _⟩ := DataW.trod_string Try.underlying9 r1
      obtain ⟨a2, e2, _, w2⟩ := DataW.trod_int Try.underlying22 r2
      obtain ⟨a3, e3, _, w3⟩ := DataW.trod_int Try.underlying22 r3
      obtain ⟨a4, e4, _⟩ := DataW.trod_string Try.underlying9 r4
      obtain ⟨a5, e5, _⟩ := DataW.trod_string Try.underlying9 r5
      obtain ⟨a6, e6, _⟩ := DataW.trod_string Try.underlying9 r6
      obtain ⟨a7, e7, _⟩ := DataW.trod_string Try.underlying9 r7
      obtain rfl : v0 = _ := by simpa using e0
      obtain rfl : v1 = _ := by simpa using e1
      obtain rfl : v2 = _ := by simpa using e2
      obtain rfl : v3 = _ := by simpa using e3
      obtain rfl : v4 = _ := by simpa using e4
      obtain rfl : v5 = _ := by simpa using e5
      obtain rfl : v6 = _ := by simpa using e6
      obtain rfl : v7 = _ := by simpa using e7
      obtain ⟨n2, rfl, b2⟩ := nat_of_u64 w2
      obtain ⟨n3, rfl, b3⟩ := nat_of_u64 w3
      exact ⟨⟨a0, a1, n2, n3, a4, a5, a6, a7⟩, rfl, b2, b3⟩
set_option maxRecDepth 100000 in
theorem open_metas {H : Type} {enc : TypeId × Value → H} {W : World} {fuel : Nat} {v : Value} {x : DataW H × List MemPlace} (h : DataW.trod enc Try.prog W 0 (fun _ => true) true fuel 24 [v] = some x) :
    ∃ A c, ∃ l : List MM, v = .slice A l.length c ∧ l.length ≤ c ∧ c ≤ maxLen ∧ Rd W W.heap.size A (mmcl l) ∧ ∀ u ∈ l, MOk u := by
  obtain ⟨A, c, l, h1, h2, h3, h4, h5, _⟩ := open_list (⟨false, .empty, 0, 0, .empty, .empty, .empty, .empty⟩ : MM) Try.underlying24 8 meta_C (by omega) (fun m : MM => m.cells.toList) (fun _ => rfl) MOk (fun n cs y h => trod_meta h) h
  exact ⟨A, c, l, h1, h2, h3, h4, h5⟩
set_option maxRecDepth 100000 in
theorem trod_dataset {H : Type} {enc : TypeId × Value → H} {W : World} {n : Nat} {cs : List Value} {x : DataW H × List MemPlace} (h : DataW.trod enc Try.prog W 0 (fun _ => true) true n 79 cs = some x) : ∃ D : DS, cs = D.cells ∧ D.At W W.heap.size ∧ DSOk D := by
  obtain ⟨f0, f1, f2, hu, h1, t0, t1, t2⟩ := ds_U
  obtain ⟨y0, y1, y2, n', rfl, hl, r0, r1, r2⟩ := Go.Deep.trod_struct3 hu h
  rw [ds_C] at hl
  obtain ⟨o0, k0⟩ := Go.Deep.hone_of h1 0 f0 rfl
  obtain ⟨o1, k1⟩ := Go.Deep.hone_of h1 1 f1 rfl
  obtain ⟨o2, k2⟩ := Go.Deep.hone_of h1 2 f2 rfl
  match cs, hl with
  | [v0, v1, v2], _ =>
    have z0 : DataW.trod enc Try.prog W 0 (fun _ => true) true n' f0.type [v0] = some y0 := by simpa [o0, k0] using r0
    have z1 : DataW.trod enc Try.prog W 0 (fun _ => true) true n' f1.type [v1] = some y1 := by simpa [o1, k1] using r1
    have z2 : DataW.trod enc Try.prog W 0 (fun _ => true) true n' f2.type [v2] = some y2 := by simpa [o2, k2] using r2
    rw [t0] at z0
    rw [t1] at z1
    rw [t2] at z2
    obtain ⟨A1, c1, cols, rfl, a1, m1, q1⟩ := open_strings z0
    obtain ⟨A2, c2, types, rfl, a2, m2, q2, k2⟩ := open_u32s z1
    obtain ⟨A3, c3, rows, rfl, a3, m3, q3, k3⟩ := open_rows z2
    rw [maxLen_eq] at m1 m2 m3
    refine ⟨⟨A1, c1, cols, A2, c2, types, A3, c3, rows⟩, rfl, ⟨q1, q2, q3, fun r hr => (k3 r hr).1⟩, ⟨Nat.le_trans a1 m1, Nat.le_trans a2 m2, Nat.le_trans a3 m3, fun r hr => ?_, k2, fun r hr => (k3 r hr).2.2.2⟩⟩
    have h1 := (k3 r hr).2.1
    have h2 := (k3 r hr).2.2.1
    rw [maxLen_eq] at h2
    omega
set_option maxRecDepth 100000 in
theorem open_sets {H : Type} {enc : TypeId × Value → H} {W : World} {fuel : Nat} {v : Value} {x : DataW H × List MemPlace} (h : DataW.trod enc Try.prog W 0 (fun _ => true) true fuel 28 [v] = some x) :
    ∃ A c, ∃ l : List DS, v = .slice A l.length c ∧ l.length ≤ c ∧ c ≤ maxLen ∧ Rd W W.heap.size A (dscl l) ∧ ∀ u ∈ l, u.At W W.heap.size ∧ DSOk u := by
  obtain ⟨A, c, l, h1, h2, h3, h4, h5, _⟩ := open_list (⟨none, 0, [], none, 0, [], none, 0, []⟩ : DS) Try.underlying28 3 ds_C (by omega) DS.cells (fun _ => rfl) (fun u => u.At W W.heap.size ∧ DSOk u) (fun n cs y h => trod_dataset h) h
  exact ⟨A, c, l, h1, h2, h3, h4, h5⟩
set_option maxRecDepth 100000 in
theorem param_U : ∃ f0 f1 f2, Try.prog.underlying 110 = some (.struct #[f0, f1, f2]) ∧ (f0.type = 9 ∧ f1.type = 23 ∧ f2.type = 27) ∧ (f0.offset = 0 ∧ f1.offset = 1 ∧ f2.offset = 2) :=
  ⟨_, _, _, Try.underlying110, ⟨rfl, rfl, rfl⟩, ⟨rfl, rfl, rfl⟩⟩
set_option maxRecDepth 100000 in
theorem param_C : Try.prog.cellsOf 110 = 5 := by kernel_rfl
set_option maxRecDepth 100000 in
theorem trod_param {H : Type} {enc : TypeId × Value → H} {W : World} {n : Nat} {cs : List Value} {x : DataW H × List MemPlace} (h : DataW.trod enc Try.prog W 0 (fun _ => true) true n 110 cs = some x) : ∃ p : Pm, cs = p.cells ∧ PmOk p := by
  obtain ⟨f0, f1, f2, hu, ⟨t0, t1, t2⟩, o0, o1, o2⟩ := param_U
  obtain ⟨xs, n', hn, rfl, hl, hlen, hf⟩ := DataW.trod_struct hu h
  rw [param_C] at hl
  match xs, hlen with
  | [y0, y1, y2], _ =>
    have r0 := hf 0 f0 rfl
    have r1 := hf 1 f1 rfl
    have r2 := hf 2 f2 rfl
    rw [t0, o0, str_C] at r0
    rw [t1, o1, u32_C] at r1
    rw [t2, o2, val_C] at r2
    match cs, hl with
    | [v0, v1, v2, v3, v4], _ =>
      have r0 : DataW.trod enc Try.prog W 0 (fun _ => true) true n' 9 [v0] = some y0 := r0
      have r1 : DataW.trod enc Try.prog W 0 (fun _ => true) true n' 23 [v1] = some y1 := r1
      have r2 : DataW.trod enc Try.prog W 0 (fun _ => true) true n' 27 [v2, v3, v4] = some y2 := r2
      obtain ⟨s, e0, _, _⟩ := DataW.trod_string Try.underlying9 r0
      obtain ⟨z, e1, _, w1⟩ := DataW.trod_int Try.underlying23 r1
      obtain ⟨vv, e3, hv⟩ := trod_value r2
      obtain rfl : v0 = _ := by simpa using e0
      obtain rfl : v1 = _ := by simpa using e1
      obtain ⟨z', rfl, bz⟩ := nat_of_u32 w1
      obtain ⟨rfl, rfl, rfl⟩ : v2 = .int .i64 vv.k ∧ v3 = .int .u64 vv.n ∧ v4 = .string vv.s := by simpa [VV.cells] using e3
      exact ⟨⟨s, z', vv⟩, rfl, bz, hv⟩
set_option maxRecDepth 100000 in
theorem open_params {H : Type} {enc : TypeId × Value → H} {W : World} {fuel : Nat} {v : Value} {x : DataW H × List MemPlace} (h : DataW.trod enc Try.prog W 0 (fun _ => true) true fuel 60 [v] = some x) :
    ∃ A c, ∃ l : List Pm, v = .slice A l.length c ∧ l.length ≤ c ∧ c ≤ maxLen ∧ Rd W W.heap.size A (pmcl l) ∧ ∀ u ∈ l, PmOk u := by
  obtain ⟨A, c, l, h1, h2, h3, h4, h5, _⟩ := open_list (⟨.empty, 0, VV.zero⟩ : Pm) Try.underlying60 5 param_C (by omega) Pm.cells (fun _ => rfl) PmOk (fun n cs y h => trod_param h) h
  exact ⟨A, c, l, h1, h2, h3, h4, h5⟩
def Tr.of : List Nd → Tr
  | [] => .nil
  | p :: l => .cons p.h p.t p.adr p.cap p.sub (Tr.of l)
theorem Tr.of_list : ∀ l : List Nd, (Tr.of l).list = l := by
  intro l
  induction l with
  | nil => rfl
  | cons p l ih => rw [Tr.of, Tr.list, ih]
def MH.zero : MH := ⟨⟨#[]⟩, false, 0, 0, 0, false, false, false, none, 0, [], none, 0, .nil, VV.zero, none, 0, []⟩
def TH.zero : TH := ⟨⟨#[]⟩, ⟨#[]⟩, false, none, 0, []⟩
def Nd.zero : Nd := ⟨MH.zero, TH.zero, none, 0, .nil⟩
/-- the type of a list of metrics, of templates -/
def nty (s : Bool) : TypeId := if s = true then 41 else 29
def ety (s : Bool) : TypeId := if s = true then 31 else 62
structure NdIs (s : Bool) (W : World) (p : Nd) : Prop where
  hd : Hat s p.h p.t W W.heap.size
  hok : Hok s p.h p.t
  len : p.sub.list.length ≤ 9223372036854775807
  at_ : p.sub.At (!s) W W.heap.size p.adr
  ok : p.sub.Ok (!s)
set_option maxRecDepth 100000 in
theorem met_U : ∃ f0 f1 f2 f3 f4 f5 f6 f7 f8 f9 f10 f11 f12, Try.prog.underlying 31 = some (.struct #[f0, f1, f2, f3, f4, f5, f6, f7, f8, f9, f10, f11, f12]) ∧
    (f0.type = 9 ∧ f1.type = 4 ∧ f2.type = 22 ∧ f3.type = 22 ∧ f4.type = 23 ∧ f5.type = 4 ∧ f6.type = 4 ∧ f7.type = 4 ∧ f8.type = 24 ∧ f9.type = 25 ∧ f10.type = 27 ∧ f11.type = 28 ∧ f12.type = 29) ∧
    (f0.offset = 0 ∧ f1.offset = 1 ∧ f2.offset = 2 ∧ f3.offset = 3 ∧ f4.offset = 4 ∧ f5.offset = 5 ∧ f6.offset = 6 ∧ f7.offset = 7 ∧ f8.offset = 8 ∧ f9.offset = 9 ∧ f10.offset = 10 ∧ f11.offset = 13 ∧ f12.offset = 14) :=
  ⟨_, _, _, _, _, _, _, _, _, _, _, _, _, Try.underlying31, ⟨rfl, rfl, rfl, rfl, rfl, rfl, rfl, rfl, rfl, rfl, rfl, rfl, rfl⟩, ⟨rfl, rfl, rfl, rfl, rfl, rfl, rfl, rfl, rfl, rfl, rfl, rfl, rfl⟩⟩
set_option maxRecDepth 100000 in
theorem met_C : Try.prog.cellsOf 31 = 15 := by kernel_rfl
set_option maxRecDepth 100000 in
theorem metas_C : Try.prog.cellsOf 24 = 1 := by kernel_rfl
set_option maxRecDepth 100000 in
theorem sets_C : Try.prog.cellsOf 28 = 1 := by kernel_rfl
set_option maxRecDepth 100000 in
theorem tems_C : Try.prog.cellsOf 29 = 1 := by kernel_rfl
set_option maxRecDepth 100000 in
theorem mets_C : Try.prog.cellsOf 41 = 1 := by kernel_rfl
set_option maxRecDepth 100000 in
theorem params_C : Try.prog.cellsOf 60 = 1 := by kernel_rfl
def TrIs {H : Type} (s : Bool) (W : World) (v : Value) (d : DataW H) : Prop := ∃ A c, ∃ l : Tr, v = .slice A l.list.length c ∧ l.list.length ≤ c ∧ c ≤ maxLen ∧ l.At s W W.heap.size A ∧ l.Ok s ∧ (l.list = [] ∨ ∃ es sp, d = .slice es sp ∧ es.length = l.list.length)
set_option maxRecDepth 100000 in
set_option maxHeartbeats 1000000 in
theorem trod_metric {H : Type} {enc : TypeId × Value → H} {W : World} {n : Nat} {cs : List Value} {x : DataW H × List MemPlace}
    (hsub : ∀ m, m < n → ∀ v y, DataW.trod enc Try.prog W 0 (fun _ => true) true m 29 [v] = some y → TrIs false W v y.1)
    (h : DataW.trod enc Try.prog W 0 (fun _ => true) true n 31 cs = some x) : ∃ p : Nd, cs = p.mcells ∧ NdIs true W p := by
  obtain ⟨f0, f1, f2, f3, f4, f5, f6, f7, f8, f9, f10, f11, f12, hu, ⟨t0, t1, t2, t3, t4, t5, t6, t7, t8, t9, t10, t11, t12⟩, o0, o1, o2, o3, o4, o5, o6, o7, o8, o9, o10, o11, o12⟩ := met_U
  obtain ⟨xs, n', hn, rfl, hl, hlen, hf⟩ := DataW.trod_struct hu h
  rw [met_C] at hl
  match xs, hlen with
  | [y0, y1, y2, y3, y4, y5, y6, y7, y8, y9, y10, y11, y12], _ =>
    have r0 := hf 0 f0 rfl
    have r1 := hf 1 f1 rfl
    have r2 := hf 2 f2 rfl
    have r3 := hf 3 f3 rfl
    have r4 := hf 4 f4 rfl
    have r5 := hf 5 f5 rfl
    have r6 := hf 6 f6 rfl
    have r7 := hf 7 f7 rfl
    have r8 := hf 8 f8 rfl
    have r9 := hf 9 f9 rfl
    have r10 := hf 10 f10 rfl
    have r11 := hf 11 f11 rfl
    have r12 := hf 12 f12 rfl
    rw [t0, o0, str_C] at r0
    rw [t1, o1, bool_C] at r1
    rw [t2, o2, u64_C] at r2
    rw [t3, o3, u64_C] at r3
    rw [t4, o4, u32_C] at r4
    rw [t5, o5, bool_C] at r5
    rw [t6, o6, bool_C] at r6
    rw [t7, o7, bool_C] at r7
    rw [t8, o8, metas_C] at r8
    rw [t9, o9, props_C] at r9
    rw [t10, o10, val_C] at r10
    rw [t11, o11, sets_C] at r11
    rw [t12, o12, tems_C] at r12
    match cs, hl with
    | [v0, v1, v2, v3, v4, v5, v6, v7, v8, v9, v10, v11, v12, v13, v14], _ =>
      have r0 : DataW.trod enc Try.prog W 0 (fun _ => true) true n' 9 [v0] = some y0 := r0
      have r1 : DataW.trod enc Try.prog W 0 (fun _ => true) true n' 4 [v1] = some y1 := r1
      have r2 : DataW.trod enc Try.prog W 0 (fun _ => true) true n' 22 [v2] = some y2 := r2
      have r3 : DataW.trod enc Try.prog W 0 (fun _ => true) true n' 22 [v3] = some y3 := r3
      have r4 : DataW.trod enc Try.prog W 0 (fun _ => true) true n' 23 [v4] = some y4 := r4
      have r5 : DataW.trod enc Try.prog W 0 (fun _ => true) true n' 4 [v5] = some y5 := r5
      have r6 : DataW.trod enc Try.prog W 0 (fun _ => true) true n' 4 [v6] = some y6 := r6
      have r7 : DataW.trod enc Try.prog W 0 (fun _ => true) true n' 4 [v7] = some y7 := r7
      have r8 : DataW.trod enc Try.prog W 0 (fun _ => true) true n' 24 [v8] = some y8 := r8
      have r9 : DataW.trod enc Try.prog W 0 (fun _ => true) true n' 25 [v9] = some y9 := r9
      have r10 : DataW.trod enc Try.prog W 0 (fun _ => true) true n' 27 [v10, v11, v12] = some y10 := r10
      have r11 : DataW.trod enc Try.prog W 0 (fun _ => true) true n' 28 [v13] = some y11 := r11
      have r12 : DataW.trod enc Try.prog W 0 (fun _ => true) true n' 29 [v14] = some y12 := r12
      obtain ⟨a0, e0, _⟩ := DataW.trod_string Try.underlying9 r0
      obtain ⟨a1, e1, _⟩ := DataW.trod_bool Try.underlying4 r1
      obtain ⟨a2, e2, _, w2⟩ := DataW.trod_int Try.underlying22 r2
      obtain ⟨a3, e3, _, w3⟩ := DataW.trod_int Try.underlying22 r3
      obtain ⟨a4, e4, _, w4⟩ := DataW.trod_int Try.underlying23 r4
      obtain ⟨a5, e5, _⟩ := DataW.trod_bool Try.underlying4 r5
      obtain ⟨a6, e6, _⟩ := DataW.trod_bool Try.underlying4 r6
      obtain ⟨a7, e7, _⟩ := DataW.trod_bool Try.underlying4 r7
      obtain ⟨ma, mc, metas, e8, m8, c8, rd8, ok8⟩ := open_metas r8
      obtain ⟨pa, pc, props, e9, m9, c9, is9⟩ := open_ps n' v9 y9 r9
      obtain ⟨vv, e10, hv⟩ := trod_value r10
      obtain ⟨sa, sc, sets, e11, m11, c11, rd11, ok11⟩ := open_sets r11
      obtain ⟨A, c, l, e12, m12, c12, at12, ok12, _⟩ := hsub n' (by omega) v14 y12 r12
      obtain rfl : v0 = _ := by simpa using e0
      obtain rfl : v1 = _ := by simpa using e1
      obtain rfl : v2 = _ := by simpa using e2
      obtain rfl : v3 = _ := by simpa using e3
      obtain rfl : v4 = _ := by simpa using e4
      obtain rfl : v5 = _ := by simpa using e5
      obtain rfl : v6 = _ := by simpa using e6
      obtain rfl : v7 = _ := by simpa using e7
      subst e8 e9 e11 e12
      obtain ⟨n2, rfl, b2⟩ := nat_of_u64 w2
      obtain ⟨n3, rfl, b3⟩ := nat_of_u64 w3
      obtain ⟨n4, rfl, b4⟩ := nat_of_u32 w4
      obtain ⟨rfl, rfl, rfl⟩ : v10 = .int .i64 vv.k ∧ v11 = .int .u64 vv.n ∧ v12 = .string vv.s := by simpa [VV.cells] using e10
      rw [maxLen_eq] at c8 c9 c11 c12
      exact ⟨⟨⟨a0, a1, n2, n3, n4, a5, a6, a7, ma, mc, metas, pa, pc, props, vv, sa, sc, sets⟩, TH.zero, A, c, l⟩, rfl,
        (⟨rd8, is9.at_, rd11, fun d hd => (ok11 d hd).1⟩ : MH.At _ _ _), (⟨b2, b3, b4, Nat.le_trans m8 c8, ok8, Nat.le_trans m9 c9, is9.ok, hv, Nat.le_trans m11 c11, fun d hd => (ok11 d hd).2⟩ : MH.Ok _), Nat.le_trans m12 c12, at12, ok12⟩
set_option maxRecDepth 100000 in
theorem tem_U : ∃ f0 f1 f2 f3 f4, Try.prog.underlying 62 = some (.struct #[f0, f1, f2, f3, f4]) ∧
    (f0.type = 9 ∧ f1.type = 9 ∧ f2.type = 4 ∧ f3.type = 60 ∧ f4.type = 41) ∧ (f0.offset = 0 ∧ f1.offset = 1 ∧ f2.offset = 2 ∧ f3.offset = 3 ∧ f4.offset = 4) :=
  ⟨_, _, _, _, _, Try.underlying62, ⟨rfl, rfl, rfl, rfl, rfl⟩, ⟨rfl, rfl, rfl, rfl, rfl⟩⟩
set_option maxRecDepth 100000 in
theorem tem_C : Try.prog.cellsOf 62 = 5 := by kernel_rfl
set_option maxRecDepth 100000 in
set_option maxHeartbeats 1000000 in
theorem trod_template {H : Type} {enc : TypeId × Value → H} {W : World} {n : Nat} {cs : List Value} {x : DataW H × List MemPlace}
    (hsub : ∀ m, m < n → ∀ v y, DataW.trod enc Try.prog W 0 (fun _ => true) true m 41 [v] = some y → TrIs true W v y.1)
    (h : DataW.trod enc Try.prog W 0 (fun _ => true) true n 62 cs = some x) : ∃ p : Nd, cs = p.tcells ∧ NdIs false W p := by
  obtain ⟨f0, f1, f2, f3, f4, hu, ⟨t0, t1, t2, t3, t4⟩, o0, o1, o2, o3, o4⟩ := tem_U
  obtain ⟨xs, n', hn, rfl, hl, hlen, hf⟩ := DataW.trod_struct hu h
  rw [tem_C] at hl
  match xs, hlen with
  | [y0, y1, y2, y3, y4], _ =>
    have r0 := hf 0 f0 rfl
    have r1 := hf 1 f1 rfl
    have r2 := hf 2 f2 rfl
    have r3 := hf 3 f3 rfl
    have r4 := hf 4 f4 rfl
    rw [t0, o0, str_C] at r0
    rw [t1, o1, str_C] at r1
    rw [t2, o2, bool_C] at r2
    rw [t3, o3, params_C] at r3
    rw [t4, o4, mets_C] at r4
    match cs, hl with
    | [v0, v1, v2, v3, v4], _ =>
      have r0 : DataW.trod enc Try.prog W 0 (fun _ => true) true n' 9 [v0] = some y0 := r0
      have r1 : DataW.trod enc Try.prog W 0 (fun _ => true) true n' 9 [v1] = some y1 := r1
      have r2 : DataW.trod enc Try.prog W 0 (fun _ => true) true n' 4 [v2] = some y2 := r2
      have r3 : DataW.trod enc Try.prog W 0 (fun _ => true) true n' 60 [v3] = some y3 := r3
      have r4 : DataW.trod enc Try.prog W 0 (fun _ => true) true n' 41 [v4] = some y4 := r4
      obtain ⟨a0, e0, _⟩ := DataW.trod_string Try.underlying9 r0
      obtain ⟨a1, e1, _⟩ := DataW.trod_string Try.underlying9 r1
      obtain ⟨a2, e2, _⟩ := DataW.trod_bool Try.underlying4 r2
      obtain ⟨qa, qc, params, e3, m3, c3, rd3, ok3⟩ := open_params r3
      obtain ⟨A, c, l, e4, m4, c4, at4, ok4, _⟩ := hsub n' (by omega) v4 y4 r4
      obtain rfl : v0 = _ := by simpa using e0
      obtain rfl : v1 = _ := by simpa using e1
      obtain rfl : v2 = _ := by simpa using e2
      subst e3 e4
      rw [maxLen_eq] at c3 c4
      exact ⟨⟨MH.zero, ⟨a0, a1, a2, qa, qc, params⟩, A, c, l⟩, rfl, (⟨rd3⟩ : TH.At _ _ _), (⟨Nat.le_trans m3 c3, ok3⟩ : TH.Ok _), Nat.le_trans m4 c4, at4, ok4⟩
theorem tr_of {s : Bool} {W : World} {A : Option Addr} {l : List Nd} (hr : Rd W W.heap.size A (ncl s l)) (h : ∀ p ∈ l, NdIs s W p) : (Tr.of l).At s W W.heap.size A ∧ (Tr.of l).Ok s := by
  refine ⟨⟨by rw [Tr.of_list]; exact hr, ?_⟩, ?_⟩
  · clear hr
    induction l with
    | nil => exact trivial
    | cons p l ih => exact ⟨(h p (by simp)).hd, (h p (by simp)).at_.rd, (h p (by simp)).at_.subs, ih fun q hq => h q (by simp [hq])⟩
  · clear hr
    induction l with
    | nil => exact trivial
    | cons p l ih => exact ⟨(h p (by simp)).hok, (h p (by simp)).len, (h p (by simp)).ok, ih fun q hq => h q (by simp [hq])⟩
set_option maxRecDepth 100000 in
theorem open_tr {H : Type} {enc : TypeId × Value → H} {W : World} : ∀ (fuel : Nat),
    (∀ (v : Value) (x : DataW H × List MemPlace), DataW.trod enc Try.prog W 0 (fun _ => true) true fuel 41 [v] = some x → TrIs true W v x.1) ∧
    (∀ (v : Value) (x : DataW H × List MemPlace), DataW.trod enc Try.prog W 0 (fun _ => true) true fuel 29 [v] = some x → TrIs false W v x.1) := by
  intro fuel
  induction fuel using Nat.strongRecOn with
  | ind fuel ih =>
    constructor
    · intro v x h
      obtain ⟨A, c, l, h1, h2, h3, h4, h5⟩ := open_listN Nd.zero Try.underlying41 15 met_C (by omega) Nd.mcells (fun _ => rfl) (fun p _ => NdIs true W p)
        (fun n hn cs y h => trod_metric (fun m hm v y h => (ih m (by omega)).2 v y h) h) h
      have hall : ∀ p ∈ l, NdIs true W p := by
        rcases h5 with rfl | ⟨es, sp, e1, e2, h5⟩
        · intro p hp; cases hp
        · intro p hp
          obtain ⟨d, hd, hpd⟩ := h5 p hp
          exact hpd
      obtain ⟨k1, k2⟩ := tr_of (s := true) h4 hall
      refine ⟨A, c, Tr.of l, by rw [Tr.of_list]; exact h1, by rw [Tr.of_list]; exact h2, h3, k1, k2, ?_⟩
      rw [Tr.of_list]
      rcases h5 with h5 | ⟨es, sp, e1, e2, _⟩
      · exact .inl h5
      · exact .inr ⟨es, sp, e1, e2⟩
    · intro v x h
      obtain ⟨A, c, l, h1, h2, h3, h4, h5⟩ := open_listN Nd.zero Try.underlying29 5 tem_C (by omega) Nd.tcells (fun _ => rfl) (fun p _ => NdIs false W p)
        (fun n hn cs y h => trod_template (fun m hm v y h => (ih m (by omega)).1 v y h) h) h
      have hall : ∀ p ∈ l, NdIs false W p := by
        rcases h5 with rfl | ⟨es, sp, e1, e2, h5⟩
        · intro p hp; cases hp
        · intro p hp
          obtain ⟨d, hd, hpd⟩ := h5 p hp
          exact hpd
      obtain ⟨k1, k2⟩ := tr_of (s := false) h4 hall
      refine ⟨A, c, Tr.of l, by rw [Tr.of_list]; exact h1, by rw [Tr.of_list]; exact h2, h3, k1, k2, ?_⟩
      rw [Tr.of_list]
      rcases h5 with h5 | ⟨es, sp, e1, e2, _⟩
      · exact .inl h5
      · exact .inr ⟨es, sp, e1, e2⟩
set_option maxRecDepth 100000 in
theorem open_metric {H : Type} {enc : TypeId × Value → H} {r : Reach} {b0 : Nat} {W : World} {v : Value} {d : DataW H} {p : List MemPlace} (hv : Value.okWide Try.prog W r b0 31 v) (h : DataW.Trod enc Try.prog W 0 (fun _ => true) true 31 v d p) :
    ∃ m : Nd, v = m.magg ∧ m.MAt W W.heap.size ∧ m.MOk := by
  obtain ⟨f0, f1, f2, f3, f4, f5, f6, f7, f8, f9, f10, f11, f12, hu, _⟩ := met_U
  obtain ⟨cs, rfl, hsz⟩ := okWide_struct hu hv
  obtain ⟨fuel, hf⟩ := h
  obtain ⟨m, e, hm⟩ := trod_metric (fun m _ v y h => (open_tr m).2 v y h) hf
  refine ⟨m, ?_, ⟨hm.hd, hm.at_⟩, ⟨hm.hok, hm.len, hm.ok⟩⟩
  obtain ⟨l⟩ := cs
  have e2 : l = m.mcells := by simpa [Value.cells] using e
  rw [e2]
  rfl
/-- a payload -/
structure Pl where
  time : Nat
  has : Bool
  seq : Nat
  uuid : ByteArray
  body : ByteArray
  adr : Option Addr
  cap : Nat
  mets : Tr
def Pl.agg (p : Pl) : Value := .agg #[.int .u64 p.time, .bool p.has, .int .u64 p.seq, .string p.uuid, .string p.body, .slice p.adr p.mets.list.length p.cap]
structure Pl.Ok (p : Pl) : Prop where
  time : p.time < 18446744073709551616
  seq : p.seq < 18446744073709551616
  cap : p.mets.list.length ≤ p.cap
  max : p.cap ≤ 9223372036854775807
  ok : p.mets.Ok true
/-- the payload's datum -/
def plIs {H : Type} (q : Pl) (d : DataW H) : Prop := ∃ a b c e f g, d = .agg [a, b, c, e, f, g] ∧ (q.mets.list = [] ∨ ∃ es sp, g = .slice es sp ∧ es.length = q.mets.list.length)
def Pl.At (p : Pl) (W : World) (B : Nat) : Prop := p.mets.At true W B p.adr
set_option maxRecDepth 100000 in
theorem pl_U : ∃ f0 f1 f2 f3 f4 f5, Try.prog.underlying 43 = some (.struct #[f0, f1, f2, f3, f4, f5]) ∧ (f0.type = 22 ∧ f1.type = 4 ∧ f2.type = 22 ∧ f3.type = 9 ∧ f4.type = 9 ∧ f5.type = 41) ∧
    (f0.offset = 0 ∧ f1.offset = 1 ∧ f2.offset = 2 ∧ f3.offset = 3 ∧ f4.offset = 4 ∧ f5.offset = 5) :=
  ⟨_, _, _, _, _, _, Try.underlying43, ⟨rfl, rfl, rfl, rfl, rfl, rfl⟩, ⟨rfl, rfl, rfl, rfl, rfl, rfl⟩⟩
set_option maxRecDepth 100000 in
theorem pl_C : Try.prog.cellsOf 43 = 6 := by kernel_rfl
set_option maxRecDepth 100000 in
theorem open_payload {H : Type} {enc : TypeId × Value → H} {r : Reach} {b0 : Nat} {W : World} {v : Value} {d : DataW H} {p : List MemPlace} (hv : Value.okWide Try.prog W r b0 43 v) (h : DataW.Trod enc Try.prog W 0 (fun _ => true) true 43 v d p) :
    ∃ q : Pl, v = q.agg ∧ q.At W W.heap.size ∧ q.Ok ∧ plIs q d := by
  obtain ⟨f0, f1, f2, f3, f4, f5, hu, ⟨t0, t1, t2, t3, t4, t5⟩, o0, o1, o2, o3, o4, o5⟩ := pl_U
  obtain ⟨cs, rfl, hsz⟩ := okWide_struct hu hv
  obtain ⟨fuel, hf0⟩ := h
  obtain ⟨xs, n', hn, hx, hl, hlen, hf⟩ := DataW.trod_struct hu hf0
  rw [pl_C] at hl
  obtain ⟨cs⟩ := cs
  obtain rfl := congrArg Prod.fst hx
  match xs, hlen with
  | [y0, y1, y2, y3, y4, y5], _ =>
    have r0 := hf 0 f0 rfl
    have r1 := hf 1 f1 rfl
    have r2 := hf 2 f2 rfl
    have r3 := hf 3 f3 rfl
    have r4 := hf 4 f4 rfl
    have r5 := hf 5 f5 rfl
    rw [t0, o0, u64_C] at r0
    rw [t1, o1, bool_C] at r1
    rw [t2, o2, u64_C] at r2
    rw [t3, o3, str_C] at r3
    rw [t4, o4, str_C] at r4
    rw [t5, o5, mets_C] at r5
    match cs, hl with
    | [v0, v1, v2, v3, v4, v5], _ =>
      have r0 : DataW.trod enc Try.prog W 0 (fun _ => true) true n' 22 [v0] = some y0 := r0
      have r1 : DataW.trod enc Try.prog W 0 (fun _ => true) true n' 4 [v1] = some y1 := r1
      have r2 : DataW.trod enc Try.prog W 0 (fun _ => true) true n' 22 [v2] = some y2 := r2
      have r3 : DataW.trod enc Try.prog W 0 (fun _ => true) true n' 9 [v3] = some y3 := r3
      have r4 : DataW.trod enc Try.prog W 0 (fun _ => true) true n' 9 [v4] = some y4 := r4
      have r5 : DataW.trod enc Try.prog W 0 (fun _ => true) true n' 41 [v5] = some y5 := r5
      obtain ⟨a0, e0, _, w0⟩ := DataW.trod_int Try.underlying22 r0
      obtain ⟨a1, e1, _⟩ := DataW.trod_bool Try.underlying4 r1
      obtain ⟨a2, e2, _, w2⟩ := DataW.trod_int Try.underlying22 r2
      obtain ⟨a3, e3, _⟩ := DataW.trod_string Try.underlying9 r3
      obtain ⟨a4, e4, _⟩ := DataW.trod_string Try.underlying9 r4
      obtain ⟨A, c, l, e5, m5, c5, at5, ok5, is5⟩ := (open_tr n').1 v5 y5 r5
      obtain rfl : v0 = _ := by simpa using e0
      obtain rfl : v1 = _ := by simpa using e1
      obtain rfl : v2 = _ := by simpa using e2
      obtain rfl : v3 = _ := by simpa using e3
      obtain rfl : v4 = _ := by simpa using e4
      subst e5
      obtain ⟨n0, rfl, b0⟩ := nat_of_u64 w0
      obtain ⟨n2, rfl, b2⟩ := nat_of_u64 w2
      rw [maxLen_eq] at c5
      exact ⟨⟨n0, a1, n2, a3, a4, A, c, l⟩, rfl, at5, ⟨b0, b2, m5, c5, ok5⟩, ⟨_, _, _, _, _, _, rfl, is5⟩⟩
set_option maxRecDepth 100000 in
theorem met_bytes : ∃ b, Try.prog.bytesOf 31 = b ∧ 100 ≤ b ∧ b ≤ 300 := ⟨_, rfl, by decide +kernel, by decide +kernel⟩
set_option maxRecDepth 100000 in
theorem reach_payload {H : Type} {ts : List TypeId} {ds : List (DataW H)} (h : (DataW.weightsEach Try.prog ts ds).all (· ≤ reachBytes) = true) {j : Nat} {d : DataW H} {q : Pl}
    (ht : ts[j]? = some 43) (hd : ds[j]? = some d) (hq : plIs q d) : q.mets.list.length * Try.prog.bytesOf 31 ≤ 140737488351232 := by
  obtain ⟨a, b, c, e, f, g, rfl, hq⟩ := hq
  obtain ⟨f0, f1, f2, f3, f4, f5, hu, ⟨t0, t1, t2, t3, t4, t5⟩, _⟩ := pl_U
  have hall : ∀ n, n ∈ g.weights Try.prog 41 → n ≤ 140737488351232 := fun n hn => by
    have hm : n ∈ (DataW.agg [a, b, c, e, f, g] : DataW H).weights Try.prog 43 := by
      simp only [DataW.weights, hu]
      simp only [List.map_cons, List.map_nil, t0, t1, t2, t3, t4, t5, DataW.weightsEach]
      simp [hn]
    have := List.all_eq_true.1 h _ (DataW.weights_mem_each ht hd n hm)
    simp only [decide_eq_true_eq] at this
    exact Nat.le_trans this (by decide)
  rcases hq with e2 | ⟨es, sp, rfl, e2⟩
  · rw [e2]; simp
  · have := hall ((es.length + sp.length) * Try.prog.bytesOf 31) (by simp [DataW.weights, Try.underlying41])
    rw [← e2]
    exact Nat.le_trans (Nat.mul_le_mul_right _ (Nat.le_add_right _ _)) this
end Go.Proofs.Ytaahhommfpohhaa
