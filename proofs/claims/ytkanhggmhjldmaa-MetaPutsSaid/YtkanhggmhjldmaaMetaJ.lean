/- WALK: meta.Put, meta.Joined -/
import Derived.Test.YtkanhggmhjldmaaMetaF
namespace Go.Proofs.Ytkanhggmhjldmaa
open Go.RowKit Plain

theorem rd_own {w : World} {base : Nat} {e : TypeId} {size n c : Nat} {A : Option Addr} {xs : List Value} (h : w.ownsRow base e size (.slice A n c) n xs) : Rd w w.heap.size A xs := Rd.of_own h
theorem mfields_len (m : MM) : (mfields m).length ≤ 8 := by unfold mfields; exact Nat.le_trans (List.length_filter_le _ _) (by simp [mall])
def MOk (m : MM) : Prop := m.size < 18446744073709551616 ∧ m.seq < 18446744073709551616
theorem mall_ok {m : MM} (h : MOk m) : ∀ f ∈ mall m, FldOk f := by
  intro f hf
  obtain ⟨h1, h2⟩ := h
  have hb : (if m.multi = true then 1 else 0 : Nat) < 18446744073709551616 := by split <;> omega
  simp only [mall, List.mem_cons, List.not_mem_nil, or_false] at hf
  rcases hf with rfl | rfl | rfl | rfl | rfl | rfl | rfl | rfl <;> refine ⟨by simp, by simp, ?_⟩ <;> simp <;> first | assumption | omega
theorem mfields_ok {m : MM} (h : MOk m) : ∀ f ∈ mfields m, FldOk f := fun f hf => mall_ok h f (List.mem_filter.1 hf).1

def MPost (m : MM) (w : World) (e : Ending) (w' : World) : Prop := PutsPost (mfields m) w e w'
theorem mput_any (m : MM) (hm : MOk m) (w : World) : Calls Try.prog 12 #[.agg m.cells] w (PutsPost (mfields m) w) := by
  have hlen := mfields_len m
  have hok := mfields_ok hm
  obtain ⟨m1, m2, m3, m4, m5, m6, m7, m8⟩ := m
  unfold MM.cells
  go_enter Try.func12, Try.ntmps12
  go_wp2_with fail
  refine (fields_any ⟨m1, m2, m3, m4, m5, m6, m7, m8⟩ _).mono ?_
  rintro e w1 ⟨A, c, rfl, hown, hB⟩
  go_wp2_with fail
  refine (puts_any _ A c (by omega) hok w1 (Rd.of_own hown)).mono ?_
  rintro e w2 ⟨A2, c2, rfl, ho2, hB2⟩
  go_wp2_with fail
  go_ret2
  have hB0 : Below w.heap.size w w1 := ((Below.refl _ w).alloc (Nat.le_refl _) _).trans (hB.mono (by simp))
  exact ⟨A2, c2, rfl, own_base ho2 hB0.size, bel_step hB0 hB2⟩
theorem takeT_any (B M i : Nat) (s : ByteArray) (f : Fld) (m : MM) (W : World) (hb : W.cell? ⟨B, 0, none⟩ = some (.pointer (some ⟨M, i, none⟩))) (hm : BoxM W M m) (hi : m.cells[i]? = some (.string s)) :
    Calls Try.prog 63 #[.agg (Fld.cells f).toArray, .pointer (some ⟨B, 0, none⟩)] W fun e w' => e = .returned (.int .i64 0) ∧ ∃ W1, Below W.heap.size W W1 ∧ w' = W1.setCell ⟨M, i, none⟩ (.string f.text) := by
  have hc := (hm.cell i).trans hi
  have hz : W.frozen? ⟨M, i, none⟩ = false := by simp [World.frozen?, show W.heap[M]? = _ from hm]
  obtain ⟨fn, fk, fv, ft⟩ := f
  have hlb := World.block_lt_of_cell? W _ hb
  have hB := (Below.refl W.heap.size W).alloc (Nat.le_refl _) (Obj.cells #[.int .i64 fn, .int .i64 fk, .int .u64 fv, .string ft] 49)
  have hb1 := (hB.cell hlb).trans hb
  have hc1 := (hB.cell hm.lt).trans hc
  have hz1 : (W.alloc (Obj.cells #[.int .i64 fn, .int .i64 fk, .int .u64 fv, .string ft] 49)).frozen? ⟨M, i, none⟩ = false := by simp [World.frozen?, show (W.alloc (Obj.cells #[.int .i64 fn, .int .i64 fk, .int .u64 fv, .string ft] 49)).heap[M]? = _ from (hB.block M hm.lt).trans hm]
  have hF := BoxF.new W fn fk fv ft
  obtain ⟨d0, d1, d2, d3⟩ := hF.cells
  unfold Fld.cells
  go_enter Try.func63, Try.ntmps63
  go_wp2_with fail
  go_ret
  exact ⟨rfl, _, hB, rfl⟩
theorem takeN_any (B M i : Nat) (n : Int) (f : Fld) (m : MM) (W : World) (hb : W.cell? ⟨B, 0, none⟩ = some (.pointer (some ⟨M, i, none⟩))) (hm : BoxM W M m) (hi : m.cells[i]? = some (.int .u64 n)) :
    Calls Try.prog 65 #[.agg (Fld.cells f).toArray, .pointer (some ⟨B, 0, none⟩)] W fun e w' => e = .returned (.int .i64 0) ∧ ∃ W1, Below W.heap.size W W1 ∧ w' = W1.setCell ⟨M, i, none⟩ (.int .u64 f.val) := by
  have hc := (hm.cell i).trans hi
  have hz : W.frozen? ⟨M, i, none⟩ = false := by simp [World.frozen?, show W.heap[M]? = _ from hm]
  obtain ⟨fn, fk, fv, ft⟩ := f
  have hlb := World.block_lt_of_cell? W _ hb
  have hB := (Below.refl W.heap.size W).alloc (Nat.le_refl _) (Obj.cells #[.int .i64 fn, .int .i64 fk, .int .u64 fv, .string ft] 49)
  have hb1 := (hB.cell hlb).trans hb
  have hc1 := (hB.cell hm.lt).trans hc
  have hz1 : (W.alloc (Obj.cells #[.int .i64 fn, .int .i64 fk, .int .u64 fv, .string ft] 49)).frozen? ⟨M, i, none⟩ = false := by simp [World.frozen?, show (W.alloc (Obj.cells #[.int .i64 fn, .int .i64 fk, .int .u64 fv, .string ft] 49)).heap[M]? = _ from (hB.block M hm.lt).trans hm]
  have hF := BoxF.new W fn fk fv ft
  obtain ⟨d0, d1, d2, d3⟩ := hF.cells
  unfold Fld.cells
  go_enter Try.func65, Try.ntmps65
  go_wp2_with fail
  go_ret
  exact ⟨rfl, _, hB, rfl⟩
theorem takeF_any (B M i : Nat) (b : Bool) (f : Fld) (m : MM) (W : World) (hb : W.cell? ⟨B, 0, none⟩ = some (.pointer (some ⟨M, i, none⟩))) (hm : BoxM W M m) (hi : m.cells[i]? = some (.bool b)) (hv : f.val = 1) :
    Calls Try.prog 61 #[.agg (Fld.cells f).toArray, .pointer (some ⟨B, 0, none⟩)] W fun e w' => e = .returned (.int .i64 0) ∧ ∃ W1, Below W.heap.size W W1 ∧ w' = W1.setCell ⟨M, i, none⟩ (.bool true) := by
  have hc := (hm.cell i).trans hi
  have hz : W.frozen? ⟨M, i, none⟩ = false := by simp [World.frozen?, show W.heap[M]? = _ from hm]
  obtain ⟨fn, fk, fv, ft⟩ := f
  have hlb := World.block_lt_of_cell? W _ hb
  have hB := (Below.refl W.heap.size W).alloc (Nat.le_refl _) (Obj.cells #[.int .i64 fn, .int .i64 fk, .int .u64 fv, .string ft] 49)
  have hb1 := (hB.cell hlb).trans hb
  have hc1 := (hB.cell hm.lt).trans hc
  have hz1 : (W.alloc (Obj.cells #[.int .i64 fn, .int .i64 fk, .int .u64 fv, .string ft] 49)).frozen? ⟨M, i, none⟩ = false := by simp [World.frozen?, show (W.alloc (Obj.cells #[.int .i64 fn, .int .i64 fk, .int .u64 fv, .string ft] 49)).heap[M]? = _ from (hB.block M hm.lt).trans hm]
  have hF := BoxF.new W fn fk fv ft
  obtain ⟨d0, d1, d2, d3⟩ := hF.cells
  unfold Fld.cells
  have hv1 : decide ((1 : Int) < (fv : Int)) = false := by simp at hv; simp; omega
  have hv2 : ((fv : Int) == 1) = true := by simp at hv; simp; omega
  clear hv
  go_enter Try.func61, Try.ntmps61
  go_wp2_with fail
  go_ret
  exact ⟨rfl, _, hB, rfl⟩
def mset (m : MM) (f : Fld) : MM :=
  if f.num = 1 then { m with multi := true } else if f.num = 2 then { m with type := f.text } else if f.num = 3 then { m with size := f.val } else if f.num = 4 then { m with seq := f.val }
  else if f.num = 5 then { m with file := f.text } else if f.num = 6 then { m with kind := f.text } else if f.num = 7 then { m with md5 := f.text } else { m with desc := f.text }
theorem cf61 (args : Array Value) (W : World) : (callFunc 61 args).run Try.prog W = .ok (.enter 61 args) W := by go_simp
theorem cf63 (args : Array Value) (W : World) : (callFunc 63 args).run Try.prog W = .ok (.enter 63 args) W := by go_simp
theorem cf65 (args : Array Value) (W : World) : (callFunc 65 args).run Try.prog W = .ok (.enter 65 args) W := by go_simp
theorem take_post {m : MM} {W W1 : World} {M i : Nat} {v : Value} (h : BoxM W M m) (hB : Below W.heap.size W W1) (m2 : MM) (hm : m.cells.setIfInBounds i v = m2.cells) : BoxM (W1.setCell ⟨M, i, none⟩ v) M m2 ∧ W.grownBy (W1.setCell ⟨M, i, none⟩ v) (some M) := by
  have h1 : BoxM W1 M m := h.below hB h.lt
  refine ⟨?_, hB.os, hB.tape, hB.output, ?_, fun k hk hne => ?_⟩
  · have := heap_setCell_same W1 M i m.cells _ v h1
    rw [hm] at this
    exact this
  · simpa using hB.size
  · exact (heap_setCell_other W1 ⟨M, i, none⟩ k v (fun e => hne (by rw [e]))).trans (hB.block k hk)
/-- what a part takes -/
theorem takes_any (i : Nat) (hi : i < 8) (B : Nat) (f : Fld) (hf : f.num = i + 1) (h1 : i = 0 → f.val = 1) : ∃ p : Prt, (prts B)[i]? = some p ∧ p.box = B + 2 * i ∧ (∀ args W, (callFunc p.take args).run Try.prog W = .ok (.enter p.take args) W) ∧
    ∀ (M : Nat) (m : MM) (W : World), W.cell? ⟨p.box, 0, none⟩ = some (.pointer (some ⟨M, i, none⟩)) → BoxM W M m →
      Calls Try.prog p.take #[.agg (Fld.cells f).toArray, .pointer (some ⟨p.box, 0, none⟩)] W fun e w' => e = .returned (.int .i64 0) ∧ BoxM w' M (mset m f) ∧ W.grownBy w' (some M) := by
  have h8 : i = 0 ∨ i = 1 ∨ i = 2 ∨ i = 3 ∨ i = 4 ∨ i = 5 ∨ i = 6 ∨ i = 7 := by omega
  rcases h8 with rfl | rfl | rfl | rfl | rfl | rfl | rfl | rfl
  · refine ⟨_, rfl, rfl, cf61, fun M m W hb hm => (takeF_any _ M 0 m.multi f m W hb hm rfl (h1 rfl)).mono ?_⟩
    rintro e w' ⟨rfl, W1, hB, rfl⟩
    exact ⟨rfl, take_post hm hB _ (by unfold mset; simp [hf]; rfl)⟩
  · refine ⟨_, rfl, rfl, cf63, fun M m W hb hm => (takeT_any _ M 1 m.type f m W hb hm rfl).mono ?_⟩
    rintro e w' ⟨rfl, W1, hB, rfl⟩
    exact ⟨rfl, take_post hm hB _ (by unfold mset; simp [hf]; rfl)⟩
  · refine ⟨_, rfl, rfl, cf65, fun M m W hb hm => (takeN_any _ M 2 m.size f m W hb hm rfl).mono ?_⟩
    rintro e w' ⟨rfl, W1, hB, rfl⟩
    exact ⟨rfl, take_post hm hB _ (by unfold mset; simp [hf]; rfl)⟩
  · refine ⟨_, rfl, rfl, cf65, fun M m W hb hm => (takeN_any _ M 3 m.seq f m W hb hm rfl).mono ?_⟩
    rintro e w' ⟨rfl, W1, hB, rfl⟩
    exact ⟨rfl, take_post hm hB _ (by unfold mset; simp [hf]; rfl)⟩
  · refine ⟨_, rfl, rfl, cf63, fun M m W hb hm => (takeT_any _ M 4 m.file f m W hb hm rfl).mono ?_⟩
    rintro e w' ⟨rfl, W1, hB, rfl⟩
    exact ⟨rfl, take_post hm hB _ (by unfold mset; simp [hf]; rfl)⟩
  · refine ⟨_, rfl, rfl, cf63, fun M m W hb hm => (takeT_any _ M 5 m.kind f m W hb hm rfl).mono ?_⟩
    rintro e w' ⟨rfl, W1, hB, rfl⟩
    exact ⟨rfl, take_post hm hB _ (by unfold mset; simp [hf]; rfl)⟩
  · refine ⟨_, rfl, rfl, cf63, fun M m W hb hm => (takeT_any _ M 6 m.md5 f m W hb hm rfl).mono ?_⟩
    rintro e w' ⟨rfl, W1, hB, rfl⟩
    exact ⟨rfl, take_post hm hB _ (by unfold mset; simp [hf]; rfl)⟩
  · refine ⟨_, rfl, rfl, cf63, fun M m W hb hm => (takeT_any _ M 7 m.desc f m W hb hm rfl).mono ?_⟩
    rintro e w' ⟨rfl, W1, hB, rfl⟩
    exact ⟨rfl, take_post hm hB _ (by unfold mset; simp [hf]; rfl)⟩
theorem mall_num {m : MM} {f : Fld} (h : f ∈ mfields m) : ∃ i : Nat, i < 8 ∧ f.num = i + 1 ∧ (i = 0 → f.val = 1) := by
  obtain ⟨hf, hh⟩ := List.mem_filter.1 h
  simp only [mall, List.mem_cons, List.not_mem_nil, or_false] at hf
  rcases hf with rfl | rfl | rfl | rfl | rfl | rfl | rfl | rfl
  · refine ⟨0, by omega, rfl, fun _ => ?_⟩
    cases hm : m.multi
    · rw [hm] at hh; exact absurd hh (by decide +kernel)
    · rfl
  · exact ⟨1, by omega, rfl, by omega⟩
  · exact ⟨2, by omega, rfl, by omega⟩
  · exact ⟨3, by omega, rfl, by omega⟩
  · exact ⟨4, by omega, rfl, by omega⟩
  · exact ⟨5, by omega, rfl, by omega⟩
  · exact ⟨6, by omega, rfl, by omega⟩
  · exact ⟨7, by omega, rfl, by omega⟩
def mpick (a b : ByteArray) : ByteArray := if b.toList.isEmpty then a else b
def npick (a b : Nat) : Nat := if b = 0 then a else b
def mjoin (a b : MM) : MM := ⟨a.multi || b.multi, mpick a.type b.type, npick a.size b.size, npick a.seq b.seq, mpick a.file b.file, mpick a.kind b.kind, mpick a.md5 b.md5, mpick a.desc b.desc⟩
theorem mst1 (c : Bool) (kd : Int) (v : Nat) (t : ByteArray) (a1 : Bool) (a2 : ByteArray) (a3 : Nat) (a4 : Nat) (a5 : ByteArray) (a6 : ByteArray) (a7 : ByteArray) (a8 : ByteArray) : (if c = true then mset ⟨a1, a2, a3, a4, a5, a6, a7, a8⟩ ⟨1, kd, v, t⟩ else ⟨a1, a2, a3, a4, a5, a6, a7, a8⟩) = ⟨if c = true then true else a1, a2, a3, a4, a5, a6, a7, a8⟩ := by cases c <;> rfl
theorem mst2 (c : Bool) (kd : Int) (v : Nat) (t : ByteArray) (a1 : Bool) (a2 : ByteArray) (a3 : Nat) (a4 : Nat) (a5 : ByteArray) (a6 : ByteArray) (a7 : ByteArray) (a8 : ByteArray) : (if c = true then mset ⟨a1, a2, a3, a4, a5, a6, a7, a8⟩ ⟨2, kd, v, t⟩ else ⟨a1, a2, a3, a4, a5, a6, a7, a8⟩) = ⟨a1, if c = true then t else a2, a3, a4, a5, a6, a7, a8⟩ := by cases c <;> rfl
theorem mst3 (c : Bool) (kd : Int) (v : Nat) (t : ByteArray) (a1 : Bool) (a2 : ByteArray) (a3 : Nat) (a4 : Nat) (a5 : ByteArray) (a6 : ByteArray) (a7 : ByteArray) (a8 : ByteArray) : (if c = true then mset ⟨a1, a2, a3, a4, a5, a6, a7, a8⟩ ⟨3, kd, v, t⟩ else ⟨a1, a2, a3, a4, a5, a6, a7, a8⟩) = ⟨a1, a2, if c = true then v else a3, a4, a5, a6, a7, a8⟩ := by cases c <;> rfl
theorem mst4 (c : Bool) (kd : Int) (v : Nat) (t : ByteArray) (a1 : Bool) (a2 : ByteArray) (a3 : Nat) (a4 : Nat) (a5 : ByteArray) (a6 : ByteArray) (a7 : ByteArray) (a8 : ByteArray) : (if c = true then mset ⟨a1, a2, a3, a4, a5, a6, a7, a8⟩ ⟨4, kd, v, t⟩ else ⟨a1, a2, a3, a4, a5, a6, a7, a8⟩) = ⟨a1, a2, a3, if c = true then v else a4, a5, a6, a7, a8⟩ := by cases c <;> rfl
theorem mst5 (c : Bool) (kd : Int) (v : Nat) (t : ByteArray) (a1 : Bool) (a2 : ByteArray) (a3 : Nat) (a4 : Nat) (a5 : ByteArray) (a6 : ByteArray) (a7 : ByteArray) (a8 : ByteArray) : (if c = true then mset ⟨a1, a2, a3, a4, a5, a6, a7, a8⟩ ⟨5, kd, v, t⟩ else ⟨a1, a2, a3, a4, a5, a6, a7, a8⟩) = ⟨a1, a2, a3, a4, if c = true then t else a5, a6, a7, a8⟩ := by cases c <;> rfl
theorem mst6 (c : Bool) (kd : Int) (v : Nat) (t : ByteArray) (a1 : Bool) (a2 : ByteArray) (a3 : Nat) (a4 : Nat) (a5 : ByteArray) (a6 : ByteArray) (a7 : ByteArray) (a8 : ByteArray) : (if c = true then mset ⟨a1, a2, a3, a4, a5, a6, a7, a8⟩ ⟨6, kd, v, t⟩ else ⟨a1, a2, a3, a4, a5, a6, a7, a8⟩) = ⟨a1, a2, a3, a4, a5, if c = true then t else a6, a7, a8⟩ := by cases c <;> rfl
theorem mst7 (c : Bool) (kd : Int) (v : Nat) (t : ByteArray) (a1 : Bool) (a2 : ByteArray) (a3 : Nat) (a4 : Nat) (a5 : ByteArray) (a6 : ByteArray) (a7 : ByteArray) (a8 : ByteArray) : (if c = true then mset ⟨a1, a2, a3, a4, a5, a6, a7, a8⟩ ⟨7, kd, v, t⟩ else ⟨a1, a2, a3, a4, a5, a6, a7, a8⟩) = ⟨a1, a2, a3, a4, a5, a6, if c = true then t else a7, a8⟩ := by cases c <;> rfl
theorem mst8 (c : Bool) (kd : Int) (v : Nat) (t : ByteArray) (a1 : Bool) (a2 : ByteArray) (a3 : Nat) (a4 : Nat) (a5 : ByteArray) (a6 : ByteArray) (a7 : ByteArray) (a8 : ByteArray) : (if c = true then mset ⟨a1, a2, a3, a4, a5, a6, a7, a8⟩ ⟨8, kd, v, t⟩ else ⟨a1, a2, a3, a4, a5, a6, a7, a8⟩) = ⟨a1, a2, a3, a4, a5, a6, a7, if c = true then t else a8⟩ := by cases c <;> rfl
theorem mjoin_fold (a b : MM) : (mfields b).foldl mset a = mjoin a b := by
  obtain ⟨a1, a2, a3, a4, a5, a6, a7, a8⟩ := a
  obtain ⟨b1, b2, b3, b4, b5, b6, b7, b8⟩ := b
  unfold mfields
  rw [List.foldl_filter]
  have hT : ∀ (x : ByteArray) (n k : Int), fhas ⟨n, k, 0, x⟩ = !x.toList.isEmpty := by intro x n k; simp [fhas]
  have hN : ∀ (x : Nat) (n k : Int), fhas ⟨n, k, x, ⟨#[]⟩⟩ = !decide (x = 0) := by
    intro x n k
    have hE : (ByteArray.mk #[]).toList = [] := by decide +kernel
    by_cases hx : x = 0 <;> simp [fhas, hE, hx]
  simp only [mall, List.foldl_cons, List.foldl_nil, mst1, mst2, mst3, mst4, mst5, mst6, mst7, mst8, hT, hN, mjoin, mpick, npick]
  congr 1
  · cases b1 <;> simp
  · cases b2.toList.isEmpty <;> rfl
  · by_cases h : b3 = 0 <;> simp [h]
  · by_cases h : b4 = 0 <;> simp [h]
  · cases b5.toList.isEmpty <;> rfl
  · cases b6.toList.isEmpty <;> rfl
  · cases b7.toList.isEmpty <;> rfl
  · cases b8.toList.isEmpty <;> rfl
end Go.Proofs.Ytkanhggmhjldmaa
