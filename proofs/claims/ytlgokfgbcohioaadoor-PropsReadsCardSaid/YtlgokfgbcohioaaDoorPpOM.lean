/- A slice of fields that a call makes whole and then fills from two places; regions walked over 'all but one block is kept'. -/
import Derived.Test.YtlgokfgbcohioaaDoorDsRM
import Derived.Test.YtlgokfgbcohioaaDoorK4
import Derived.Test.YtlgokfgbcohioaaDoorK3
import Derived.Laws.MakeOwn
namespace Go.Proofs.YtlgokfgbcohioaaDoor
open Go.RowKit Plain

def outl (n : Nat) (a b : List Fld) : List Fld := (a ++ List.replicate (n - a.length) zfld) ++ (b ++ List.replicate (n - b.length) zfld)
theorem outl_len {n : Nat} {a b : List Fld} (ha : a.length ≤ n) (hb : b.length ≤ n) : (outl n a b).length = n + n := by
  unfold outl; simp; omega
theorem outl_full {n : Nat} {a b : List Fld} (ha : a.length = n) (hb : b.length = n) : outl n a b = a ++ b := by
  unfold outl; rw [ha, hb]; simp
theorem outl_nil (n : Nat) : outl n [] [] = List.replicate (n + n) zfld := by
  unfold outl; simp [List.replicate_append_replicate]
theorem half_set {n : Nat} {a : List Fld} {f : Fld} (h : a.length < n) : (a ++ List.replicate (n - a.length) zfld).set a.length f = (a ++ [f]) ++ List.replicate (n - (a ++ [f]).length) zfld := by
  obtain ⟨m, hm⟩ : ∃ m, n - a.length = m + 1 := ⟨n - a.length - 1, by omega⟩
  rw [hm, show n - (a ++ [f]).length = m by simp; omega, List.replicate_succ, List.set_append_right _ _ (Nat.le_refl _), Nat.sub_self]
  simp
theorem outl_set1 {n : Nat} {a b : List Fld} {f : Fld} (h : a.length < n) : (outl n a b).set a.length f = outl n (a ++ [f]) b := by
  unfold outl
  rw [List.set_append_left _ _ (by simp; omega), half_set h]
theorem outl_set2 {n : Nat} {a b : List Fld} {f : Fld} (ha : a.length ≤ n) (h : b.length < n) : (outl n a b).set (n + b.length) f = outl n a (b ++ [f]) := by
  unfold outl
  have hl : (a ++ List.replicate (n - a.length) zfld).length = n := by simp; omega
  rw [List.set_append_right _ _ (by omega), hl, show n + b.length - n = b.length by omega, half_set h]
theorem flc_set : ∀ {L : List Fld} {i : Nat} {f : Fld}, i < L.length → ((((flc L).set (i * 4) (.int .i64 f.num)).set (i * 4 + 1) (.int .i64 f.kind)).set (i * 4 + 2) (.int .u64 f.val)).set (i * 4 + 3) (.string f.text) = flc (L.set i f) := by
  intro L
  induction L with
  | nil => intro i f h; simp at h
  | cons x L ih =>
    intro i f h
    cases i with
    | zero => rfl
    | succ i =>
      have h2 := ih (i := i) (f := f) (by simpa using h)
      rw [List.set_cons_succ]
      show ((((x.cells ++ flc L).set ((i + 1) * 4) _).set ((i + 1) * 4 + 1) _).set ((i + 1) * 4 + 2) _).set ((i + 1) * 4 + 3) _ = x.cells ++ flc (L.set i f)
      have hx : x.cells.length = 4 := rfl
      rw [List.set_append_right _ _ (by omega), List.set_append_right _ _ (by omega), List.set_append_right _ _ (by omega), List.set_append_right _ _ (by omega), ← h2, hx]
      rw [show (i + 1) * 4 - 4 = i * 4 by omega, show (i + 1) * 4 + 1 - 4 = i * 4 + 1 by omega, show (i + 1) * 4 + 2 - 4 = i * 4 + 2 by omega, show (i + 1) * 4 + 3 - 4 = i * 4 + 3 by omega]
/-- block B is the row of these fields -/
def OutAt (W : World) (B : Nat) (L : List Fld) : Prop := W.heap[B]? = some (.cells (flc L).toArray 73 (0, 0))
theorem OutAt.lt {W : World} {B : Nat} {L : List Fld} (h : OutAt W B L) : B < W.heap.size := (Array.getElem?_eq_some_iff.1 h).1
theorem OutAt.below {W W' : World} {B : Nat} {L : List Fld} (h : OutAt W B L) (hb : Below W.heap.size W W') : OutAt W' B L := (hb.block B h.lt).trans h
theorem OutAt.room {W : World} {B : Nat} {L : List Fld} {i : Nat} (h : OutAt W B L) (hi : i < L.length) : ∃ f : Fld,
    (W.cell? ⟨B, i * 4, none⟩ = some (.int .i64 f.num) ∧ W.cell? ⟨B, i * 4 + 1, none⟩ = some (.int .i64 f.kind) ∧ W.cell? ⟨B, i * 4 + 2, none⟩ = some (.int .u64 f.val) ∧ W.cell? ⟨B, i * 4 + 3, none⟩ = some (.string f.text)) ∧
    W.frozen? ⟨B, i * 4, none⟩ = false ∧ W.frozen? ⟨B, i * 4 + 1, none⟩ = false ∧ W.frozen? ⟨B, i * 4 + 2, none⟩ = false ∧ W.frozen? ⟨B, i * 4 + 3, none⟩ = false := by
  have hz : ∀ i, W.frozen? ⟨B, i, none⟩ = false := fun i => by simp [World.frozen?, show W.heap[B]? = _ from h]
  have hc : ∀ i, W.cell? ⟨B, i, none⟩ = (flc L)[i]? := fun i => by simp [World.cell?, show W.heap[B]? = _ from h]
  have hf : L[i]? = some L[i] := List.getElem?_eq_getElem hi
  have hw : ∀ j, j < 4 → W.cell? ⟨B, i * 4 + j, none⟩ = L[i].cells[j]? := fun j hj => by
    rw [hc, Nat.mul_comm]; exact flc_at hf j hj
  exact ⟨L[i], ⟨hw 0 (by omega), hw 1 (by omega), hw 2 (by omega), hw 3 (by omega)⟩, hz _, hz _, hz _, hz _⟩
theorem OutAt.set {W : World} {B : Nat} {L : List Fld} {i : Nat} (h : OutAt W B L) (hi : i < L.length) (f : Fld) :
    OutAt ((((W.setCell ⟨B, i * 4, none⟩ (.int .i64 f.num)).setCell ⟨B, i * 4 + 1, none⟩ (.int .i64 f.kind)).setCell ⟨B, i * 4 + 2, none⟩ (.int .u64 f.val)).setCell ⟨B, i * 4 + 3, none⟩ (.string f.text)) B (L.set i f) := by
  unfold OutAt
  rw [← flc_set hi, ← List.setIfInBounds_toArray, ← List.setIfInBounds_toArray, ← List.setIfInBounds_toArray, ← List.setIfInBounds_toArray]
  exact heap_setCell_same _ B _ _ _ _ (heap_setCell_same _ B _ _ _ _ (heap_setCell_same _ B _ _ _ _ (heap_setCell_same W B _ _ _ _ h)))
theorem OutAt.rd {W : World} {B : Nat} {L : List Fld} (h : OutAt W B L) : Rd W W.heap.size (some ⟨B, 0, none⟩) (flc L) := by
  refine .inr ⟨B, 0, rfl, h.lt, fun i _ => ?_⟩
  simp [World.cell?, show W.heap[B]? = _ from h]
theorem made_flds (k : Nat) : madeCells (Value.agg #[.int .i64 0, .int .i64 0, .int .u64 0, .string ⟨#[]⟩]).cells (k * 4) = (flc (List.replicate k zfld)).toArray := by
  have hl : (flc (List.replicate k zfld)).length = 4 * k := by rw [flc_len, List.length_replicate]
  apply Array.ext
  · rw [size_madeCells]; simp [hl]; omega
  · intro i h1 h2
    rw [size_madeCells] at h1
    have hq : i / 4 < k := by omega
    have := flc_at (l := List.replicate k zfld) (i := i / 4) (f := zfld) (by simp [hq]) (i % 4) (Nat.mod_lt _ (by omega))
    rw [Nat.div_add_mod] at this
    have e2 : (flc (List.replicate k zfld)).toArray[i] = (flc (List.replicate k zfld))[i]'(by simpa using h2) := by simp
    rw [e2]
    apply Option.some.inj
    rw [← List.getElem?_eq_getElem, this]
    simp only [madeCells, Value.cells, Array.getElem_map, Array.getElem_range]
    have hm : i % 4 = 0 ∨ i % 4 = 1 ∨ i % 4 = 2 ∨ i % 4 = 3 := by omega
    rcases hm with h | h | h | h <;> simp [h, zfld, Fld.cells]
theorem run_mkflds (W : World) (n : Nat) (hn : n ≤ 1000) : (Instr.makeSlice 51 (.int .i64 (2 * (n : Int))) (.int .i64 (2 * (n : Int)))).run Tryd.prog W = .ok (.slice (some ⟨W.heap.size, 0, none⟩) (n + n) (n + n)) (W.alloc (.cells (flc (outl n [] [])).toArray 73)) := by
  obtain ⟨i, hi, hz, hs, hb⟩ := elemF.info
  have h := run_make (P := Tryd.prog) W _ _ i _ elemF.ht hi hz .i64 .i64 (2 * (n : Int)) (2 * (n : Int)) (by omega) (Int.le_refl _) (by rw [hb]; omega) (by omega)
  rw [h, hs, outl_nil, show (2 * (n : Int)).toNat = n + n by omega, made_flds]

/-- every block but one is kept -/
def Ex (B : Nat) (w w' : World) : Prop := w.heap.size ≤ w'.heap.size ∧ ∀ k, k < w.heap.size → k ≠ B → w'.heap[k]? = w.heap[k]?
theorem Ex.refl (B : Nat) (w : World) : Ex B w w := ⟨Nat.le_refl _, fun _ _ _ => rfl⟩
theorem Ex.trans {B : Nat} {a b c : World} (h : Ex B a b) (k : Ex B b c) : Ex B a c := ⟨Nat.le_trans h.1 k.1, fun j hj hne => (k.2 j (Nat.lt_of_lt_of_le hj h.1) hne).trans (h.2 j hj hne)⟩
theorem Ex.below {B : Nat} {a b : World} (h : Below a.heap.size a b) : Ex B a b := ⟨h.size, fun j hj _ => h.block j hj⟩
theorem Ex.set4 {B x y z t : Nat} (W : World) (u v s r : Value) : Ex B W ((((W.setCell ⟨B, x, none⟩ u).setCell ⟨B, y, none⟩ v).setCell ⟨B, z, none⟩ s).setCell ⟨B, t, none⟩ r) :=
  ⟨by simp, fun j _ hne => by
    rw [heap_setCell_other _ ⟨B, t, none⟩ j _ (fun e => hne e), heap_setCell_other _ ⟨B, z, none⟩ j _ (fun e => hne e), heap_setCell_other _ ⟨B, y, none⟩ j _ (fun e => hne e), heap_setCell_other _ ⟨B, x, none⟩ j _ (fun e => hne e)]⟩
def exB (B : Nat) : Rel := ⟨Ex B, Ex.refl B, Ex.trans⟩
theorem Ex.cell {B : Nat} {a b : World} (h : Ex B a b) {k i : Nat} (hk : k < a.heap.size) (hne : k ≠ B) : b.cell? ⟨k, i, none⟩ = a.cell? ⟨k, i, none⟩ := by
  simp only [World.cell?, h.2 k hk hne]
theorem Ex.own {B base : Nat} {a b : World} {e : TypeId} {size n : Nat} {v : Value} {xs : List Value} (h : Ex B a b) (ho : a.ownsRow base e size v n xs) (hB : B < base) : b.ownsRow base e size v n xs := by
  refine ⟨ho.1, ?_⟩
  rcases ho.2 with h2 | ⟨g, cap, cur, hv, hg, hh, r⟩
  · exact .inl h2
  · exact .inr ⟨g, cap, cur, hv, hg, (h.2 g (Array.getElem?_eq_some_iff.1 hh).1 (by omega)).trans hh, r⟩
end Go.Proofs.YtlgokfgbcohioaaDoor
