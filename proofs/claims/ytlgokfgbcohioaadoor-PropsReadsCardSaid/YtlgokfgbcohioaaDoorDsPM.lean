/- PLAIN LAW: tables as bytes; how a table lies in memory. -/
import Derived.Test.YtlgokfgbcohioaaDoorK1
import Derived.Test.YtlgokfgbcohioaaDoorK2
namespace Go.Proofs.YtlgokfgbcohioaaDoor
open Go.RowKit Plain

/-- a row: where it lies, and its values -/
structure RowH where
  adr : Option Addr
  cap : Nat
  vals : List VV
/-- the bytes of a value -/
def dcell (v : VV) : List UInt8 × Int := if verr v.k v.n v.s.toList.isEmpty 1 false = 0 then wput (vfls v.k v.n v.s 1 false) else ([], verr v.k v.n v.s.toList.isEmpty 1 false)
def drerr : List VV → Int
  | [] => 0
  | v :: l => if (dcell v).2 = 0 then drerr l else (dcell v).2
def drfld (v : VV) : Fld := ⟨1, 2, 0, ⟨(dcell v).1.toArray⟩⟩
/-- the bytes of a row -/
def drow (r : List VV) : List UInt8 × Int := if drerr r = 0 then wput (r.map drfld) else ([], drerr r)
def dhead (cols : List ByteArray) (types : List Nat) : List Fld := (if cols.length = 0 then [] else [⟨1, 0, cols.length, ⟨#[]⟩⟩]) ++ cols.map (fun s => ⟨2, 2, 0, s⟩) ++ types.map (fun n => ⟨3, 0, n, ⟨#[]⟩⟩)
def derrs (n : Nat) : List (List VV) → Int
  | [] => 0
  | r :: l => if r.length = n then (if (drow r).2 = 0 then derrs n l else (drow r).2) else 4
def drfl (r : List VV) : Fld := ⟨4, 2, 0, ⟨(drow r).1.toArray⟩⟩
/-- what dataset.Put answers -/
def dput (cols : List ByteArray) (types : List Nat) (rows : List (List VV)) : List UInt8 × Int :=
  if 16 < cols.length ∨ 32 < rows.length then ([], 6) else if types.length = cols.length then (if derrs cols.length rows = 0 then wput (dhead cols types ++ rows.map drfl) else ([], derrs cols.length rows)) else ([], 4)

def scl (l : List ByteArray) : List Value := l.map .string
def ucl (l : List Nat) : List Value := l.map fun (n : Nat) => .int .u32 n
def vvl (l : List VV) : List Value := l.flatMap fun v => v.cells.toList
def rcl (l : List RowH) : List Value := l.map fun r => .slice r.adr r.vals.length r.cap
structure DS where
  A1 : Option Addr
  c1 : Nat
  cols : List ByteArray
  A2 : Option Addr
  c2 : Nat
  types : List Nat
  A3 : Option Addr
  c3 : Nat
  rows : List RowH
def DS.agg (d : DS) : Value := .agg #[.slice d.A1 d.cols.length d.c1, .slice d.A2 d.types.length d.c2, .slice d.A3 d.rows.length d.c3]
def DS.plain (d : DS) : List (List VV) := d.rows.map RowH.vals
structure DS.At (d : DS) (W : World) (B : Nat) : Prop where
  r1 : Rd W B d.A1 (scl d.cols)
  r2 : Rd W B d.A2 (ucl d.types)
  r3 : Rd W B d.A3 (rcl d.rows)
  rs : ∀ r ∈ d.rows, Rd W B r.adr (vvl r.vals)
theorem DS.At.below {d : DS} {W W' : World} {B C : Nat} (h : d.At W B) (hb : Below C W W') (hC : B ≤ C) : d.At W' B := ⟨h.r1.below hb hC, h.r2.below hb hC, h.r3.below hb hC, fun r hr => (h.rs r hr).below hb hC⟩
theorem DS.At.more {d : DS} {W : World} {B C : Nat} (h : d.At W B) (hC : B ≤ C) : d.At W C := ⟨h.r1.more hC, h.r2.more hC, h.r3.more hC, fun r hr => (h.rs r hr).more hC⟩
def VVOk (v : VV) : Prop := -9223372036854775808 ≤ v.k ∧ v.k ≤ 9223372036854775807 ∧ v.n < 18446744073709551616
structure DSOk (d : DS) : Prop where
  l1 : d.cols.length ≤ 9223372036854775807
  l2 : d.types.length ≤ 9223372036854775807
  l3 : d.rows.length ≤ 9223372036854775807
  ls : ∀ r ∈ d.rows, r.vals.length ≤ 9223372036854775807
  ty : ∀ n ∈ d.types, n < 4294967296
  vs : ∀ r ∈ d.rows, ∀ v ∈ r.vals, VVOk v
/-- bytes and an error, the bytes in a row of the call's own -/
def BPost (q : List UInt8 × Int) (w : World) (e : Ending) (w' : World) : Prop :=
  ∃ A c, e = .returned (.tuple #[.slice A q.1.length c, .int .i64 q.2]) ∧ w'.ownsRow w.heap.size 5 1 (.slice A q.1.length c) q.1.length (bcl q.1) ∧ Below w.heap.size w w'
theorem bpost_err {q : List UInt8 × Int} {w w' : World} {e : Int} (h : q = ([], e)) (hB : Below w.heap.size w w') : BPost q w (.returned (.tuple #[.slice none 0 0, .int .i64 e])) w' :=
  ⟨none, 0, by rw [h]; rfl, by rw [h]; exact World.ownsRow_nil w' _ _ _, hB⟩
theorem strB {w : World} {B : Nat} {A : Option Addr} {l : List UInt8} (hr : Rd w B A (bcl l)) {n : Nat} (hn : l.length = n) (c : Nat) :
    (convert 27 9 (.slice A n c)).run Tryd.prog w = .ok (.string ⟨l.toArray⟩) w :=
  hn ▸ run_str _ _ _ Tryd.underlying27 Tryd.underlying5 Tryd.underlying9 hr c

theorem vvl_len (l : List VV) : (vvl l).length = 3 * l.length := by
  induction l with
  | nil => rfl
  | cons f l ih => simp only [vvl, List.flatMap_cons, List.length_append, List.length_cons] at *; rw [ih]; simp [VV.cells]; omega
theorem vvl_at : ∀ {l : List VV} {i : Nat} {f : VV}, l[i]? = some f → ∀ j, j < 3 → (vvl l)[3 * i + j]? = f.cells[j]? := by
  intro l
  induction l with
  | nil => intro i f h; simp at h
  | cons g l ih =>
    intro i f h j hj
    simp only [vvl, List.flatMap_cons]
    cases i with
    | zero =>
      obtain rfl : g = f := by simpa using h
      rw [List.getElem?_append_left (by simp [VV.cells]; omega)]
      simp
    | succ i =>
      rw [List.getElem?_append_right (by simp [VV.cells]; omega)]
      have := ih (by simpa using h) j hj
      rw [← this]
      congr 1
      simp [VV.cells]; omega
theorem val_at {w : World} {B : Nat} {A : Option Addr} {l : List VV} {j : Nat} {f : VV} (hr : Rd w B A (vvl l)) (hf : l[j]? = some f) :
    ∃ b o, A = some ⟨b, o, none⟩ ∧ b < B ∧ w.cell? ⟨b, o + j * 3, none⟩ = some (.int .i64 f.k) ∧ w.cell? ⟨b, o + j * 3 + 1, none⟩ = some (.int .u64 f.n) ∧ w.cell? ⟨b, o + j * 3 + 2, none⟩ = some (.string f.s) := by
  have hlen := vvl_len l
  have hlt := (List.getElem?_eq_some_iff.1 hf).1
  obtain ⟨b, o, rfl, hb, hc⟩ := hr.some_ (by omega)
  have g : ∀ i, i < 3 → w.cell? ⟨b, o + j * 3 + i, none⟩ = f.cells[i]? := fun i hi => by
    rw [show o + j * 3 + i = o + (3 * j + i) by omega]; exact (hc _ (by omega)).trans (vvl_at hf i hi)
  exact ⟨b, o, rfl, hb, g 0 (by omega), g 1 (by omega), g 2 (by omega)⟩
/-- an element of a slice whose elements are one cell wide -/
theorem one_at {α : Type} {w : World} {B : Nat} {A : Option Addr} {l : List α} {f : α → Value} {j : Nat} {a : α} (hr : Rd w B A (l.map f)) (hf : l[j]? = some a) :
    ∃ b o, A = some ⟨b, o, none⟩ ∧ b < B ∧ w.cell? ⟨b, o + j, none⟩ = some (f a) := by
  have hlt := (List.getElem?_eq_some_iff.1 hf).1
  obtain ⟨b, o, rfl, hb, hc⟩ := hr.some_ (by simp; omega)
  exact ⟨b, o, rfl, hb, by rw [hc j (by simp; omega), List.getElem?_map, hf]; rfl⟩
theorem dput_flds {cols : List ByteArray} {types : List Nat} (h16 : cols.length ≤ 16) (hty : ∀ n ∈ types, n < 4294967296) (rows : List (List VV)) : ∀ f ∈ dhead cols types ++ rows.map drfl, FldOk f := by
  intro f hf
  unfold dhead at hf
  simp only [List.mem_append, List.mem_map] at hf
  rcases hf with ((hf | ⟨s, _, rfl⟩) | ⟨x, hx, rfl⟩) | ⟨x, _, rfl⟩
  · split at hf
    · cases hf
    · obtain rfl : f = _ := by simpa using hf
      refine ⟨by simp, by simp, ?_⟩
      simp only
      omega
  · exact ⟨by simp, by simp, by simp⟩
  · have := hty x hx
    refine ⟨by simp, by simp, ?_⟩
    simp only
    omega
  · exact ⟨by simp [drfl], by simp [drfl], by simp [drfl]⟩
theorem results_cell1 {fn : Func} {p : Tmp} {ty : TypeId} (h : fn.results = #[.cell p ty]) (tmps : Array Value) (P : Program) (w : World) :
    (results fn tmps).run P w = ((asAddr (tmps.getD p undef)).run P w).andThen fun a w₁ => (loadVar ty a).run P w₁ := by
  simp only [results, h]
  simp [Sem.run_bind]
end Go.Proofs.YtlgokfgbcohioaaDoor
