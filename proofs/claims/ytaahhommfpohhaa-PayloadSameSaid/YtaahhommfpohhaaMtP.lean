/- PLAIN LAW: metrics and templates: how they lie in memory (a tree of lists: metrics that have lists of templates that have lists of metrics); when two are the same; how deep. -/
import Derived.Test.YtaahhommfpohhaaSlE
import Derived.Test.YtaahhommfpohhaaSlT
import Derived.Test.YtaahhommfpohhaaSlM
namespace Go.Proofs.Ytaahhommfpohhaa
open Go.RowKit

/-- a template's parameter -/
structure Pm where
  name : ByteArray
  type : Nat
  v : VV
def Pm.cells (p : Pm) : List Value := [.string p.name, .int .u32 p.type, .int .i64 p.v.k, .int .u64 p.v.n, .string p.v.s]
def Pm.agg (p : Pm) : Value := .agg #[.string p.name, .int .u32 p.type, .int .i64 p.v.k, .int .u64 p.v.n, .string p.v.s]
def DS.cells (d : DS) : List Value := [.slice d.A1 d.cols.length d.c1, .slice d.A2 d.types.length d.c2, .slice d.A3 d.rows.length d.c3]
/-- a metric but for its templates -/
structure MH where
  name : ByteArray
  has : Bool
  al : Nat
  time : Nat
  type : Nat
  hist : Bool
  trans : Bool
  null : Bool
  ma : Option Addr
  mc : Nat
  metas : List MM
  pa : Option Addr
  pc : Nat
  props : Ps
  v : VV
  sa : Option Addr
  sc : Nat
  sets : List DS
/-- a template but for its metrics -/
structure TH where
  ver : ByteArray
  ref : ByteArray
  df : Bool
  qa : Option Addr
  qc : Nat
  params : List Pm
/-- a list of metrics (h counts, and what is below are templates), or of templates (t counts, and what is below are metrics) -/
inductive Tr where
  | nil
  | cons (h : MH) (t : TH) (adr : Option Addr) (cap : Nat) (sub rest : Tr)
structure Nd where
  h : MH
  t : TH
  adr : Option Addr
  cap : Nat
  sub : Tr
def Tr.list : Tr → List Nd
  | .nil => []
  | .cons h t a c s r => ⟨h, t, a, c, s⟩ :: r.list
def Nd.mcells (p : Nd) : List Value := [.string p.h.name, .bool p.h.has, .int .u64 p.h.al, .int .u64 p.h.time, .int .u32 p.h.type, .bool p.h.hist, .bool p.h.trans, .bool p.h.null, .slice p.h.ma p.h.metas.length p.h.mc, .slice p.h.pa p.h.props.list.length p.h.pc, .int .i64 p.h.v.k, .int .u64 p.h.v.n, .string p.h.v.s, .slice p.h.sa p.h.sets.length p.h.sc, .slice p.adr p.sub.list.length p.cap]
def Nd.tcells (p : Nd) : List Value := [.string p.t.ver, .string p.t.ref, .bool p.t.df, .slice p.t.qa p.t.params.length p.t.qc, .slice p.adr p.sub.list.length p.cap]
def Nd.magg (p : Nd) : Value := .agg #[.string p.h.name, .bool p.h.has, .int .u64 p.h.al, .int .u64 p.h.time, .int .u32 p.h.type, .bool p.h.hist, .bool p.h.trans, .bool p.h.null, .slice p.h.ma p.h.metas.length p.h.mc, .slice p.h.pa p.h.props.list.length p.h.pc, .int .i64 p.h.v.k, .int .u64 p.h.v.n, .string p.h.v.s, .slice p.h.sa p.h.sets.length p.h.sc, .slice p.adr p.sub.list.length p.cap]
def Nd.tagg (p : Nd) : Value := .agg #[.string p.t.ver, .string p.t.ref, .bool p.t.df, .slice p.t.qa p.t.params.length p.t.qc, .slice p.adr p.sub.list.length p.cap]
def Nd.cells (s : Bool) (p : Nd) : List Value := if s = true then p.mcells else p.tcells
def nsz (s : Bool) : Nat := if s = true then 15 else 5
theorem Nd.cells_len (s : Bool) (p : Nd) : (p.cells s).length = nsz s := by cases s <;> rfl
def ncl (s : Bool) (l : List Nd) : List Value := l.flatMap (Nd.cells s)
def mmcl (l : List MM) : List Value := l.flatMap fun m => m.cells.toList
def dscl (l : List DS) : List Value := l.flatMap DS.cells
def pmcl (l : List Pm) : List Value := l.flatMap Pm.cells
theorem Tr.ind {M : Tr → Prop} (h : ∀ l : Tr, (∀ p ∈ l.list, M p.sub) → M l) : ∀ l, M l := by
  have : ∀ l : Tr, M l ∧ ∀ p ∈ l.list, M p.sub := by
    intro l
    induction l with
    | nil => exact ⟨h _ (by simp [Tr.list]), by simp [Tr.list]⟩
    | cons hd t a c s r ih1 ih2 =>
      have hm : ∀ p ∈ (Tr.cons hd t a c s r).list, M p.sub := by
        intro p hp
        rcases List.mem_cons.1 hp with rfl | hp
        · exact ih1.1
        · exact ih2.2 p hp
      exact ⟨h _ hm, hm⟩
  exact fun l => (this l).1
structure MH.At (h : MH) (W : World) (B : Nat) : Prop where
  m : Rd W B h.ma (mmcl h.metas)
  p : h.props.At W B h.pa
  s : Rd W B h.sa (dscl h.sets)
  ds : ∀ d ∈ h.sets, d.At W B
structure TH.At (t : TH) (W : World) (B : Nat) : Prop where
  p : Rd W B t.qa (pmcl t.params)
theorem MH.At.below {h : MH} {W W' : World} {B C : Nat} (a : h.At W B) (hb : Below C W W') (hC : B ≤ C) : h.At W' B := ⟨a.m.below hb hC, a.p.below hb hC, a.s.below hb hC, fun d hd => (a.ds d hd).below hb hC⟩
theorem MH.At.more {h : MH} {W : World} {B C : Nat} (a : h.At W B) (hC : B ≤ C) : h.At W C := ⟨a.m.more hC, a.p.more hC, a.s.more hC, fun d hd => (a.ds d hd).more hC⟩
theorem TH.At.below {h : TH} {W W' : World} {B C : Nat} (a : h.At W B) (hb : Below C W W') (hC : B ≤ C) : h.At W' B := ⟨a.p.below hb hC⟩
theorem TH.At.more {h : TH} {W : World} {B C : Nat} (a : h.At W B) (hC : B ≤ C) : h.At W C := ⟨a.p.more hC⟩
def Hat (s : Bool) (h : MH) (t : TH) (W : World) (B : Nat) : Prop := if s = true then h.At W B else t.At W B
theorem Hat.below {s : Bool} {h : MH} {t : TH} {W W' : World} {B C : Nat} (a : Hat s h t W B) (hb : Below C W W') (hC : B ≤ C) : Hat s h t W' B := by
  cases s
  · exact TH.At.below (h := t) a hb hC
  · exact MH.At.below (h := h) a hb hC
theorem Hat.more {s : Bool} {h : MH} {t : TH} {W : World} {B C : Nat} (a : Hat s h t W B) (hC : B ≤ C) : Hat s h t W C := by
  cases s
  · exact TH.At.more (h := t) a hC
  · exact MH.At.more (h := h) a hC
/-- what is below lies in memory -/
def Tr.Subs (W : World) (B : Nat) : Bool → Tr → Prop
  | _, .nil => True
  | s, .cons h t a _ q r => Hat s h t W B ∧ Rd W B a (ncl (!s) q.list) ∧ q.Subs W B (!s) ∧ r.Subs W B s
structure MH.Ok (h : MH) : Prop where
  al : h.al < 18446744073709551616
  time : h.time < 18446744073709551616
  type : h.type < 4294967296
  ml : h.metas.length ≤ 9223372036854775807
  m : ∀ x ∈ h.metas, MOk x
  pl : h.props.list.length ≤ 9223372036854775807
  p : h.props.Ok
  v : VVOk h.v
  sl : h.sets.length ≤ 9223372036854775807
  s : ∀ d ∈ h.sets, DSOk d
def PmOk (p : Pm) : Prop := p.type < 4294967296 ∧ VVOk p.v
structure TH.Ok (t : TH) : Prop where
  pl : t.params.length ≤ 9223372036854775807
  p : ∀ x ∈ t.params, PmOk x
def Hok (s : Bool) (h : MH) (t : TH) : Prop := if s = true then h.Ok else t.Ok
def Tr.Ok : Bool → Tr → Prop
  | _, .nil => True
  | s, .cons h t _ _ q r => Hok s h t ∧ q.list.length ≤ 9223372036854775807 ∧ q.Ok (!s) ∧ r.Ok s
theorem Tr.subs_mem {W : World} {B : Nat} {s : Bool} : ∀ {l : Tr}, l.Subs W B s → ∀ p ∈ l.list, Hat s p.h p.t W B ∧ Rd W B p.adr (ncl (!s) p.sub.list) ∧ p.sub.Subs W B (!s) := by
  intro l
  induction l generalizing s with
  | nil => intro _ p hp; cases hp
  | cons h t a c q r ih1 ih2 =>
    intro hs p hp
    rcases List.mem_cons.1 hp with rfl | hp
    · exact ⟨hs.1, hs.2.1, hs.2.2.1⟩
    · exact ih2 hs.2.2.2 p hp
theorem Tr.ok_mem {s : Bool} : ∀ {l : Tr}, l.Ok s → ∀ p ∈ l.list, Hok s p.h p.t ∧ p.sub.list.length ≤ 9223372036854775807 ∧ p.sub.Ok (!s) := by
  intro l
  induction l generalizing s with
  | nil => intro _ p hp; cases hp
  | cons h t a c q r ih1 ih2 =>
    intro hs p hp
    rcases List.mem_cons.1 hp with rfl | hp
    · exact ⟨hs.1, hs.2.1, hs.2.2.1⟩
    · exact ih2 hs.2.2.2 p hp
theorem Tr.Subs.keep {W W' : World} {B B' : Nat} (hk : ∀ A xs, Rd W B A xs → Rd W' B' A xs) (hh : ∀ s h t, Hat s h t W B → Hat s h t W' B') : ∀ {l : Tr} {s : Bool}, l.Subs W B s → l.Subs W' B' s := by
  intro l
  induction l with
  | nil => exact id
  | cons h t a c q r ih1 ih2 => exact fun x => ⟨hh _ _ _ x.1, hk _ _ x.2.1, ih1 x.2.2.1, ih2 x.2.2.2⟩
/-- a list of metrics, or of templates, lies there -/
structure Tr.At (l : Tr) (s : Bool) (W : World) (B : Nat) (A : Option Addr) : Prop where
  rd : Rd W B A (ncl s l.list)
  subs : l.Subs W B s
theorem Tr.At.below {l : Tr} {s : Bool} {W W' : World} {B C : Nat} {A : Option Addr} (h : l.At s W B A) (hb : Below C W W') (hC : B ≤ C) : l.At s W' B A := ⟨h.rd.below hb hC, h.subs.keep (fun _ _ r => r.below hb hC) fun _ _ _ r => r.below hb hC⟩
theorem Tr.At.more {l : Tr} {s : Bool} {W : World} {B C : Nat} {A : Option Addr} (h : l.At s W B A) (hC : B ≤ C) : l.At s W C A := ⟨h.rd.more hC, h.subs.keep (fun _ _ r => r.more hC) fun _ _ _ r => r.more hC⟩
theorem Tr.At.sub {l : Tr} {s : Bool} {W : World} {B : Nat} {A : Option Addr} (h : l.At s W B A) {p : Nd} (hp : p ∈ l.list) : p.sub.At (!s) W B p.adr := ⟨(Tr.subs_mem h.subs p hp).2.1, (Tr.subs_mem h.subs p hp).2.2⟩
theorem Tr.At.hd {l : Tr} {s : Bool} {W : World} {B : Nat} {A : Option Addr} (h : l.At s W B A) {p : Nd} (hp : p ∈ l.list) : Hat s p.h p.t W B := (Tr.subs_mem h.subs p hp).1
/-- one metric lies there -/
structure Nd.MAt (p : Nd) (W : World) (B : Nat) : Prop where
  h : p.h.At W B
  sub : p.sub.At false W B p.adr
structure Nd.TAt (p : Nd) (W : World) (B : Nat) : Prop where
  t : p.t.At W B
  sub : p.sub.At true W B p.adr
structure Nd.MOk (p : Nd) : Prop where
  h : p.h.Ok
  len : p.sub.list.length ≤ 9223372036854775807
  sub : p.sub.Ok false
structure Nd.TOk (p : Nd) : Prop where
  t : p.t.Ok
  len : p.sub.list.length ≤ 9223372036854775807
  sub : p.sub.Ok true
theorem Nd.MAt.below {p : Nd} {W W' : World} {B C : Nat} (h : p.MAt W B) (hb : Below C W W') (hC : B ≤ C) : p.MAt W' B := ⟨h.h.below hb hC, h.sub.below hb hC⟩
theorem Nd.MAt.more {p : Nd} {W : World} {B C : Nat} (h : p.MAt W B) (hC : B ≤ C) : p.MAt W C := ⟨h.h.more hC, h.sub.more hC⟩
theorem Nd.TAt.below {p : Nd} {W W' : World} {B C : Nat} (h : p.TAt W B) (hb : Below C W W') (hC : B ≤ C) : p.TAt W' B := ⟨h.t.below hb hC, h.sub.below hb hC⟩
theorem Nd.TAt.more {p : Nd} {W : World} {B C : Nat} (h : p.TAt W B) (hC : B ≤ C) : p.TAt W C := ⟨h.t.more hC, h.sub.more hC⟩
theorem Tr.At.mat {l : Tr} {W : World} {B : Nat} {A : Option Addr} (h : l.At true W B A) {p : Nd} (hp : p ∈ l.list) : p.MAt W B := ⟨h.hd hp, h.sub hp⟩
theorem Tr.At.tat {l : Tr} {W : World} {B : Nat} {A : Option Addr} (h : l.At false W B A) {p : Nd} (hp : p ∈ l.list) : p.TAt W B := ⟨h.hd hp, h.sub hp⟩
theorem Tr.ok_mok {l : Tr} (h : l.Ok true) {p : Nd} (hp : p ∈ l.list) : p.MOk := ⟨(Tr.ok_mem h p hp).1, (Tr.ok_mem h p hp).2.1, (Tr.ok_mem h p hp).2.2⟩
theorem Tr.ok_tok {l : Tr} (h : l.Ok false) {p : Nd} (hp : p ∈ l.list) : p.TOk := ⟨(Tr.ok_mem h p hp).1, (Tr.ok_mem h p hp).2.1, (Tr.ok_mem h p hp).2.2⟩
/-- lists of a fixed number of cells -/
theorem fcl_len {α : Type} {f : α → List Value} {n : Nat} (hf : ∀ a, (f a).length = n) (l : List α) : (l.flatMap f).length = n * l.length := by
  induction l with
  | nil => rfl
  | cons a l ih => rw [List.flatMap_cons, List.length_append, ih, hf, List.length_cons, Nat.mul_add]; omega
theorem fcl_at {α : Type} {f : α → List Value} {n : Nat} (hf : ∀ a, (f a).length = n) : ∀ {l : List α} {i : Nat} {a : α}, l[i]? = some a → ∀ j, j < n → (l.flatMap f)[n * i + j]? = (f a)[j]? := by
  intro l
  induction l with
  | nil => intro i a h; simp at h
  | cons g l ih =>
    intro i a h j hj
    rw [List.flatMap_cons]
    cases i with
    | zero =>
      obtain rfl : g = a := by simpa using h
      rw [Nat.mul_zero, Nat.zero_add, List.getElem?_append_left (by rw [hf]; exact hj)]
    | succ i =>
      rw [List.getElem?_append_right (by rw [hf, Nat.mul_succ]; omega), hf, ← ih (by simpa using h) j hj]
      congr 1
      rw [Nat.mul_succ]; omega
/-- the element of a list in memory -/
theorem rd_elem {α : Type} {f : α → List Value} {n : Nat} (hf : ∀ a, (f a).length = n) (hn : 0 < n) {w : World} {B : Nat} {A : Option Addr} {l : List α} {j : Nat} {a : α} (hr : Rd w B A (l.flatMap f)) (ha : l[j]? = some a) :
    ∃ b o, A = some ⟨b, o, none⟩ ∧ b < B ∧ ∀ i, i < n → w.cell? ⟨b, o + j * n + i, none⟩ = (f a)[i]? := by
  have hlen := fcl_len hf l
  have hlt := (List.getElem?_eq_some_iff.1 ha).1
  have hle : n * (j + 1) ≤ n * l.length := Nat.mul_le_mul_left n (by omega)
  rw [Nat.mul_succ] at hle
  obtain ⟨b, o, rfl, hb, hc⟩ := hr.some_ (by omega)
  refine ⟨b, o, rfl, hb, fun i hi => ?_⟩
  rw [Nat.mul_comm j n, Nat.add_assoc, hc _ (by omega)]
  exact fcl_at hf ha i hi
/-- the cells of one metric -/
structure MetAt (w : World) (b o : Nat) (p : Nd) : Prop where
  c0 : w.cell? ⟨b, o, none⟩ = some (.string p.h.name)
  c1 : w.cell? ⟨b, o + 1, none⟩ = some (.bool p.h.has)
  c2 : w.cell? ⟨b, o + 2, none⟩ = some (.int .u64 p.h.al)
  c3 : w.cell? ⟨b, o + 3, none⟩ = some (.int .u64 p.h.time)
  c4 : w.cell? ⟨b, o + 4, none⟩ = some (.int .u32 p.h.type)
  c5 : w.cell? ⟨b, o + 5, none⟩ = some (.bool p.h.hist)
  c6 : w.cell? ⟨b, o + 6, none⟩ = some (.bool p.h.trans)
  c7 : w.cell? ⟨b, o + 7, none⟩ = some (.bool p.h.null)
  c8 : w.cell? ⟨b, o + 8, none⟩ = some (.slice p.h.ma p.h.metas.length p.h.mc)
  c9 : w.cell? ⟨b, o + 9, none⟩ = some (.slice p.h.pa p.h.props.list.length p.h.pc)
  c10 : w.cell? ⟨b, o + 10, none⟩ = some (.int .i64 p.h.v.k)
  c11 : w.cell? ⟨b, o + 11, none⟩ = some (.int .u64 p.h.v.n)
  c12 : w.cell? ⟨b, o + 12, none⟩ = some (.string p.h.v.s)
  c13 : w.cell? ⟨b, o + 13, none⟩ = some (.slice p.h.sa p.h.sets.length p.h.sc)
  c14 : w.cell? ⟨b, o + 14, none⟩ = some (.slice p.adr p.sub.list.length p.cap)
structure TemAt (w : World) (b o : Nat) (p : Nd) : Prop where
  c0 : w.cell? ⟨b, o, none⟩ = some (.string p.t.ver)
  c1 : w.cell? ⟨b, o + 1, none⟩ = some (.string p.t.ref)
  c2 : w.cell? ⟨b, o + 2, none⟩ = some (.bool p.t.df)
  c3 : w.cell? ⟨b, o + 3, none⟩ = some (.slice p.t.qa p.t.params.length p.t.qc)
  c4 : w.cell? ⟨b, o + 4, none⟩ = some (.slice p.adr p.sub.list.length p.cap)
theorem met_at {w : World} {B : Nat} {A : Option Addr} {l : List Nd} {j : Nat} {p : Nd} (hr : Rd w B A (ncl true l)) (hf : l[j]? = some p) :
    ∃ b o, A = some ⟨b, o, none⟩ ∧ b < B ∧ MetAt w b (o + j * 15) p := by
  obtain ⟨b, o, e, hb, g⟩ := rd_elem (f := Nd.cells true) (n := 15) (fun p => Nd.cells_len true p) (by omega) hr hf
  exact ⟨b, o, e, hb, g 0 (by omega), g 1 (by omega), g 2 (by omega), g 3 (by omega), g 4 (by omega), g 5 (by omega), g 6 (by omega), g 7 (by omega), g 8 (by omega), g 9 (by omega), g 10 (by omega), g 11 (by omega), g 12 (by omega), g 13 (by omega), g 14 (by omega)⟩
theorem tem_at {w : World} {B : Nat} {A : Option Addr} {l : List Nd} {j : Nat} {p : Nd} (hr : Rd w B A (ncl false l)) (hf : l[j]? = some p) :
    ∃ b o, A = some ⟨b, o, none⟩ ∧ b < B ∧ TemAt w b (o + j * 5) p := by
  obtain ⟨b, o, e, hb, g⟩ := rd_elem (f := Nd.cells false) (n := 5) (fun p => Nd.cells_len false p) (by omega) hr hf
  exact ⟨b, o, e, hb, g 0 (by omega), g 1 (by omega), g 2 (by omega), g 3 (by omega), g 4 (by omega)⟩
theorem met_new (W : World) (p : Nd) : MetAt (W.alloc (.cells p.mcells.toArray 31)) W.heap.size 0 p := by
  have g : ∀ i, i < 15 → (W.alloc (.cells p.mcells.toArray 31)).cell? ⟨W.heap.size, 0 + i, none⟩ = p.mcells[i]? := fun i hi => by
    simp only [World.cell?, World.alloc_heap_new]
    rw [Nat.zero_add]
    simp
  exact ⟨g 0 (by omega), g 1 (by omega), g 2 (by omega), g 3 (by omega), g 4 (by omega), g 5 (by omega), g 6 (by omega), g 7 (by omega), g 8 (by omega), g 9 (by omega), g 10 (by omega), g 11 (by omega), g 12 (by omega), g 13 (by omega), g 14 (by omega)⟩

/-- two are the same -/
def meq (a b : MM) : Bool := (a.multi == b.multi) && (seq a.type b.type && (neq a.size b.size && (neq a.seq b.seq && (seq a.file b.file && (seq a.kind b.kind && (seq a.md5 b.md5 && seq a.desc b.desc))))))
def qeq (a b : Pm) : Bool := seq a.name b.name && (neq a.type b.type && veq a.v b.v)
def mscal (a b : MH) : Bool := seq a.name b.name && ((a.has == b.has) && (neq a.al b.al && (neq a.time b.time && (neq a.type b.type && ((a.hist == b.hist) && ((a.trans == b.trans) && ((a.null == b.null) && veq a.v b.v)))))))
def mpart (a b : MH) : Bool := alleq meq a.metas b.metas && (a.props.same b.props && alleq dsame a.sets b.sets)
def tscal (a b : TH) : Bool := seq a.ver b.ver && (seq a.ref b.ref && (a.df == b.df))
def hsame (s : Bool) (h h' : MH) (t t' : TH) : Bool := if s = true then mscal h h' && mpart h h' else tscal t t' && alleq qeq t.params t'.params
def Tr.same : Bool → Tr → Tr → Bool
  | _, .nil, .nil => true
  | s, .cons h t _ _ q r, .cons h' t' _ _ q' r' => (hsame s h h' t t' && q.same (!s) q') && r.same s r'
  | _, .nil, .cons .. => false
  | _, .cons .., .nil => false
def nsame (s : Bool) (p q : Nd) : Bool := hsame s p.h q.h p.t q.t && p.sub.same (!s) q.sub
theorem Tr.same_list : ∀ (l : Tr) (s : Bool) (m : Tr), l.same s m = alleq (nsame s) l.list m.list := by
  intro l
  induction l with
  | nil => intro s m; cases m <;> rfl
  | cons h t a c q r ih1 ih2 =>
    intro s m
    cases m with
    | nil => rfl
    | cons h' t' a' c' q' r' => rw [Tr.same, ih2]; rfl
theorem meq_refl (a : MM) : meq a a = true := by simp [meq, seq_refl, neq_refl]
theorem qeq_refl (a : Pm) : qeq a a = true := by simp [qeq, seq_refl, neq_refl, veq_refl]
theorem meq_symm (a b : MM) : meq a b = meq b a := by
  unfold meq
  rw [BEq.comm (a := a.multi), seq_symm a.type, neq_symm a.size, neq_symm a.seq, seq_symm a.file, seq_symm a.kind, seq_symm a.md5, seq_symm a.desc]
theorem qeq_symm (a b : Pm) : qeq a b = qeq b a := by
  unfold qeq
  rw [seq_symm a.name, neq_symm a.type, veq_symm a.v]
theorem mscal_refl (a : MH) : mscal a a = true := by simp [mscal, seq_refl, neq_refl, veq_refl]
theorem mscal_symm (a b : MH) : mscal a b = mscal b a := by
  unfold mscal
  rw [seq_symm a.name, BEq.comm (a := a.has), neq_symm a.al, neq_symm a.time, neq_symm a.type, BEq.comm (a := a.hist), BEq.comm (a := a.trans), BEq.comm (a := a.null), veq_symm a.v]
/-- how deep: a list of metrics; a list of templates -/
def Tr.dep : Bool → Tr → Nat
  | _, .nil => 0
  | s, .cons _ _ _ _ q r => max (if s = true then max 1 (q.dep false) else (if q.list.length = 0 then 0 else 1 + q.dep true)) (r.dep s)
def Nd.dep (s : Bool) (p : Nd) : Nat := if s = true then max 1 (p.sub.dep false) else (if p.sub.list.length = 0 then 0 else 1 + p.sub.dep true)
def ndep (s : Bool) : List Nd → Nat
  | [] => 0
  | p :: l => max (p.dep s) (ndep s l)
theorem Tr.dep_list : ∀ (l : Tr) (s : Bool), l.dep s = ndep s l.list := by
  intro l
  induction l with
  | nil => intro s; rfl
  | cons h t a c q r ih1 ih2 => intro s; rw [Tr.dep, ih2]; rfl
theorem ndep_mem {s : Bool} : ∀ {l : List Nd}, ∀ p ∈ l, p.dep s ≤ ndep s l := by
  intro l
  induction l with
  | nil => intro p hp; cases hp
  | cons q l ih =>
    intro p hp
    rw [ndep]
    rcases List.mem_cons.1 hp with rfl | hp
    · omega
    · have := ih p hp; omega
end Go.Proofs.Ytaahhommfpohhaa
