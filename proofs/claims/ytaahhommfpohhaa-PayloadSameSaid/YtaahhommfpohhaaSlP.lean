/- PLAIN LAW: a tree of lists of properties. -/
import Derived.Test.YtaahhommfpohhaaSlS
namespace Go.Proofs.Ytaahhommfpohhaa
open Go.RowKit

/-- a list of properties, each with its own list -/
inductive Ps where
  | nil
  | cons (key : ByteArray) (type : Nat) (null : Bool) (v : VV) (adr : Option Addr) (cap : Nat) (sub rest : Ps)
structure Pn where
  key : ByteArray
  type : Nat
  null : Bool
  v : VV
  adr : Option Addr
  cap : Nat
  sub : Ps
def Ps.list : Ps → List Pn
  | .nil => []
  | .cons k t n v a c s r => ⟨k, t, n, v, a, c, s⟩ :: r.list
def Pn.cells (p : Pn) : List Value := [.string p.key, .int .u32 p.type, .bool p.null, .int .i64 p.v.k, .int .u64 p.v.n, .string p.v.s, .slice p.adr p.sub.list.length p.cap]
def Pn.agg (p : Pn) : Value := .agg #[.string p.key, .int .u32 p.type, .bool p.null, .int .i64 p.v.k, .int .u64 p.v.n, .string p.v.s, .slice p.adr p.sub.list.length p.cap]
def pcl (l : List Pn) : List Value := l.flatMap Pn.cells
theorem Ps.ind {M : Ps → Prop} (h : ∀ l : Ps, (∀ p ∈ l.list, M p.sub) → M l) : ∀ l, M l := by
  have : ∀ l : Ps, M l ∧ ∀ p ∈ l.list, M p.sub := by
    intro l
    induction l with
    | nil => exact ⟨h _ (by simp [Ps.list]), by simp [Ps.list]⟩
    | cons k t n v a c s r ih1 ih2 =>
      have hm : ∀ p ∈ (Ps.cons k t n v a c s r).list, M p.sub := by
        intro p hp
        rcases List.mem_cons.1 hp with rfl | hp
        · exact ih1.1
        · exact ih2.2 p hp
      exact ⟨h _ hm, hm⟩
  exact fun l => (this l).1
/-- each list below lies in memory -/
def Ps.Subs (W : World) (B : Nat) : Ps → Prop
  | .nil => True
  | .cons _ _ _ _ a _ s r => Rd W B a (pcl s.list) ∧ s.Subs W B ∧ r.Subs W B
def Ps.Ok : Ps → Prop
  | .nil => True
  | .cons _ t _ v _ _ s r => t < 4294967296 ∧ VVOk v ∧ s.list.length ≤ 9223372036854775807 ∧ s.Ok ∧ r.Ok
theorem Ps.subs_mem {W : World} {B : Nat} : ∀ {l : Ps}, l.Subs W B → ∀ p ∈ l.list, Rd W B p.adr (pcl p.sub.list) ∧ p.sub.Subs W B := by
  intro l
  induction l with
  | nil => intro _ p hp; cases hp
  | cons k t n v a c s r ih1 ih2 =>
    intro h p hp
    rcases List.mem_cons.1 hp with rfl | hp
    · exact ⟨h.1, h.2.1⟩
    · exact ih2 h.2.2 p hp
theorem Ps.ok_mem : ∀ {l : Ps}, l.Ok → ∀ p ∈ l.list, p.type < 4294967296 ∧ VVOk p.v ∧ p.sub.list.length ≤ 9223372036854775807 ∧ p.sub.Ok := by
  intro l
  induction l with
  | nil => intro _ p hp; cases hp
  | cons k t n v a c s r ih1 ih2 =>
    intro h p hp
    rcases List.mem_cons.1 hp with rfl | hp
    · exact ⟨h.1, h.2.1, h.2.2.1, h.2.2.2.1⟩
    · exact ih2 h.2.2.2.2 p hp
theorem Ps.Subs.keep {W W' : World} {B B' : Nat} (hk : ∀ A xs, Rd W B A xs → Rd W' B' A xs) : ∀ {l : Ps}, l.Subs W B → l.Subs W' B' := by
  intro l
  induction l with
  | nil => exact id
  | cons k t n v a c s r ih1 ih2 => exact fun h => ⟨hk _ _ h.1, ih1 h.2.1, ih2 h.2.2⟩
/-- a list of properties lies there -/
structure Ps.At (l : Ps) (W : World) (B : Nat) (A : Option Addr) : Prop where
  rd : Rd W B A (pcl l.list)
  subs : l.Subs W B
theorem Ps.At.below {l : Ps} {W W' : World} {B C : Nat} {A : Option Addr} (h : l.At W B A) (hb : Below C W W') (hC : B ≤ C) : l.At W' B A := ⟨h.rd.below hb hC, h.subs.keep fun _ _ r => r.below hb hC⟩
theorem Ps.At.more {l : Ps} {W : World} {B C : Nat} {A : Option Addr} (h : l.At W B A) (hC : B ≤ C) : l.At W C A := ⟨h.rd.more hC, h.subs.keep fun _ _ r => r.more hC⟩
theorem Ps.At.sub {l : Ps} {W : World} {B : Nat} {A : Option Addr} (h : l.At W B A) {p : Pn} (hp : p ∈ l.list) : p.sub.At W B p.adr := ⟨(Ps.subs_mem h.subs p hp).1, (Ps.subs_mem h.subs p hp).2⟩
theorem pcl_len (l : List Pn) : (pcl l).length = 7 * l.length := by
  induction l with
  | nil => rfl
  | cons f l ih => simp only [pcl, List.flatMap_cons, List.length_append, List.length_cons] at *; rw [ih]; simp [Pn.cells]; omega
theorem pcl_at : ∀ {l : List Pn} {i : Nat} {f : Pn}, l[i]? = some f → ∀ j, j < 7 → (pcl l)[7 * i + j]? = f.cells[j]? := by
  intro l
  induction l with
  | nil => intro i f h; simp at h
  | cons g l ih =>
    intro i f h j hj
    simp only [pcl, List.flatMap_cons]
    cases i with
    | zero =>
      obtain rfl : g = f := by simpa using h
      rw [List.getElem?_append_left (by simp [Pn.cells]; omega)]
      simp
    | succ i =>
      rw [List.getElem?_append_right (by simp [Pn.cells]; omega)]
      have := ih (by simpa using h) j hj
      rw [← this]
      congr 1
      simp [Pn.cells]; omega
/-- the cells of one property -/
structure PropAt (w : World) (b o : Nat) (p : Pn) : Prop where
  c0 : w.cell? ⟨b, o, none⟩ = some (.string p.key)
  c1 : w.cell? ⟨b, o + 1, none⟩ = some (.int .u32 p.type)
  c2 : w.cell? ⟨b, o + 2, none⟩ = some (.bool p.null)
  c3 : w.cell? ⟨b, o + 3, none⟩ = some (.int .i64 p.v.k)
  c4 : w.cell? ⟨b, o + 4, none⟩ = some (.int .u64 p.v.n)
  c5 : w.cell? ⟨b, o + 5, none⟩ = some (.string p.v.s)
  c6 : w.cell? ⟨b, o + 6, none⟩ = some (.slice p.adr p.sub.list.length p.cap)
theorem prop_at {w : World} {B : Nat} {A : Option Addr} {l : List Pn} {j : Nat} {p : Pn} (hr : Rd w B A (pcl l)) (hf : l[j]? = some p) :
    ∃ b o, A = some ⟨b, o, none⟩ ∧ b < B ∧ PropAt w b (o + j * 7) p := by
  have hlen := pcl_len l
  have hlt := (List.getElem?_eq_some_iff.1 hf).1
  obtain ⟨b, o, rfl, hb, hc⟩ := hr.some_ (by omega)
  have g : ∀ i, i < 7 → w.cell? ⟨b, o + j * 7 + i, none⟩ = p.cells[i]? := fun i hi => by
    rw [show o + j * 7 + i = o + (7 * j + i) by omega]; exact (hc _ (by omega)).trans (pcl_at hf i hi)
  exact ⟨b, o, rfl, hb, g 0 (by omega), g 1 (by omega), g 2 (by omega), g 3 (by omega), g 4 (by omega), g 5 (by omega), g 6 (by omega)⟩
/-- two lists are the same -/
def Ps.same : Ps → Ps → Bool
  | .nil, .nil => true
  | .cons k t n v _ _ s r, .cons k' t' n' v' _ _ s' r' => (((((seq k k' && neq t t') && (n == n')) && veq v v') && s.same s') && r.same r')
  | .nil, .cons .. => false
  | .cons .., .nil => false
def psame (p q : Pn) : Bool := ((((seq p.key q.key && neq p.type q.type) && (p.null == q.null)) && veq p.v q.v) && p.sub.same q.sub)
theorem Ps.same_list : ∀ (l m : Ps), l.same m = alleq psame l.list m.list := by
  intro l
  induction l with
  | nil => intro m; cases m <;> rfl
  | cons k t n v a c s r ih1 ih2 =>
    intro m
    cases m with
    | nil => rfl
    | cons k' t' n' v' a' c' s' r' => rw [Ps.same, ih2]; rfl
/-- how deep -/
def pone (v : VV) (n : Nat) : Nat := if v.k = 8 then 1 + max 1 n else 1
def Ps.depth : Ps → Nat
  | .nil => 0
  | .cons _ _ _ v _ _ s r => max (pone v s.depth) r.depth
def pdeep : List Pn → Nat
  | [] => 0
  | p :: l => max (pone p.v p.sub.depth) (pdeep l)
theorem Ps.depth_list : ∀ l : Ps, l.depth = pdeep l.list := by
  intro l
  induction l with
  | nil => rfl
  | cons k t n v a c s r ih1 ih2 => rw [Ps.depth, ih2]; rfl
theorem pdeep_mem : ∀ {l : List Pn}, ∀ p ∈ l, pone p.v p.sub.depth ≤ pdeep l := by
  intro l
  induction l with
  | nil => intro p hp; cases hp
  | cons q l ih =>
    intro p hp
    rw [pdeep]
    rcases List.mem_cons.1 hp with rfl | hp
    · omega
    · have := ih p hp; omega
end Go.Proofs.Ytaahhommfpohhaa
