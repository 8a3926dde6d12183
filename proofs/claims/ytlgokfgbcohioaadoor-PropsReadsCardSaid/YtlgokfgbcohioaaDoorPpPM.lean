/- PLAIN LAW: properties as bytes; how they lie in memory: a tree of lists. No program in sight but for types' numbers. -/
import Derived.Test.YtlgokfgbcohioaaDoorDsPM
import Derived.Test.YtlgokfgbcohioaaDoorDsSM
namespace Go.Proofs.YtlgokfgbcohioaaDoor
open Go.RowKit Plain

/-- a list of properties, each with its own list -/
inductive Ps where
  | nil
  | cons (key : ByteArray) (type : Nat) (null : Bool) (v : VV) (adr : Option Addr) (cap : Nat) (sub rest : Ps)
structure Pn where
  key : ByteArray
  type : Nat
  null : Bool
  v : VV
  adr : Option Addr
  cap : Nat
  sub : Ps
def Ps.list : Ps → List Pn
  | .nil => []
  | .cons k t n v a c s r => ⟨k, t, n, v, a, c, s⟩ :: r.list
def Pn.cells (p : Pn) : List Value := [.string p.key, .int .u32 p.type, .bool p.null, .int .i64 p.v.k, .int .u64 p.v.n, .string p.v.s, .slice p.adr p.sub.list.length p.cap]
def Pn.agg (p : Pn) : Value := .agg #[.string p.key, .int .u32 p.type, .bool p.null, .int .i64 p.v.k, .int .u64 p.v.n, .string p.v.s, .slice p.adr p.sub.list.length p.cap]
def pcl (l : List Pn) : List Value := l.flatMap Pn.cells
theorem Ps.ind {M : Ps → Prop} (h : ∀ l : Ps, (∀ p ∈ l.list, M p.sub) → M l) : ∀ l, M l := by
  have : ∀ l : Ps, M l ∧ ∀ p ∈ l.list, M p.sub := by
    intro l
    induction l with
    | nil => exact ⟨h _ (by simp [Ps.list]), by simp [Ps.list]⟩
    | cons k t n v a c s r ih1 ih2 =>
      have hm : ∀ p ∈ (Ps.cons k t n v a c s r).list, M p.sub := by
        intro p hp
        rcases List.mem_cons.1 hp with rfl | hp
        · exact ih1.1
        · exact ih2.2 p hp
      exact ⟨h _ hm, hm⟩
  exact fun l => (this l).1
/-- each list below lies in memory -/
def Ps.Subs (W : World) (B : Nat) : Ps → Prop
  | .nil => True
  | .cons _ _ _ _ a _ s r => Rd W B a (pcl s.list) ∧ s.Subs W B ∧ r.Subs W B
def Ps.Ok : Ps → Prop
  | .nil => True
  | .cons _ t _ v _ _ s r => t < 4294967296 ∧ VVOk v ∧ s.list.length ≤ 9223372036854775807 ∧ s.Ok ∧ r.Ok
theorem Ps.subs_mem {W : World} {B : Nat} : ∀ {l : Ps}, l.Subs W B → ∀ p ∈ l.list, Rd W B p.adr (pcl p.sub.list) ∧ p.sub.Subs W B := by
  intro l
  induction l with
  | nil => intro _ p hp; cases hp
  | cons k t n v a c s r ih1 ih2 =>
    intro h p hp
    rcases List.mem_cons.1 hp with rfl | hp
    · exact ⟨h.1, h.2.1⟩
    · exact ih2 h.2.2 p hp
theorem Ps.ok_mem : ∀ {l : Ps}, l.Ok → ∀ p ∈ l.list, p.type < 4294967296 ∧ VVOk p.v ∧ p.sub.list.length ≤ 9223372036854775807 ∧ p.sub.Ok := by
  intro l
  induction l with
  | nil => intro _ p hp; cases hp
  | cons k t n v a c s r ih1 ih2 =>
    intro h p hp
    rcases List.mem_cons.1 hp with rfl | hp
    · exact ⟨h.1, h.2.1, h.2.2.1, h.2.2.2.1⟩
    · exact ih2 h.2.2.2.2 p hp
theorem Ps.Subs.keep {W W' : World} {B B' : Nat} (hk : ∀ A xs, Rd W B A xs → Rd W' B' A xs) : ∀ {l : Ps}, l.Subs W B → l.Subs W' B' := by
  intro l
  induction l with
  | nil => exact id
  | cons k t n v a c s r ih1 ih2 => exact fun h => ⟨hk _ _ h.1, ih1 h.2.1, ih2 h.2.2⟩
/-- a list of properties lies there -/
structure Ps.At (l : Ps) (W : World) (B : Nat) (A : Option Addr) : Prop where
  rd : Rd W B A (pcl l.list)
  subs : l.Subs W B
theorem Ps.At.below {l : Ps} {W W' : World} {B C : Nat} {A : Option Addr} (h : l.At W B A) (hb : Below C W W') (hC : B ≤ C) : l.At W' B A := ⟨h.rd.below hb hC, h.subs.keep fun _ _ r => r.below hb hC⟩
theorem Ps.At.more {l : Ps} {W : World} {B C : Nat} {A : Option Addr} (h : l.At W B A) (hC : B ≤ C) : l.At W C A := ⟨h.rd.more hC, h.subs.keep fun _ _ r => r.more hC⟩
theorem Ps.At.sub {l : Ps} {W : World} {B : Nat} {A : Option Addr} (h : l.At W B A) {p : Pn} (hp : p ∈ l.list) : p.sub.At W B p.adr := ⟨(Ps.subs_mem h.subs p hp).1, (Ps.subs_mem h.subs p hp).2⟩
theorem pcl_len (l : List Pn) : (pcl l).length = 7 * l.length := by
  induction l with
  | nil => rfl
  | cons f l ih => simp only [pcl, List.flatMap_cons, List.length_append, List.length_cons] at *; rw [ih]; simp [Pn.cells]; omega
theorem pcl_at : ∀ {l : List Pn} {i : Nat} {f : Pn}, l[i]? = some f → ∀ j, j < 7 → (pcl l)[7 * i + j]? = f.cells[j]? := by
  intro l
  induction l with
  | nil => intro i f h; simp at h
  | cons g l ih =>
    intro i f h j hj
    simp only [pcl, List.flatMap_cons]
    cases i with
    | zero =>
      obtain rfl : g = f := by simpa using h
      rw [List.getElem?_append_left (by simp [Pn.cells]; omega)]
      simp
    | succ i =>
      rw [List.getElem?_append_right (by simp [Pn.cells]; omega)]
      have := ih (by simpa using h) j hj
      rw [← this]
      congr 1
      simp [Pn.cells]; omega
/-- the cells of one property -/
structure PropAt (w : World) (b o : Nat) (p : Pn) : Prop where
  c0 : w.cell? ⟨b, o, none⟩ = some (.string p.key)
  c1 : w.cell? ⟨b, o + 1, none⟩ = some (.int .u32 p.type)
  c2 : w.cell? ⟨b, o + 2, none⟩ = some (.bool p.null)
  c3 : w.cell? ⟨b, o + 3, none⟩ = some (.int .i64 p.v.k)
  c4 : w.cell? ⟨b, o + 4, none⟩ = some (.int .u64 p.v.n)
  c5 : w.cell? ⟨b, o + 5, none⟩ = some (.string p.v.s)
  c6 : w.cell? ⟨b, o + 6, none⟩ = some (.slice p.adr p.sub.list.length p.cap)
theorem prop_at {w : World} {B : Nat} {A : Option Addr} {l : List Pn} {j : Nat} {p : Pn} (hr : Rd w B A (pcl l)) (hf : l[j]? = some p) :
    ∃ b o, A = some ⟨b, o, none⟩ ∧ b < B ∧ PropAt w b (o + j * 7) p := by
  have hlen := pcl_len l
  have hlt := (List.getElem?_eq_some_iff.1 hf).1
  obtain ⟨b, o, rfl, hb, hc⟩ := hr.some_ (by omega)
  have g : ∀ i, i < 7 → w.cell? ⟨b, o + j * 7 + i, none⟩ = p.cells[i]? := fun i hi => by
    rw [show o + j * 7 + i = o + (7 * j + i) by omega]; exact (hc _ (by omega)).trans (pcl_at hf i hi)
  exact ⟨b, o, rfl, hb, g 0 (by omega), g 1 (by omega), g 2 (by omega), g 3 (by omega), g 4 (by omega), g 5 (by omega), g 6 (by omega)⟩

/-- two lists are the same -/
def Ps.same : Ps → Ps → Bool
  | .nil, .nil => true
  | .cons k t n v _ _ s r, .cons k' t' n' v' _ _ s' r' => (((((seq k k' && neq t t') && (n == n')) && veq v v') && s.same s') && r.same r')
  | .nil, .cons .. => false
  | .cons .., .nil => false
def psame (p q : Pn) : Bool := ((((seq p.key q.key && neq p.type q.type) && (p.null == q.null)) && veq p.v q.v) && p.sub.same q.sub)
theorem Ps.same_list : ∀ (l m : Ps), l.same m = alleq psame l.list m.list := by
  intro l
  induction l with
  | nil => intro m; cases m <;> rfl
  | cons k t n v a c s r ih1 ih2 =>
    intro m
    cases m with
    | nil => rfl
    | cons k' t' n' v' a' c' s' r' => rw [Ps.same, ih2]; rfl

/-- how deep -/
def pone (v : VV) (n : Nat) : Nat := if v.k = 8 then 1 + max 1 n else 1
def Ps.depth : Ps → Nat
  | .nil => 0
  | .cons _ _ _ v _ _ s r => max (pone v s.depth) r.depth
def pdeep : List Pn → Nat
  | [] => 0
  | p :: l => max (pone p.v p.sub.depth) (pdeep l)
theorem Ps.depth_list : ∀ l : Ps, l.depth = pdeep l.list := by
  intro l
  induction l with
  | nil => rfl
  | cons k t n v a c s r ih1 ih2 => rw [Ps.depth, ih2]; rfl
theorem pdeep_mem : ∀ {l : List Pn}, ∀ p ∈ l, pone p.v p.sub.depth ≤ pdeep l := by
  intro l
  induction l with
  | nil => intro p hp; cases hp
  | cons q l ih =>
    intro p hp
    rw [pdeep]
    rcases List.mem_cons.1 hp with rfl | hp
    · omega
    · have := ih p hp; omega

/-- the fields ahead of a value -/
def pahead (t : Nat) (n : Bool) : List Fld := (if t = 0 then [] else [⟨1, 0, t, ⟨#[]⟩⟩]) ++ (if n = true then [⟨2, 0, 1, ⟨#[]⟩⟩] else [])
def pbad (v : VV) (n : Nat) : Bool := if v.k = 8 then !(v.n == 0 && v.s.toList.isEmpty) else decide (0 < n)
/-- a property's value's bytes: 'sub' its own list's -/
def ptell (t : Nat) (n : Bool) (v : VV) (len : Nat) (sub : List UInt8 × Int) : List UInt8 × Int :=
  if pbad v len = true then ([], 4)
  else if v.k = 8 then (if sub.2 = 0 then wput (pahead t n ++ [⟨9, 2, 0, ⟨sub.1.toArray⟩⟩]) else ([], sub.2))
  else if verr v.k v.n v.s.toList.isEmpty 3 false = 0 then wput (pahead t n ++ vfls v.k v.n v.s 3 false) else ([], verr v.k v.n v.s.toList.isEmpty 3 false)
def perrs : List (List UInt8 × Int) → Int
  | [] => 0
  | x :: l => if x.2 = 0 then perrs l else x.2
def pkfl (s : ByteArray) : Fld := ⟨1, 2, 0, s⟩
def pvfl (x : List UInt8 × Int) : Fld := ⟨2, 2, 0, ⟨x.1.toArray⟩⟩
def putof (deep : Nat) (keys : List ByteArray) (vals : List (List UInt8 × Int)) : List UInt8 × Int :=
  if 8 < deep then ([], 12) else if 32 < keys.length then ([], 6) else if perrs vals = 0 then wput (keys.map pkfl ++ vals.map pvfl) else ([], perrs vals)
def Ps.vals : Ps → Nat → List (List UInt8 × Int)
  | .nil, _ => []
  | .cons _ t n v _ _ s r, d => ptell t n v s.list.length (putof (d + 1) (s.list.map Pn.key) (s.vals (d + 1))) :: r.vals d
/-- what props.put answers -/
def Ps.put (l : Ps) (deep : Nat) : List UInt8 × Int := putof deep (l.list.map Pn.key) (l.vals deep)
def Pn.tell (p : Pn) (d : Nat) : List UInt8 × Int := ptell p.type p.null p.v p.sub.list.length (p.sub.put (d + 1))
theorem Ps.vals_list : ∀ (l : Ps) (d : Nat), l.vals d = l.list.map fun p => p.tell d := by
  intro l
  induction l with
  | nil => intro d; rfl
  | cons k t n v a c s r ih1 ih2 => intro d; rw [Ps.vals, ih2]; rfl
theorem Ps.put_list (l : Ps) (d : Nat) : l.put d = if 8 < d then ([], 12) else if 32 < l.list.length then ([], 6) else if perrs (l.list.map fun p => p.tell d) = 0 then wput (l.list.map (fun p => pkfl p.key) ++ l.list.map (fun p => pvfl (p.tell d))) else ([], perrs (l.list.map fun p => p.tell d)) := by
  unfold Ps.put putof
  rw [Ps.vals_list]
  simp only [List.length_map, List.map_map]
  rfl
theorem pahead_ok {t : Nat} (ht : t < 4294967296) (n : Bool) : ∀ f ∈ pahead t n, FldOk f := by
  intro f hf
  unfold pahead at hf
  rcases List.mem_append.1 hf with hf | hf
  · split at hf
    · cases hf
    · obtain rfl : f = _ := by simpa using hf
      refine ⟨by simp, by simp, ?_⟩
      simp only
      omega
  · split at hf
    · obtain rfl : f = _ := by simpa using hf
      exact ⟨by simp, by simp, by simp⟩
    · cases hf
theorem pahead_len (t : Nat) (n : Bool) : (pahead t n).length ≤ 2 := by
  unfold pahead
  split <;> split <;> simp
end Go.Proofs.YtlgokfgbcohioaaDoor
