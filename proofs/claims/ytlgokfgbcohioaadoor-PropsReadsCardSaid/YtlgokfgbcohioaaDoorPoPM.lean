/- PLAIN LAW: the properties of bytes; a tree that lies in blocks of a kind. -/
import Derived.Test.YtlgokfgbcohioaaDoorDsOM
import Derived.Test.YtlgokfgbcohioaaDoorPpPM
namespace Go.Proofs.YtlgokfgbcohioaaDoor
open Go.RowKit Plain

/-- a property on its way -/
structure PSt where
  type : Nat
  null : Bool
  v : VV
  set : ByteArray
def PSt.zero : PSt := ⟨0, false, VV.zero, ⟨#[]⟩⟩
def pnum (f : Fld) (most : Nat) : Int := if f.kind = 0 then (if most < f.val then 5 else 0) else 4
/-- one field -/
def ptake (f : Fld) (s : PSt) : PSt × Int :=
  if f.num = 1 then (⟨if pnum f 4294967295 = 0 then f.val else 0, s.null, s.v, s.set⟩, pnum f 4294967295)
  else if f.num = 2 then (⟨s.type, if pnum f 1 = 0 then f.val == 1 else false, s.v, s.set⟩, pnum f 1)
  else if f.num = 9 then (if f.kind = 2 then (⟨s.type, s.null, ⟨8, 0, ⟨#[]⟩⟩, f.text⟩, 0) else (s, 4))
  else if 3 ≤ f.num ∧ f.num ≤ 8 then (⟨s.type, s.null, (vof 3 false [f]).1, s.set⟩, (vof 3 false [f]).2)
  else (s, 0)
def ptakes : List Fld → PSt → PSt × Int
  | [], s => (s, 0)
  | f :: l, s => if (ptake f s).2 = 0 then ptakes l (ptake f s).1 else (PSt.zero, (ptake f s).2)
def Pn.zero : Pn := ⟨⟨#[]⟩, 0, false, VV.zero, none, 0, .nil⟩
/-- a property of its key and a value's bytes; 'rec': what the bytes of its own list tell -/
def pitem (rec : List UInt8 → Ps × Int) (key s : ByteArray) : Pn × Int :=
  if (wof s.data.toList).2 = 0 then
    (if (ptakes (wof s.data.toList).1 PSt.zero).2 = 0 then
      (if (ptakes (wof s.data.toList).1 PSt.zero).1.v.k = 8 then
        (if (rec (ptakes (wof s.data.toList).1 PSt.zero).1.set.data.toList).2 = 0 then
          (⟨key, (ptakes (wof s.data.toList).1 PSt.zero).1.type, (ptakes (wof s.data.toList).1 PSt.zero).1.null, (ptakes (wof s.data.toList).1 PSt.zero).1.v, none, 0, (rec (ptakes (wof s.data.toList).1 PSt.zero).1.set.data.toList).1⟩, 0)
        else (Pn.zero, (rec (ptakes (wof s.data.toList).1 PSt.zero).1.set.data.toList).2))
      else (⟨key, (ptakes (wof s.data.toList).1 PSt.zero).1.type, (ptakes (wof s.data.toList).1 PSt.zero).1.null, (ptakes (wof s.data.toList).1 PSt.zero).1.v, none, 0, .nil⟩, 0))
    else (Pn.zero, (ptakes (wof s.data.toList).1 PSt.zero).2))
  else (Pn.zero, (wof s.data.toList).2)
def phalf (f : Fld) : Int := if (f.num = 1 ∨ f.num = 2) ∧ ¬ f.kind = 2 then 4 else 0
def phalves (l : List Fld) : Int :=
  if ferr (l.map phalf) = 0 then (if 32 < (wall 1 l).length ∨ 32 < (wall 2 l).length then 6 else if (wall 1 l).length = (wall 2 l).length then 0 else 4) else ferr (l.map phalf)
def Ps.build : List Pn → Ps
  | [] => .nil
  | p :: l => .cons p.key p.type p.null p.v p.adr p.cap p.sub (Ps.build l)
theorem Ps.build_list : ∀ l : List Pn, (Ps.build l).list = l := by
  intro l
  induction l with
  | nil => rfl
  | cons p l ih => rw [Ps.build, Ps.list, ih]
def pitems (rec : List UInt8 → Ps × Int) (l : List Fld) : List (Pn × Int) := List.zipWith (fun k v => pitem rec k.text v.text) (wall 1 l) (wall 2 l)
/-- the properties of bytes; the number: how many levels more there may be -/
def pofn : Nat → List UInt8 → Ps × Int
  | 0, _ => (.nil, 12)
  | n + 1, b =>
    if (wof b).2 = 0 then
      (if phalves (wof b).1 = 0 then
        (if ferr ((pitems (pofn n) (wof b).1).map (·.2)) = 0 then (Ps.build ((pitems (pofn n) (wof b).1).map (·.1)), 0) else (.nil, ferr ((pitems (pofn n) (wof b).1).map (·.2))))
      else (.nil, phalves (wof b).1))
    else (.nil, (wof b).2)
theorem phalves_ok {l : List Fld} (h : phalves l = 0) : (wall 1 l).length ≤ 32 ∧ (wall 2 l).length = (wall 1 l).length := by
  unfold phalves at h
  split at h
  · split at h
    · exact absurd h (by decide)
    · rename_i h1
      split at h
      · rename_i h2; exact ⟨by omega, h2.symm⟩
      · exact absurd h (by decide)
  · rename_i h0; exact absurd h h0

/-- what is told of it, without where it lies -/
def Ps.strip : Ps → Ps
  | .nil => .nil
  | .cons k t n v _ _ s r => .cons k t n v none 0 s.strip r.strip
def Pn.strip (p : Pn) : Pn := ⟨p.key, p.type, p.null, p.v, none, 0, p.sub.strip⟩
theorem Ps.strip_list : ∀ l : Ps, l.strip.list = l.list.map Pn.strip := by
  intro l
  induction l with
  | nil => rfl
  | cons k t n v a c s r ih1 ih2 => rw [Ps.strip, Ps.list, ih2]; rfl
theorem Ps.strip_len (l : Ps) : l.strip.list.length = l.list.length := by rw [Ps.strip_list, List.length_map]
theorem Ps.same_strip : ∀ l m : Ps, l.same m = l.strip.same m.strip := by
  intro l
  induction l with
  | nil => intro m; cases m <;> rfl
  | cons k t n v a c s r ih1 ih2 =>
    intro m
    cases m with
    | nil => rfl
    | cons k' t' n' v' a' c' s' r' => rw [Ps.same, Ps.strip, Ps.strip, Ps.same, ih1, ih2]
theorem Ps.same_of_strip {l m : Ps} (h : l.strip = m.strip) : l.same m = true := by
  rw [Ps.same_strip, h]
  generalize m.strip = q
  clear h l m
  induction q with
  | nil => rfl
  | cons k t n v a c s r ih1 ih2 => simp [Ps.same, ih1, ih2, seq_refl, neq_refl, veq_refl]
theorem Ps.depth_strip : ∀ l : Ps, l.strip.depth = l.depth := by
  intro l
  induction l with
  | nil => rfl
  | cons k t n v a c s r ih1 ih2 => rw [Ps.strip, Ps.depth, Ps.depth, ih1, ih2]
theorem Ps.keys_strip (l : Ps) : l.strip.list.map Pn.key = l.list.map Pn.key := by
  rw [Ps.strip_list, List.map_map]; rfl
theorem Ps.vals_strip : ∀ (l : Ps) (d : Nat), l.strip.vals d = l.vals d := by
  intro l
  induction l with
  | nil => intro d; rfl
  | cons k t n v a c s r ih1 ih2 => intro d; rw [Ps.strip, Ps.vals, Ps.vals, ih1, ih2, Ps.keys_strip, Ps.strip_len]
theorem Ps.put_strip (l : Ps) (d : Nat) : l.strip.put d = l.put d := by
  unfold Ps.put
  rw [Ps.keys_strip, Ps.vals_strip]

/-- the slice at A reads as the cells xs; its block is of the kind S -/
def RdS (W : World) (S : Nat → Prop) (A : Option Addr) (xs : List Value) : Prop :=
  xs = [] ∨ ∃ b off, A = some ⟨b, off, none⟩ ∧ b < W.heap.size ∧ S b ∧ ∀ i, i < xs.length → W.cell? ⟨b, off + i, none⟩ = xs[i]?
theorem RdS.rd {W : World} {S : Nat → Prop} {A : Option Addr} {xs : List Value} (h : RdS W S A xs) : Rd W W.heap.size A xs := by
  rcases h with h | ⟨b, off, e, hb, _, hc⟩
  · exact .inl h
  · exact .inr ⟨b, off, e, hb, hc⟩
theorem RdS.keep {W W' : World} {S S' : Nat → Prop} {A : Option Addr} {xs : List Value} (h : RdS W S A xs) (hk : ∀ b, b < W.heap.size → S b → W'.heap[b]? = W.heap[b]?) (hs : W.heap.size ≤ W'.heap.size) (hS : ∀ b, b < W.heap.size → S b → S' b) : RdS W' S' A xs := by
  rcases h with h | ⟨b, off, e, hb, hb2, hc⟩
  · exact .inl h
  · refine .inr ⟨b, off, e, by omega, hS b hb hb2, fun i hi => ?_⟩
    rw [← hc i hi]
    simp only [World.cell?, hk b hb hb2]
def Ps.SubsS (W : World) (S : Nat → Prop) : Ps → Prop
  | .nil => True
  | .cons _ _ _ _ a _ s r => RdS W S a (pcl s.list) ∧ s.SubsS W S ∧ r.SubsS W S
structure Ps.AtS (l : Ps) (W : World) (S : Nat → Prop) (A : Option Addr) : Prop where
  rd : RdS W S A (pcl l.list)
  subs : l.SubsS W S
theorem Ps.SubsS.keep {W W' : World} {S S' : Nat → Prop} (hk : ∀ b, b < W.heap.size → S b → W'.heap[b]? = W.heap[b]?) (hs : W.heap.size ≤ W'.heap.size) (hS : ∀ b, b < W.heap.size → S b → S' b) : ∀ {l : Ps}, l.SubsS W S → l.SubsS W' S' := by
  intro l
  induction l with
  | nil => exact id
  | cons k t n v a c s r ih1 ih2 => exact fun h => ⟨h.1.keep hk hs hS, ih1 h.2.1, ih2 h.2.2⟩
theorem Ps.AtS.keep {l : Ps} {W W' : World} {S S' : Nat → Prop} {A : Option Addr} (h : l.AtS W S A) (hk : ∀ b, b < W.heap.size → S b → W'.heap[b]? = W.heap[b]?) (hs : W.heap.size ≤ W'.heap.size) (hS : ∀ b, b < W.heap.size → S b → S' b) : l.AtS W' S' A := ⟨h.rd.keep hk hs hS, h.subs.keep hk hs hS⟩
theorem Ps.AtS.below {l : Ps} {W W' : World} {S : Nat → Prop} {A : Option Addr} (h : l.AtS W S A) (hb : Below W.heap.size W W') : l.AtS W' S A := h.keep (fun b hlt _ => hb.block b hlt) hb.size (fun _ _ h => h)
theorem Ps.SubsS.at_ {W : World} {S : Nat → Prop} : ∀ {l : Ps}, l.SubsS W S → l.Subs W W.heap.size := by
  intro l
  induction l with
  | nil => exact id
  | cons k t n v a c s r ih1 ih2 => exact fun h => ⟨h.1.rd, ih1 h.2.1, ih2 h.2.2⟩
theorem Ps.AtS.at_ {l : Ps} {W : World} {S : Nat → Prop} {A : Option Addr} (h : l.AtS W S A) : l.At W W.heap.size A := ⟨h.rd.rd, h.subs.at_⟩
theorem Ps.nil_atS (W : World) (S : Nat → Prop) : Ps.AtS .nil W S none := ⟨.inl rfl, trivial⟩
theorem Ps.build_subsS {W : World} {S : Nat → Prop} : ∀ {l : List Pn}, (∀ p ∈ l, p.sub.AtS W S p.adr) → (Ps.build l).SubsS W S := by
  intro l
  induction l with
  | nil => intro _; exact trivial
  | cons p l ih => exact fun h => ⟨(h p (by simp)).rd, (h p (by simp)).subs, ih fun q hq => h q (by simp [hq])⟩
def Pn.Ok (p : Pn) : Prop := p.type < 4294967296 ∧ VVOk p.v ∧ p.sub.list.length ≤ 9223372036854775807 ∧ p.sub.Ok
theorem Ps.build_ok : ∀ {l : List Pn}, (∀ p ∈ l, p.Ok) → (Ps.build l).Ok := by
  intro l
  induction l with
  | nil => intro _; exact trivial
  | cons p l ih => exact fun h => ⟨(h p (by simp)).1, (h p (by simp)).2.1, (h p (by simp)).2.2.1, (h p (by simp)).2.2.2, ih fun q hq => h q (by simp [hq])⟩
theorem Ps.build_strip (l : List Pn) : (Ps.build l).strip = Ps.build (l.map Pn.strip) := by
  induction l with
  | nil => rfl
  | cons p l ih => rw [Ps.build, Ps.strip, ih]; rfl
/-- what is read is in bounds -/
theorem pnum_ok {f : Fld} {most : Nat} (h : pnum f most = 0) : f.kind = 0 ∧ f.val ≤ most := by
  unfold pnum at h
  split at h
  · rename_i h0
    split at h
    · exact absurd h (by decide)
    · exact ⟨h0, by omega⟩
  · exact absurd h (by decide)
structure PSt.Ok (s : PSt) : Prop where
  ty : s.type < 4294967296
  v : VVOk s.v
  set : s.set.size ≤ 4096
theorem PSt.zero_ok : PSt.zero.Ok := ⟨by simp [PSt.zero], zero_rd.ok, by show (⟨#[]⟩ : ByteArray).size ≤ 4096; exact Nat.zero_le _⟩
theorem ptake_ok (f : Fld) (s : PSt) (h : s.Ok) (hf : FldRd f) : (ptake f s).1.Ok := by
  unfold ptake
  split
  · refine ⟨?_, h.v, h.set⟩
    show (if pnum f 4294967295 = 0 then f.val else 0) < 4294967296
    by_cases h0 : pnum f 4294967295 = 0
    · rw [if_pos h0]; have := (pnum_ok h0).2; omega
    · rw [if_neg h0]; omega
  split
  · exact ⟨h.ty, h.v, h.set⟩
  split
  · split
    · exact ⟨h.ty, ⟨by simp, by simp, by simp⟩, hf.2.2.2.2.2⟩
    · exact h
  split
  · exact ⟨h.ty, (vof_rd 3 false [f] (fun g hg => (by simpa using hg : g = f) ▸ hf)).ok, h.set⟩
  · exact h
theorem ptakes_ok : ∀ (l : List Fld) (s : PSt), s.Ok → (∀ f ∈ l, FldRd f) → (ptakes l s).1.Ok := by
  intro l
  induction l with
  | nil => intro s h _; exact h
  | cons f l ih =>
    intro s h hl
    rw [ptakes]
    split
    · exact ih _ (ptake_ok f s h (hl f (by simp))) fun g hg => hl g (by simp [hg])
    · exact PSt.zero_ok
end Go.Proofs.YtlgokfgbcohioaaDoor
