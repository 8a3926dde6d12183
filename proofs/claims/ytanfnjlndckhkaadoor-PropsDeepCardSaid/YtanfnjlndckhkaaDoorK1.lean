/- Several texts in one: words, plain laws and walks that the statement's proof imports. -/
import Derived.WalkKit
import Derived.WalkSpells
import Derived.WalkLawsBesides
import Derived.Lib.Hide
import Derived.Laws.IdiomStrings
import Derived.Maps.AppendAt
import Derived.ProofKit
import Derived.OpenShut
import Derived.ShutString
import Derived.ChangeOld
import Derived.Below
import Derived.JoinedCond
import Derived.SizedLaws
import Derived.Test.YtanfnjlndckhkaaDoorProg
import Derived.Lib.SmallJoins
import Derived.Lib.LaidTab
import Derived.Deep.QuietTactic
import Derived.BigQuiet
import Derived.StillTailTactics
import Derived.OrdersHeld
import Derived.RegionTactic
/- MEMORY WORDS: a slice that reads as a list of cells (nil let in), rows of the call's own, append and make in one form. No program in sight. -/
namespace Go.Proofs.YtanfnjlndckhkaaDoor
open Go.RowKit

/-- the slice at A reads as the cells xs; its block lies below B -/
def Rd (w : World) (B : Nat) (A : Option Addr) (xs : List Value) : Prop :=
  xs = [] ∨ ∃ b off, A = some ⟨b, off, none⟩ ∧ b < B ∧ ∀ i, i < xs.length → w.cell? ⟨b, off + i, none⟩ = xs[i]?

section
variable {w w' : World} {B B' : Nat} {A : Option Addr} {xs : List Value}
theorem Rd.nil : Rd w B A [] := .inl rfl
theorem Rd.some_ (h : Rd w B A xs) (h0 : 0 < xs.length) : ∃ b off, A = some ⟨b, off, none⟩ ∧ b < B ∧ ∀ i, i < xs.length → w.cell? ⟨b, off + i, none⟩ = xs[i]? := by
  rcases h with rfl | h
  · simp at h0
  · exact h
theorem Rd.keep (h : Rd w B A xs) (hk : ∀ p : Addr, p.block < B → w'.cell? p = w.cell? p) : Rd w' B A xs := by
  rcases h with h | ⟨b, off, e, hb, hc⟩
  · exact .inl h
  · exact .inr ⟨b, off, e, hb, fun i hi => (hk _ hb).trans (hc i hi)⟩
theorem Rd.more (h : Rd w B A xs) (hB : B ≤ B') : Rd w B' A xs := by
  rcases h with h | ⟨b, off, e, hb, hc⟩
  · exact .inl h
  · exact .inr ⟨b, off, e, by omega, hc⟩
theorem Rd.below {C : Nat} (h : Rd w B A xs) (hb : Below C w w') (hC : B ≤ C) : Rd w' B A xs := h.keep fun _ hp => hb.cell (by omega)
theorem Rd.drew (h : Rd w B A xs) : Rd w.drew B A xs := h
theorem Rd.drewN (h : Rd w B A xs) (k : Nat) : Rd (w.drewN k) B A xs := h
theorem Rd.alloc (h : Rd w B A xs) (hB : B ≤ w.heap.size) (o : Obj) : Rd (w.alloc o) B A xs := h.keep fun p hp => World.cell?_alloc_lt w o p (by omega)
theorem Rd.setCell (h : Rd w B A xs) {p : Addr} (hB : B ≤ p.block) (u : Value) : Rd (w.setCell p u) B A xs :=
  h.keep fun q hq => World.cell?_setCell_other w p q u (fun e => by subst e; omega)
/-- the first k cells -/
theorem Rd.take (h : Rd w B A xs) (k : Nat) : Rd w B A (xs.take k) := by
  rcases h with rfl | ⟨b, off, e, hb, hc⟩
  · exact .inl (by simp)
  · refine .inr ⟨b, off, e, hb, fun i hi => ?_⟩
    simp at hi
    rw [hc i (by omega), List.getElem?_take_of_lt (by omega)]
/-- from cell k on: as the model spells 's[k:]' -/
theorem Rd.drop (h : Rd w B A xs) {k cap size : Nat} (hc : xs.length ≤ cap * size) : Rd w B (if cap = k then A else A.map (·.add (k * size))) (xs.drop (k * size)) := by
  by_cases hk : xs.length ≤ k * size
  · exact .inl (List.drop_eq_nil_of_le hk)
  · rcases h with rfl | ⟨b, off, e, hb, hcell⟩
    · simp at hk
    · have hne : ¬ cap = k := by rintro rfl; omega
      rw [if_neg hne, e]
      refine .inr ⟨b, off + k * size, by simp [Addr.add_lit], hb, fun i hi => ?_⟩
      simp at hi
      rw [Nat.add_assoc, hcell _ (by omega), List.getElem?_drop]
theorem Rd.one (w : World) (x : Value) (e : TypeId) : Rd (w.alloc (.cells #[x] e)) (w.heap.size + 1) (some ⟨w.heap.size, 0, none⟩) [x] := by
  refine .inr ⟨_, _, rfl, by omega, fun i hi => ?_⟩
  obtain rfl : i = 0 := by simpa using hi
  rw [World.cell?_alloc_at _ _ _ _ rfl]; rfl

/-- What a row of the call's own reads as. -/
theorem Rd.of_own {base : Nat} {e : TypeId} {size n c : Nat} (h : w.ownsRow base e size (.slice A n c) n xs) : Rd w w.heap.size A xs := by
  rcases h.2 with ⟨hv, rfl⟩ | ⟨g, cap, cur, hv, hg, hh, hn, hm, hcs, htk⟩
  · exact .inl (List.eq_nil_of_length_eq_zero (by simpa using h.1))
  · injection hv with hA _ _
    subst hA
    refine .inr ⟨g, 0, rfl, (Array.getElem?_eq_some_iff.1 hh).1, fun i hi => ?_⟩
    have hl := h.1
    rw [Nat.zero_add, cell_of_row w g i cur e (0, 0) hh, ← htk, List.getElem?_take_of_lt (by omega)]
    simp
/-- A row of the call's own has a slice's shape. -/
theorem own_form {base : Nat} {e : TypeId} {size n : Nat} {v : Value} (h : w.ownsRow base e size v n xs) : ∃ A c, v = .slice A n c := by
  rcases h.2 with ⟨rfl, rfl⟩ | ⟨g, cap, cur, rfl, _⟩
  · exact ⟨_, _, rfl⟩
  · exact ⟨_, _, rfl⟩
theorem own_cap {base : Nat} {e : TypeId} {size n c : Nat} (h : w.ownsRow base e size (.slice A n c) n xs) : n ≤ c ∧ c ≤ 9223372036854775807 := by
  rcases h.2 with ⟨hv, rfl⟩ | ⟨g, cap, cur, hv, _, _, hn, hm, _⟩
  · injection hv with _ _ hc; subst hc; omega
  · injection hv with _ _ hc; subst hc; unfold maxLen at hm; omega
theorem own_below {base : Nat} {e : TypeId} {size n c : Nat} {row : Option Nat} (h : w.ownsRow base e size (.slice A n c) n xs) (hB : base ≤ w.heap.size) (hg : w.grownBy w' row) (hr : row = (Value.slice A n c).ownBlock) : Below base w w' :=
  (Below.refl base w).grown hg hB (fun k hk => (h.lt k (hr ▸ hk)).1)
/-- Kept where nothing below a bound has turned that lies above it. -/
theorem own_kept {base C : Nat} {e : TypeId} {size n : Nat} {v : Value} (h : w.ownsRow base e size v n xs) (hb : Below C w w') (hC : w.heap.size ≤ C) : w'.ownsRow base e size v n xs := by
  refine ⟨h.1, ?_⟩
  rcases h.2 with h2 | ⟨g, cap, cur, hv, hg, hh, r⟩
  · exact .inl h2
  · have hlt := (Array.getElem?_eq_some_iff.1 hh).1
    exact .inr ⟨g, cap, cur, hv, hg, (hb.block g (by omega)).trans hh, r⟩
theorem own_base {base b2 : Nat} {e : TypeId} {size n : Nat} {v : Value} (h : w.ownsRow base e size v n xs) (hB : b2 ≤ base) : w.ownsRow b2 e size v n xs := by
  refine ⟨h.1, ?_⟩
  rcases h.2 with h2 | ⟨g, cap, cur, hv, hg, r⟩
  · exact .inl h2
  · exact .inr ⟨g, cap, cur, hv, by omega, r⟩
end

theorem bel_step {a b c : World} (h : Below a.heap.size a b) (k : Below b.heap.size b c) : Below a.heap.size a c := h.trans (k.mono h.size)
theorem bel_step' {B : Nat} {a b c : World} (h : Below B a b) (hB : B ≤ a.heap.size) (k : Below b.heap.size b c) : Below B a c := h.trans (k.mono (Nat.le_trans hB h.size))

theorem ret_int {k : IntKind} {a b : Int} (h : a = b) : Ending.returned (.int k a) = .returned (.int k b) := by rw [h]
theorem ret3_int {k1 k2 k3 : IntKind} {a b c a' b' c' : Int} (h1 : a = a') (h2 : b = b') (h3 : c = c') :
    Ending.returned (.tuple #[.int k1 a, .int k2 b, .int k3 c]) = .returned (.tuple #[.int k1 a', .int k2 b', .int k3 c']) := by rw [h1, h2, h3]

/-- what a slice type's element type is to append and make -/
structure Elem (P : Program) (t e : TypeId) (z : Value) (size bytes : Nat) : Prop where
  ht : P.underlying t = some (.slice e)
  info : ∃ i, P.info? e = some i ∧ i.zero = some z ∧ i.size = size ∧ i.bytes = bytes
  zs : z.cells.size = size
  pos : 0 < size

section
variable {P : Program} {w : World} {ops : Array Oper} {rest : List Oper} {o : Oper} {a : Act} {Q : Exit → Act → World → Prop}

/-- append onto a row of the call's own, the source nil, empty or not -/
theorem run_app (w : World) {t e : TypeId} {z : Value} {size bytes : Nat} (E : Elem P t e z size bytes) (ty : TypeId) {base n c : Nat} {A : Option Addr} {xs : List Value}
    (hown : w.ownsRow base e size (.slice A n c) n xs) {B m c2 : Nat} {A2 : Option Addr} {news : List Value} (hr : Rd w B A2 news) (hl : news.length = m * size)
    (h1 : ∀ u ∈ news, u.oneCell' = true) (h63 : n + m ≤ maxLen) (hbytes : (n + m) * bytes ≤ 140737488355328) (hbase : base ≤ w.heap.size) :
    ∃ A' c' w', (Builtin.append_ #[t, t] ty #[.slice A n c, .slice A2 m c2]).run P w = .ok (.slice A' (n + m) c') w' ∧
      w'.ownsRow base e size (.slice A' (n + m) c') (n + m) (xs ++ news) ∧ w.grownBy w' (Value.slice A n c).ownBlock ∧
      ((Value.slice A' (n + m) c').ownBlock = (Value.slice A n c).ownBlock ∨ (Value.slice A' (n + m) c').ownBlock = some w.heap.size) := by
  obtain ⟨i, hi, hz, hs, hb⟩ := E.info
  rcases A2 with _ | ad
  · have hn : news = [] := by
      rcases hr with h | ⟨b, off, e, _⟩
      · exact h
      · cases e
    subst hn
    have hm : m = 0 := by
      have hp := E.pos
      rcases Nat.mul_eq_zero.1 hl.symm with h | h
      · exact h
      · omega
    subst hm
    refine ⟨A, c, w, ?_, by simpa using hown, World.grownBy.refl _ _, .inl rfl⟩
    rcases hown.2 with ⟨hv, h0⟩ | ⟨g, cap, cur, hv, _, _, hnc, _⟩
    · injection hv with hA hN hC
      subst hA; subst h0; subst hC
      simp [Builtin.append_, run_underlying E.ht, sizeOf, typeInfo, hi, Builtin.lenOf, Builtin.firstCells]
    · injection hv with hA hN hC
      subst hA; subst hC
      simp [Builtin.append_, run_underlying E.ht, sizeOf, typeInfo, hi, Builtin.lenOf, Builtin.firstCells, hnc, storeCells]
  · have hnews : ∀ j u, news[j]? = some u → w.cell? (ad.add j) = some u := by
      intro j u hu
      have hj := (List.getElem?_eq_some_iff.1 hu).1
      obtain ⟨b, off, e, _, hc⟩ := hr.some_ (by omega)
      obtain rfl := Option.some.inj e
      rw [Addr.add_lit, hc j hj]; exact hu
    obtain ⟨v', w', hrun, h2, h3, _, h5⟩ := run_append_own_at (P := P) w base t ty e i z size bytes E.ht hi hz hs hb E.zs E.pos _ n xs hown ad m c2 news hl hnews h1 h63 hbytes hbase
    obtain ⟨A', c', rfl⟩ := own_form h2
    exact ⟨A', c', w', hrun, h2, h3, h5⟩

theorem wp_app {K : Act → World → Prop} (s x : Operand) (t : TypeId)
    (ho : o.op = .call { callee := .builtin .append, args := #[s, x], argTypes := #[t, t] })
    {e : TypeId} {z : Value} {size bytes : Nat} (E : Elem P t e z size bytes) {base n c : Nat} {A : Option Addr} {xs : List Value} (hs : a.eval s = .slice A n c)
    (hown : w.ownsRow base e size (.slice A n c) n xs) {B m c2 : Nat} {A2 : Option Addr} {news : List Value} (hx : a.eval x = .slice A2 m c2) (hr : Rd w B A2 news) (hl : news.length = m * size)
    (h1 : ∀ u ∈ news, u.oneCell' = true) (h63 : n + m ≤ maxLen) (hbytes : (n + m) * bytes ≤ 140737488355328) (hbase : base ≤ w.heap.size)
    (h : ∀ A' c' w', w'.ownsRow base e size (.slice A' (n + m) c') (n + m) (xs ++ news) → w.grownBy w' (Value.slice A n c).ownBlock →
      ((Value.slice A' (n + m) c').ownBlock = (Value.slice A n c).ownBlock ∨ (Value.slice A' (n + m) c').ownBlock = some w.heap.size) → K (a.put o.dst (.slice A' (n + m) c')) w') : o.wp P a w K Q := by
  obtain ⟨A', c', w', hrun, h2, h3, h4⟩ := run_app w E o.type hown hr hl (c2 := c2) h1 h63 hbytes hbase
  unfold Oper.wp execOp
  simp only [ho, resolve, invoke, builtin, Sem.run_bind, Sem.run_pure, Result.andThen_ok, List.map_toArray, List.map_cons, List.map_nil, hs, hx, hrun]
  exact h A' c' w' h2 h3 h4

theorem wpList_app (hgd : o.guard = none) (s x : Operand) (t : TypeId)
    (ho : o.op = .call { callee := .builtin .append, args := #[s, x], argTypes := #[t, t] })
    {e : TypeId} {z : Value} {size bytes : Nat} (E : Elem P t e z size bytes) {base n c : Nat} {A : Option Addr} {xs : List Value} (hs : a.eval s = .slice A n c)
    (hown : w.ownsRow base e size (.slice A n c) n xs) {B m c2 : Nat} {A2 : Option Addr} {news : List Value} (hx : a.eval x = .slice A2 m c2) (hr : Rd w B A2 news) (hl : news.length = m * size)
    (h1 : ∀ u ∈ news, u.oneCell' = true) (h63 : n + m ≤ maxLen) (hbytes : (n + m) * bytes ≤ 140737488355328) (hbase : base ≤ w.heap.size)
    (h : ∀ A' c' w', w'.ownsRow base e size (.slice A' (n + m) c') (n + m) (xs ++ news) → w.grownBy w' (Value.slice A n c).ownBlock →
      ((Value.slice A' (n + m) c').ownBlock = (Value.slice A n c).ownBlock ∨ (Value.slice A' (n + m) c').ownBlock = some w.heap.size) → wpList P ops Q rest (a.put o.dst (.slice A' (n + m) c')) w') :
    wpList P ops Q (o :: rest) a w :=
  wpList_plain hgd fun _ hK => wp_app s x t ho E hs hown hx hr hl h1 h63 hbytes hbase fun A' c' w' h2 h3 h4 => hK _ _ (h A' c' w' h2 h3 h4)

/-- the same in a region that draws its order: for 'go_region_law' -/
theorem step_app {K : Act → World → Prop} {X : Prop} (hgd : o.guard = none) (s x : Operand) (t : TypeId)
    (ho : o.op = .call { callee := .builtin .append, args := #[s, x], argTypes := #[t, t] })
    {e : TypeId} {z : Value} {size bytes : Nat} (E : Elem P t e z size bytes) {base n c : Nat} {A : Option Addr} {xs : List Value} (hs : a.eval s = .slice A n c)
    (hown : w.ownsRow base e size (.slice A n c) n xs) {B m c2 : Nat} {A2 : Option Addr} {news : List Value} (hx : a.eval x = .slice A2 m c2) (hr : Rd w B A2 news) (hl : news.length = m * size)
    (h1 : ∀ u ∈ news, u.oneCell' = true) (h63 : n + m ≤ maxLen) (hbytes : (n + m) * bytes ≤ 140737488355328) (hbase : base ≤ w.heap.size)
    (h : ∀ A' c' w', w'.ownsRow base e size (.slice A' (n + m) c') (n + m) (xs ++ news) → w.grownBy w' (Value.slice A n c).ownBlock →
      ((Value.slice A' (n + m) c').ownBlock = (Value.slice A n c).ownBlock ∨ (Value.slice A' (n + m) c').ownBlock = some w.heap.size) → K (a.put o.dst (.slice A' (n + m) c')) w') :
    if Region.wanted o (yielded ops a.tmps) = true then Oper.wp P o a w K Q else X := by
  have hw : Region.wanted o (yielded ops a.tmps) = true := by simp [Region.wanted, hgd]
  rw [if_pos hw]
  exact wp_app s x t ho E hs hown hx hr hl h1 h63 hbytes hbase h
theorem Rd.cells (w : World) (cs : Array Value) (e : TypeId) : Rd (w.alloc (.cells cs e)) (w.heap.size + 1) (some ⟨w.heap.size, 0, none⟩) cs.toList := by
  refine .inr ⟨_, _, rfl, by omega, fun i hi => ?_⟩
  rw [World.cell?_alloc_at _ _ _ _ rfl]; simp

/-- append of one element, whose cells were just laid in a block of their own -/
theorem wpList_app1 (hgd : o.guard = none) (s x : Operand) (t : TypeId)
    (ho : o.op = .call { callee := .builtin .append, args := #[s, x], argTypes := #[t, t] })
    {e : TypeId} {z : Value} {size bytes : Nat} (E : Elem P t e z size bytes) {base n c : Nat} {A : Option Addr} {xs : List Value} (hs : a.eval s = .slice A n c)
    (hown : w.ownsRow base e size (.slice A n c) n xs) {c2 : Nat} {cs : Array Value} (hx : a.eval x = .slice (some ⟨w.heap.size, 0, none⟩) 1 c2) (hl : cs.size = size)
    (h1 : ∀ u ∈ cs.toList, u.oneCell' = true) (h63 : n + 1 ≤ maxLen) (hbytes : (n + 1) * bytes ≤ 140737488355328) (hbase : base ≤ w.heap.size)
    (h : ∀ A' c' w', w'.ownsRow base e size (.slice A' (n + 1) c') (n + 1) (xs ++ cs.toList) → w.grownBy w' (Value.slice A n c).ownBlock →
      ((Value.slice A' (n + 1) c').ownBlock = (Value.slice A n c).ownBlock ∨ (Value.slice A' (n + 1) c').ownBlock = some (w.heap.size + 1)) → wpList P ops Q rest (a.put o.dst (.slice A' (n + 1) c')) w') :
    wpList P ops Q (o :: rest) a (w.alloc (.cells cs e)) := by
  refine wpList_app hgd s x t ho E hs (hown.alloc _) hx (Rd.cells w cs e) (by simpa using hl) h1 h63 hbytes (by simp; omega) fun A' c' w' h2 h3 h4 => h A' c' w' h2 ?_ (by simpa using h4)
  exact ⟨h3.os, h3.tape, h3.output, by have := h3.size; simp at this; omega, fun k hk hne => (h3.block k (by simp; omega) hne).trans (Below.heap_alloc w _ k hk)⟩

/-- what the row's own block says of Below -/
theorem own_grown {base : Nat} {e : TypeId} {size n c : Nat} {A : Option Addr} {xs : List Value} {w0 w w' : World} (hB : Below base w0 w) (h : w.ownsRow base e size (.slice A n c) n xs) (hb : base ≤ w.heap.size)
    (hg : w.grownBy w' (Value.slice A n c).ownBlock) : Below base w0 w' :=
  hB.grown hg hb (fun k hk => (h.lt k hk).1)
end

/-- bytes as cells -/
def bcl (l : List UInt8) : List Value := l.map fun b => Value.int .u8 (b.toNat : Int)
theorem byte_one (l : List UInt8) : ∀ u ∈ bcl l, u.oneCell' = true := by
  intro u hu
  obtain ⟨_, _, rfl⟩ := List.mem_map.1 hu
  rfl
/-- string(b) -/
theorem run_str {P : Program} {w : World} {B : Nat} {A : Option Addr} {l : List UInt8} (src dst e : TypeId) (hs : P.underlying src = some (.slice e)) (he : P.underlying e = some (.int .u8)) (hd : P.underlying dst = some .string)
    (hr : Rd w B A (bcl l)) (c : Nat) : (convert src dst (.slice A l.length c)).run P w = .ok (.string ⟨l.toArray⟩) w := by
  by_cases hl : l = []
  · subst hl
    rw [List.length_nil, run_convert_bytes_string w src dst e A 0 c hs he hd]
    rcases A with _ | a
    · simp [Conv.bytesToString]; rfl
    · have h := run_bytesToString (P := P) w a 0 c [] (by simp [loadCells, loadCellsFrom])
      rw [h]; rfl
  · obtain ⟨b, off, rfl, _, hc⟩ := hr.some_ (by simp [bcl]; exact List.length_pos_iff.2 hl)
    refine run_convert_bytes_back w src dst e _ c l hs he hd fun j hj => ?_
    rw [Addr.add_lit, hc j (by simp [bcl]; exact hj)]
    simp [bcl, hj]
theorem byte_len (l : List UInt8) : (bcl l).length = l.length * 1 := by simp [bcl]
theorem byte_app (l m : List UInt8) : bcl (l ++ m) = bcl l ++ bcl m := by simp [bcl]
end Go.Proofs.YtanfnjlndckhkaaDoor

/- THE ROW's STEP, in general: a law that answers true and writes nothing that was there; arguments opened into the words of XBase. -/
namespace Go.Proofs.YtanfnjlndckhkaaDoor
open Go.ChangeShapes Go.WideShapes Go.ChangeAt Go.RowKit

section
variable {H : Type} {enc : TypeId × Value → H} {P : Program}

theorem trodAll_stays (hl : laidOutB P = true) {W W' : World} (bel : Below W.heap.size W W') :
    ∀ {ts : List TypeId} {vs : List Value} {ds : List (DataW H)} {ps : List MemPlace}, (ts.all fun t => P.readableRec t && decide (t < P.types.size)) = true →
      DataW.TrodAll enc P W 0 (fun _ => true) true ts vs ds ps → (∀ x ∈ ps, x.block < W.heap.size) → DataW.TrodAll enc P W' 0 (fun b => decide (b < W.heap.size)) true ts vs ds ps := by
  intro ts
  induction ts with
  | nil =>
    intro vs ds ps _ h _
    obtain ⟨rfl, rfl, rfl⟩ := trodAll_nil h
    exact trodAll_mk0
  | cons t ts ih =>
    intro vs ds ps hr h hlt
    obtain ⟨v, vs', d, ds', p, q, rfl, rfl, rfl, h1, h2⟩ := trodAll_cons h
    simp only [List.all_cons, Bool.and_eq_true, decide_eq_true_eq] at hr
    exact trodAll_cons_mk (Below.trod hl hr.1.1 hr.1.2 h1 bel (fun x hx => hlt x (List.mem_append.2 (.inl hx))))
      (ih (by simpa only [List.all_eq_true, Bool.and_eq_true, decide_eq_true_eq] using hr.2) h2 (fun x hx => hlt x (List.mem_append.2 (.inr hx))))

theorem law_post {f : Func} {s : ChangeSpec} {W W' : World} {args : Array Value} {ds gs : List (DataW H)} {before : List MemPlace} {tb : TypeId}
    (hW : DataW.Whole enc P f.params.toList s.vars false W args.toList ds gs before) (hv : s.vars = [])
    (hs : s.fn H (ds ++ gs) = { results := [.lit (.bool true)], args := ds }) (hT : f.resultTypes = #[tb]) (hb : P.underlying tb = some .bool)
    (hl : laidOutB P = true) (hr : (f.params.toList.all fun t => P.readableRec t && decide (t < P.types.size)) = true) (bel : Below W.heap.size W W') :
    s.post enc P f false true false false W args (.bool true) W' := by
  have hW' := hW
  have hlt := hW.lt
  obtain ⟨p, q, hA, hV, rfl, hfz, hnd⟩ := hW
  rw [hv] at hV
  obtain ⟨rfl, rfl⟩ := trodVars_none hV
  simp only [List.append_nil] at hlt hW'
  refine ⟨ds, [], p, [], p, [], hW', ?_, ?_, ?_, bel.frame _, fun h => by cases h⟩
  · rw [hs, hT]
    exact trodAll_mk1 (shut_bool hb _)
  · rw [hs]
    exact trodAll_stays hl bel hr hA hlt
  · rw [hs, hv]
    rfl

/-- []byte: nil, empty or not -/
theorem open_bytes {r : Reach} {b0 : Nat} {W : World} {t e : TypeId} {v : Value} {d : DataW H} {p : List MemPlace} (ht : P.underlying t = some (.slice e)) (he : P.underlying e = some (.int .u8)) (hC : P.cellsOf e = 1)
    (hv : Value.okWide P W r b0 t v) (h : DataW.Trod enc P W 0 (fun _ => true) true t v d p) :
    ∃ A c l, v = .slice A l.length c ∧ l.length ≤ c ∧ c ≤ maxLen ∧ Rd W W.heap.size A (bcl l) ∧ (l = [] ∨ ∃ es sp, d = .slice es sp ∧ es.length = l.length) := by
  obtain ⟨a, n, c, rfl⟩ := okWide_slice ht hv
  obtain ⟨fuel, hf⟩ := h
  rcases open_ints ht he hC hf with ⟨hcs, _⟩ | ⟨x, l, c', zs, hcs, _, hl, hm, hz, hx, hcell, hwz⟩
  · simp [Value.cells] at hcs
    obtain ⟨rfl, rfl, rfl⟩ := hcs
    exact ⟨none, 0, [], rfl, Nat.le_refl _, by simp [maxLen], Rd.nil, .inl rfl⟩
  · simp [Value.cells] at hcs
    obtain ⟨rfl, rfl, rfl⟩ := hcs
    simp at hz
    obtain ⟨hd, hp⟩ := Prod.mk.inj hx
    refine ⟨some x, c, (zs.take n).map fun z => UInt8.ofNat z.toNat, by simp [hz, Nat.min_eq_left hl], by simp [hz, Nat.min_eq_left hl, hl], hm, ?_, .inr ⟨_, _, hd, by simp [lits]⟩⟩
    rcases Nat.eq_zero_or_pos n with rfl | hn
    · exact .inl (by simp [bcl])
    · obtain ⟨b, off, spot⟩ := x
      have hc0 := hcell 0 (by omega)
      have hspot : spot = none := by simpa [Addr.add] using World.cell?_spot hc0
      subst hspot
      refine .inr ⟨b, off, rfl, World.block_lt_of_cell? W _ hc0, fun i hi => ?_⟩
      have hi' : i < n := by simp [bcl, hz] at hi; omega
      clear hi
      have hci := hcell i (by omega)
      rw [Addr.add_lit] at hci
      rw [hci]
      have hw := hwz (zs[i]'(by omega)) (List.getElem_mem _)
      have hb : 0 ≤ zs[i]'(by omega) ∧ zs[i]'(by omega) ≤ 255 := by simpa [Lit.wf, IntKind.min, IntKind.max, IntKind.signed, IntKind.bits] using hw
      have hg : zs.getD i 0 = zs[i]'(by omega) := by simp [List.getD, List.getElem?_eq_getElem (show i < zs.length by omega)]
      rw [hg]
      simp only [bcl, List.getElem?_map, List.getElem?_take_of_lt hi', List.getElem?_eq_getElem (show i < zs.length by omega), Option.map_some, UInt8.toNat_ofNat']
      congr 2
      omega
/-- the form's own reach, and a stated bound on the bulk, as bounds on a list's length -/
theorem reach_bytes {ts : List TypeId} {ds : List (DataW H)} (h : (DataW.weightsEach P ts ds).all (· ≤ reachBytes) = true) {j : Nat} {t e : TypeId} {d : DataW H} {l : List UInt8}
    (ht : ts[j]? = some t) (hd : ds[j]? = some d) (hu : P.underlying t = some (.slice e)) (hb : P.bytesOf e = 1) (q : l = [] ∨ ∃ es sp, d = .slice es sp ∧ es.length = l.length) : l.length ≤ 140737488351232 := by
  rcases q with rfl | ⟨es, sp, rfl, e⟩
  · simp
  · have := sized_slice h ht hd hu
    rw [hb] at this
    simp only [reachBytes] at this
    omega
theorem nat_of_u64 {x : Int} (h : (Lit.int .u64 x).wf = true) : ∃ n : Nat, x = n ∧ n < 18446744073709551616 := by
  have hb : 0 ≤ x ∧ x ≤ 18446744073709551615 := by simpa [Lit.wf, IntKind.min, IntKind.max, IntKind.signed, IntKind.bits] using h
  exact ⟨x.toNat, by omega, by omega⟩
theorem nat_of_u32 {x : Int} (h : (Lit.int .u32 x).wf = true) : ∃ n : Nat, x = n ∧ n < 4294967296 := by
  have hb : 0 ≤ x ∧ x ≤ 4294967295 := by simpa [Lit.wf, IntKind.min, IntKind.max, IntKind.signed, IntKind.bits] using h
  exact ⟨x.toNat, by omega, by omega⟩
theorem nat_of_u16 {x : Int} (h : (Lit.int .u16 x).wf = true) : ∃ n : Nat, x = n ∧ n < 65536 := by
  have hb : 0 ≤ x ∧ x ≤ 65535 := by simpa [Lit.wf, IntKind.min, IntKind.max, IntKind.signed, IntKind.bits] using h
  exact ⟨x.toNat, by omega, by omega⟩
theorem nat_of_u8 {x : Int} (h : (Lit.int .u8 x).wf = true) : ∃ n : Nat, x = n ∧ n < 256 := by
  have hb : 0 ≤ x ∧ x ≤ 255 := by simpa [Lit.wf, IntKind.min, IntKind.max, IntKind.signed, IntKind.bits] using h
  exact ⟨x.toNat, by omega, by omega⟩
theorem bd_of_i64 {x : Int} (h : (Lit.int .i64 x).wf = true) : -9223372036854775808 ≤ x ∧ x ≤ 9223372036854775807 := by
  simpa [Lit.wf, IntKind.min, IntKind.max, IntKind.signed, IntKind.bits] using h
end
end Go.Proofs.YtanfnjlndckhkaaDoor

/- FIELDS: a list of api.Field in memory. -/
namespace Go.Proofs.YtanfnjlndckhkaaDoor
open Go.RowKit

structure Fld where
  num : Int
  kind : Int
  val : Nat
  text : ByteArray
def Fld.cells (f : Fld) : List Value := [.int .i64 f.num, .int .i64 f.kind, .int .u64 f.val, .string f.text]
def flc (l : List Fld) : List Value := l.flatMap Fld.cells
theorem flc_len (l : List Fld) : (flc l).length = 4 * l.length := by
  induction l with
  | nil => rfl
  | cons f l ih => simp only [flc, List.flatMap_cons, List.length_append, List.length_cons] at *; rw [ih]; simp [Fld.cells]; omega
theorem flc_at : ∀ {l : List Fld} {i : Nat} {f : Fld}, l[i]? = some f → ∀ j, j < 4 → (flc l)[4 * i + j]? = f.cells[j]? := by
  intro l
  induction l with
  | nil => intro i f h; simp at h
  | cons g l ih =>
    intro i f h j hj
    simp only [flc, List.flatMap_cons]
    cases i with
    | zero =>
      obtain rfl : g = f := by simpa using h
      rw [List.getElem?_append_left (by simp [Fld.cells]; omega)]
      simp
    | succ i =>
      rw [List.getElem?_append_right (by simp [Fld.cells]; omega)]
      have := ih (by simpa using h) j hj
      rw [← this]
      congr 1
      simp [Fld.cells]; omega
def FldOk (f : Fld) : Prop := -9223372036854775808 ≤ f.num ∧ f.num ≤ 9223372036854775807 ∧ f.val < 18446744073709551616
theorem fld_at {w : World} {B : Nat} {A : Option Addr} {l : List Fld} {j : Nat} {f : Fld} (hr : Rd w B A (flc l)) (hf : l[j]? = some f) :
    ∃ b o, A = some ⟨b, o, none⟩ ∧ b < B ∧ w.cell? ⟨b, o + j * 4, none⟩ = some (.int .i64 f.num) ∧ w.cell? ⟨b, o + j * 4 + 1, none⟩ = some (.int .i64 f.kind) ∧ w.cell? ⟨b, o + j * 4 + 2, none⟩ = some (.int .u64 f.val) ∧ w.cell? ⟨b, o + j * 4 + 3, none⟩ = some (.string f.text) := by
  have hlen := flc_len l
  have hlt := (List.getElem?_eq_some_iff.1 hf).1
  obtain ⟨b, o, rfl, hb, hc⟩ := hr.some_ (by omega)
  have g : ∀ i, i < 4 → w.cell? ⟨b, o + j * 4 + i, none⟩ = f.cells[i]? := fun i hi => by
    rw [show o + j * 4 + i = o + (4 * j + i) by omega]; exact (hc _ (by omega)).trans (flc_at hf i hi)
  exact ⟨b, o, rfl, hb, g 0 (by omega), g 1 (by omega), g 2 (by omega), g 3 (by omega)⟩
theorem drop_cons {α : Type} {l : List α} {j : Nat} {f : α} (h : l[j]? = some f) : l.drop j = f :: l.drop (j + 1) := by
  obtain ⟨h1, h2⟩ := List.getElem?_eq_some_iff.1 h
  rw [List.drop_eq_getElem_cons h1, h2]
end Go.Proofs.YtanfnjlndckhkaaDoor

/- PLAIN LAW, no program in sight: a value's field; why a value may not be. -/
namespace Go.Proofs.YtanfnjlndckhkaaDoor.Plain

def vkind (k : Int) : Int := if k = 3 then 5 else if k = 4 then 1 else if k = 6 ∨ k = 7 then 2 else 0
def vtextual (k : Int) : Bool := k == 6 || k == 7
def vlimit (k : Int) : Int := if k = 0 ∨ k = 6 ∨ k = 7 then 0 else if k = 1 ∨ k = 3 then 4294967295 else if k = 5 then 1 else 18446744073709551615
def vgreat (k : Int) (n : Int) : Bool := decide ((k = 1 ∨ k = 3) ∧ 4294967296 ≤ n ∨ k = 5 ∧ 1 < n)
/-- why a value may not be; e: its text is empty -/
def vright (k n : Int) (e : Bool) : Int :=
  if k < 0 ∨ 7 < k then 11 else if vtextual k = false ∧ e = false then 4 else if (k = 0 ∨ k = 6 ∨ k = 7) ∧ 0 < n then 4 else if vlimit k < n then 5 else 0

theorem vright_ref (k : Int) (n : Nat) (E : Bool) (hn : n < 18446744073709551616) : vright k n E =
    if k < 0 ∨ 7 < k then 11 else if (¬ k = 6 ∧ ¬ k = 7) ∧ E = false then 4 else if (k = 0 ∨ k = 6 ∨ k = 7) ∧ ((n : Int) != 0) = true then 4 else if vgreat k n = true then 5 else 0 := by
  unfold vright
  by_cases h1 : k < 0 ∨ 7 < k
  · rw [if_pos h1, if_pos h1]
  rw [if_neg h1, if_neg h1]
  have e : vtextual k = false ↔ ¬ k = 6 ∧ ¬ k = 7 := by unfold vtextual; simp
  by_cases h2 : vtextual k = false ∧ E = false
  · rw [if_pos h2, if_pos ⟨e.1 h2.1, h2.2⟩]
  have h2' : ¬ ((¬ k = 6 ∧ ¬ k = 7) ∧ E = false) := fun h => h2 ⟨e.2 h.1, h.2⟩
  rw [if_neg h2, if_neg h2']
  have e3 : 0 < (n : Int) ↔ ((n : Int) != 0) = true := by simp; omega
  by_cases h3 : (k = 0 ∨ k = 6 ∨ k = 7) ∧ 0 < (n : Int)
  · rw [if_pos h3, if_pos ⟨h3.1, e3.1 h3.2⟩]
  have h3' : ¬ ((k = 0 ∨ k = 6 ∨ k = 7) ∧ ((n : Int) != 0) = true) := fun h => h3 ⟨h.1, e3.2 h.2⟩
  rw [if_neg h3, if_neg h3']
  have e4 : vlimit k < (n : Int) ↔ vgreat k n = true := by
    unfold vlimit vgreat
    rw [decide_eq_true_iff]
    by_cases a : k = 0 ∨ k = 6 ∨ k = 7
    · rw [if_pos a]; constructor
      · intro h; exact absurd ⟨a, h⟩ h3
      · intro h; omega
    · rw [if_neg a]; by_cases b : k = 1 ∨ k = 3
      · rw [if_pos b]; omega
      · rw [if_neg b]; by_cases c : k = 5
        · rw [if_pos c]; omega
        · rw [if_neg c]; omega
  by_cases h4 : vlimit k < (n : Int)
  · rw [if_pos h4, if_pos (e4.1 h4)]
  · have h4' : ¬ vgreat k n = true := fun h => h4 (e4.2 h)
    rw [if_neg h4, if_neg h4']

/-- why a value is not put -/
def verr (k n : Int) (e : Bool) (base : Int) (raw : Bool) : Int :=
  if 1 ≤ base ∧ base ≤ 1000 then (if vright k n e = 0 then (if k = 7 ∧ raw = false then 11 else 0) else vright k n e) else 1
end Go.Proofs.YtanfnjlndckhkaaDoor.Plain

/- The table of kinds. -/
namespace Go.Proofs.YtanfnjlndckhkaaDoor
open Go.RowKit Plain

/-- the table of kinds holds what the program's text lays -/
def Kinds (w : World) : Prop := ∀ j : Nat, j < 8 → w.cell? ⟨0, j, none⟩ = some (.int .i64 (vkind j))
theorem Kinds.below {B : Nat} {w w' : World} (h : Kinds w) (hb : Below B w w') (hB : 0 < B) : Kinds w' := fun j hj => (hb.cell (by simpa using hB)).trans (h j hj)
theorem Kinds.pos {w : World} (h : Kinds w) : 0 < w.heap.size := World.block_lt_of_cell? w _ (h 0 (by omega))
end Go.Proofs.YtanfnjlndckhkaaDoor

/- api.Value opened; the table of kinds out of the row's list. -/
namespace Go.Proofs.YtanfnjlndckhkaaDoor
open Go.ChangeShapes Go.WideShapes Go.ChangeAt Go.RowKit

set_option maxRecDepth 100000 in
theorem val_U : ∃ f0 f1 f2, Tryd.prog.underlying 42 = some (.struct #[f0, f1, f2]) ∧ Go.Deep.oneCellFields Tryd.prog #[f0, f1, f2] = true ∧ f0.type = 3 ∧ f1.type = 40 ∧ f2.type = 9 :=
  ⟨_, _, _, Tryd.underlying42, by kernel_rfl, rfl, rfl, rfl⟩
set_option maxRecDepth 100000 in
theorem val_C : Tryd.prog.cellsOf 42 = 3 := by kernel_rfl

set_option maxRecDepth 100000 in
theorem open_value {H : Type} {enc : TypeId × Value → H} {r : Reach} {b0 : Nat} {W : World} {v : Value} {d : DataW H} {p : List MemPlace} (hv : Value.okWide Tryd.prog W r b0 42 v) (h : DataW.Trod enc Tryd.prog W 0 (fun _ => true) true 42 v d p) :
    ∃ (k : Int) (n : Nat) (s : ByteArray), v = .agg #[.int .i64 k, .int .u64 n, .string s] ∧ d = .agg [.lit (.int .i64 k), .lit (.int .u64 n), .lit (.string s.data.toList)] ∧ p = [] ∧
      -9223372036854775808 ≤ k ∧ k ≤ 9223372036854775807 ∧ n < 18446744073709551616 ∧ s.size ≤ maxLen := by
  obtain ⟨f0, f1, f2, hu, h1, t0, t1, t2⟩ := val_U
  obtain ⟨v0, v1, v2, y0, y1, y2, n, rfl, rfl, rfl, r0, r1, r2⟩ := Go.Joins.open_agg3 hu h1 val_C hv h
  rw [t0] at r0
  rw [t1] at r1
  rw [t2] at r2
  obtain ⟨k, e0, x0, w0⟩ := DataW.trod_int Tryd.underlying3 r0
  obtain ⟨m, e1, x1, w1⟩ := DataW.trod_int Tryd.underlying40 r1
  obtain ⟨s, e2, x2, w2⟩ := DataW.trod_string Tryd.underlying9 r2
  obtain rfl : v0 = _ := by simpa using e0
  obtain rfl : v1 = _ := by simpa using e1
  obtain rfl : v2 = _ := by simpa using e2
  obtain ⟨m', rfl, b1⟩ := nat_of_u64 w1
  have b0 := bd_of_i64 w0
  subst x0 x1 x2
  exact ⟨k, m', s, rfl, rfl, rfl, b0.1, b0.2, b1, w2⟩

set_option maxRecDepth 100000 in
theorem gTab : Tryd.prog.globalNamed "crier/value.kinds" = some 0 := by kernel_rfl
set_option maxRecDepth 100000 in
theorem gTabType : ∃ t e, (Tryd.prog.globals[0]?).map (·.type) = some t ∧ Tryd.prog.underlying t = some (.array 8 e) ∧ Tryd.prog.underlying e = some (.int .i64) ∧ Tryd.prog.cellsOf e = 1 ∧ Tryd.prog.cellsOf t = 8 :=
  ⟨150, 3, by kernel_rfl, by kernel_rfl, by kernel_rfl, by kernel_rfl, by kernel_rfl⟩
set_option maxRecDepth 100000 in
theorem kinds_of_tab {W : World} (h : Lib.TabIs Tryd.prog W "crier/value.kinds" .i64 [0, 0, 0, 5, 1, 0, 2, 2]) : Kinds W := by
  intro j hj
  rw [h.cell gTab j hj]
  have : ∀ i : Fin 8, ([0, 0, 0, 5, 1, 0, 2, 2] : List Int).getD i.val 0 = Plain.vkind (i.val : Int) := by decide +kernel
  exact congrArg (fun z => some (Value.int .i64 z)) (this ⟨j, hj⟩)
end Go.Proofs.YtanfnjlndckhkaaDoor

/- WALKS: value's small functions. -/
namespace Go.Proofs.YtanfnjlndckhkaaDoor
open Go.RowKit Plain

theorem below_drewN {B : Nat} {a w : World} (h : Below B a w) (n : Nat) : Below B a (w.drewN n) := ⟨h.os, h.tape, h.output, h.size, h.block⟩
theorem boxV (w : World) (k : Int) (n : Nat) (s : ByteArray) (q : Nat) : ∃ w2, (w.alloc (Obj.cells #[Value.int IntKind.i64 k, Value.int IntKind.u64 n, Value.string s] 42)).drewN q = w2 ∧
    w2.cell? ⟨w.heap.size, 0, none⟩ = some (.int .i64 k) ∧ w2.cell? ⟨w.heap.size, 1, none⟩ = some (.int .u64 n) ∧ Below w.heap.size w w2 := by
  refine ⟨_, rfl, ?_, ?_, below_drewN ((Below.refl _ _).alloc (Nat.le_refl _) _) _⟩
  · exact World.cell?_alloc_at _ _ _ 0 rfl
  · exact World.cell?_alloc_at _ _ _ 1 rfl

theorem limit_any (k : Int) (w : World) : Calls Tryd.prog 102 #[.int .i64 k] w fun e w' => e = .returned (.int .u64 (vlimit k)) ∧ w = w' := by
  by_cases h0 : k = 0
  · subst h0; go_enter Tryd.func102, Tryd.ntmps102
    go_wp2
    go_ret
    exact ⟨rfl, rfl⟩
  by_cases h1 : k = 1
  · subst h1; go_enter Tryd.func102, Tryd.ntmps102
    go_wp2
    go_ret
    exact ⟨rfl, rfl⟩
  by_cases h3 : k = 3
  · subst h3; go_enter Tryd.func102, Tryd.ntmps102
    go_wp2
    go_ret
    exact ⟨rfl, rfl⟩
  by_cases h5 : k = 5
  · subst h5; go_enter Tryd.func102, Tryd.ntmps102
    go_wp2
    go_ret
    exact ⟨rfl, rfl⟩
  by_cases h6 : k = 6
  · subst h6; go_enter Tryd.func102, Tryd.ntmps102
    go_wp2
    go_ret
    exact ⟨rfl, rfl⟩
  by_cases h7 : k = 7
  · subst h7; go_enter Tryd.func102, Tryd.ntmps102
    go_wp2
    go_ret
    exact ⟨rfl, rfl⟩
  have e : vlimit k = 18446744073709551615 := by unfold vlimit; rw [if_neg (by omega), if_neg (by omega), if_neg (by omega)]
  have b0 : (k == 0) = false := by simpa using h0
  have b1 : (k == 1) = false := by simpa using h1
  have b3 : (k == 3) = false := by simpa using h3
  have b5 : (k == 5) = false := by simpa using h5
  have b6 : (k == 6) = false := by simpa using h6
  have b7 : (k == 7) = false := by simpa using h7
  rw [e]
  clear e h0 h1 h3 h5 h6 h7
  go_enter Tryd.func102, Tryd.ntmps102
  go_wp2
  go_ret
  exact ⟨rfl, rfl⟩
theorem textual_any (k : Int) (w : World) : Calls Tryd.prog 101 #[.int .i64 k] w fun e w' => e = .returned (.bool (vtextual k)) ∧ w = w' := by
  have e : vtextual k = ((k == 6) || (k == 7)) := rfl
  rw [e]
  cases b6 : (k == 6) <;> cases b7 : (k == 7) <;>
  · go_enter Tryd.func101, Tryd.ntmps101
    go_wp2
    go_ret
    exact ⟨rfl, rfl⟩

set_option maxRecDepth 100000 in
set_option maxHeartbeats 1000000 in
theorem right_any (k : Int) (n : Nat) (s : ByteArray) (w : World) :
    Calls Tryd.prog 107 #[.agg #[.int .i64 k, .int .u64 n, .string s]] w fun e w' => e = .returned (.int .i64 (vright k n s.toList.isEmpty)) ∧ Below w.heap.size w w' := by
  by_cases h0 : k < 0
  · go_enter Tryd.func107, Tryd.ntmps107
    go_wp2_with fail
    go_ret
    exact ⟨by unfold vright; rw [if_pos (by omega)]; rfl, (Below.refl _ _).alloc (Nat.le_refl _) _⟩
  by_cases h7 : 7 < k
  · go_enter Tryd.func107, Tryd.ntmps107
    go_wp2_with fail
    go_ret
    exact ⟨by unfold vright; rw [if_pos (by omega)]; rfl, (Below.refl _ _).alloc (Nat.le_refl _) _⟩
  have ev : vright k n s.toList.isEmpty = if vtextual k = false ∧ s.toList.isEmpty = false then 4 else if (k = 0 ∨ k = 6 ∨ k = 7) ∧ 0 < (n : Int) then 4 else if vlimit k < n then 5 else 0 := by unfold vright; rw [if_neg (by omega)]
  have hl0 : vlimit k = 0 ↔ (k = 0 ∨ k = 6 ∨ k = 7) := by
    unfold vlimit
    by_cases h1 : k = 0 ∨ k = 6 ∨ k = 7
    · simp [h1]
    · rw [if_neg h1]; by_cases h2 : k = 1 ∨ k = 3
      · rw [if_pos h2]; omega
      · rw [if_neg h2]; by_cases h3 : k = 5
        · rw [if_pos h3]; omega
        · rw [if_neg h3]; omega
  by_cases hT : vtextual k = true
  · by_cases hn : vlimit k < (n : Int)
    · have hd : decide (vlimit k < (n : Int)) = true := by simpa using hn
      by_cases hz : vlimit k = 0
      · have hz0 : (vlimit k == 0) = true := by simpa using hz
        rw [ev, if_neg (by rw [hT]; simp), if_pos ⟨hl0.1 hz, by omega⟩]
        clear ev hl0
        clear hn hz
        go_enter Tryd.func107, Tryd.ntmps107
        go_wp2_with (first | (go_at_call 101; refine (textual_any k _).mono ?_; rintro e w1 ⟨rfl, rfl⟩) | (go_at_call 102; refine (limit_any k _).mono ?_; rintro e w1 ⟨rfl, rfl⟩))
        go_quiet (first | (go_at_call 102; exact Calls.quiet_of_same ((limit_any k _).mono fun _ _ h => ⟨h.1, h.2.symm⟩)))
        go_wp2_with (first | (go_at_call 101; refine (textual_any k _).mono ?_; rintro e w1 ⟨rfl, rfl⟩) | (go_at_call 102; refine (limit_any k _).mono ?_; rintro e w1 ⟨rfl, rfl⟩))
        go_ret
        exact ⟨rfl, below_drewN ((Below.refl _ _).alloc (Nat.le_refl _) _) _⟩
      · have hz0 : (vlimit k == 0) = false := by simpa using hz
        rw [ev, if_neg (by rw [hT]; simp), if_neg (fun h => hz (hl0.2 h.1)), if_pos hn]
        clear ev hl0
        clear hn hz
        go_enter Tryd.func107, Tryd.ntmps107
        go_wp2_with (first | (go_at_call 101; refine (textual_any k _).mono ?_; rintro e w1 ⟨rfl, rfl⟩) | (go_at_call 102; refine (limit_any k _).mono ?_; rintro e w1 ⟨rfl, rfl⟩))
        go_quiet (first | (go_at_call 102; exact Calls.quiet_of_same ((limit_any k _).mono fun _ _ h => ⟨h.1, h.2.symm⟩)))
        go_wp2_with (first | (go_at_call 101; refine (textual_any k _).mono ?_; rintro e w1 ⟨rfl, rfl⟩) | (go_at_call 102; refine (limit_any k _).mono ?_; rintro e w1 ⟨rfl, rfl⟩))
        obtain ⟨w2, hw2, c0, c1, hB2⟩ := boxV w k n s nq
        rw [hw2]
        clear hw2
        go_quiet (first | (go_at_call 102; exact Calls.quiet_of_same ((limit_any k _).mono fun _ _ h => ⟨h.1, h.2.symm⟩)))
        go_wp2_with (first | (go_at_call 101; refine (textual_any k _).mono ?_; rintro e w1 ⟨rfl, rfl⟩) | (go_at_call 102; refine (limit_any k _).mono ?_; rintro e w1 ⟨rfl, rfl⟩))
        go_ret
        exact ⟨rfl, below_drewN hB2 _⟩
    · have hd : decide (vlimit k < (n : Int)) = false := by simpa using hn
      rw [ev, if_neg (by rw [hT]; simp), if_neg (fun h => hn (by have := hl0.2 h.1; omega)), if_neg hn]
      clear ev hl0
      clear hn
      go_enter Tryd.func107, Tryd.ntmps107
      go_wp2_with (first | (go_at_call 101; refine (textual_any k _).mono ?_; rintro e w1 ⟨rfl, rfl⟩) | (go_at_call 102; refine (limit_any k _).mono ?_; rintro e w1 ⟨rfl, rfl⟩))
      go_quiet (first | (go_at_call 102; exact Calls.quiet_of_same ((limit_any k _).mono fun _ _ h => ⟨h.1, h.2.symm⟩)))
      go_wp2_with (first | (go_at_call 101; refine (textual_any k _).mono ?_; rintro e w1 ⟨rfl, rfl⟩) | (go_at_call 102; refine (limit_any k _).mono ?_; rintro e w1 ⟨rfl, rfl⟩))
      obtain ⟨w2, hw2, c0, c1, hB2⟩ := boxV w k n s nq
      rw [hw2]
      clear hw2
      go_quiet (first | (go_at_call 102; exact Calls.quiet_of_same ((limit_any k _).mono fun _ _ h => ⟨h.1, h.2.symm⟩)))
      go_wp2_with (first | (go_at_call 101; refine (textual_any k _).mono ?_; rintro e w1 ⟨rfl, rfl⟩) | (go_at_call 102; refine (limit_any k _).mono ?_; rintro e w1 ⟨rfl, rfl⟩))
      go_ret
      exact ⟨rfl, below_drewN hB2 _⟩
  have hT : vtextual k = false := by simpa using hT
  by_cases hE : s.toList.isEmpty = true
  · by_cases hn : vlimit k < (n : Int)
    · have hd : decide (vlimit k < (n : Int)) = true := by simpa using hn
      by_cases hz : vlimit k = 0
      · have hz0 : (vlimit k == 0) = true := by simpa using hz
        rw [ev, if_neg (by rw [hE]; simp), if_pos ⟨hl0.1 hz, by omega⟩]
        clear ev hl0
        clear hn hz
        go_enter Tryd.func107, Tryd.ntmps107
        go_wp2_with (first | (go_at_call 101; refine (textual_any k _).mono ?_; rintro e w1 ⟨rfl, rfl⟩) | (go_at_call 102; refine (limit_any k _).mono ?_; rintro e w1 ⟨rfl, rfl⟩))
        go_quiet (first | (go_at_call 102; exact Calls.quiet_of_same ((limit_any k _).mono fun _ _ h => ⟨h.1, h.2.symm⟩)))
        go_wp2_with (first | (go_at_call 101; refine (textual_any k _).mono ?_; rintro e w1 ⟨rfl, rfl⟩) | (go_at_call 102; refine (limit_any k _).mono ?_; rintro e w1 ⟨rfl, rfl⟩))
        go_ret
        exact ⟨rfl, below_drewN ((Below.refl _ _).alloc (Nat.le_refl _) _) _⟩
      · have hz0 : (vlimit k == 0) = false := by simpa using hz
        rw [ev, if_neg (by rw [hE]; simp), if_neg (fun h => hz (hl0.2 h.1)), if_pos hn]
        clear ev hl0
        clear hn hz
        go_enter Tryd.func107, Tryd.ntmps107
        go_wp2_with (first | (go_at_call 101; refine (textual_any k _).mono ?_; rintro e w1 ⟨rfl, rfl⟩) | (go_at_call 102; refine (limit_any k _).mono ?_; rintro e w1 ⟨rfl, rfl⟩))
        go_quiet (first | (go_at_call 102; exact Calls.quiet_of_same ((limit_any k _).mono fun _ _ h => ⟨h.1, h.2.symm⟩)))
        go_wp2_with (first | (go_at_call 101; refine (textual_any k _).mono ?_; rintro e w1 ⟨rfl, rfl⟩) | (go_at_call 102; refine (limit_any k _).mono ?_; rintro e w1 ⟨rfl, rfl⟩))
        obtain ⟨w2, hw2, c0, c1, hB2⟩ := boxV w k n s nq
        rw [hw2]
        clear hw2
        go_quiet (first | (go_at_call 102; exact Calls.quiet_of_same ((limit_any k _).mono fun _ _ h => ⟨h.1, h.2.symm⟩)))
        go_wp2_with (first | (go_at_call 101; refine (textual_any k _).mono ?_; rintro e w1 ⟨rfl, rfl⟩) | (go_at_call 102; refine (limit_any k _).mono ?_; rintro e w1 ⟨rfl, rfl⟩))
        go_ret
        exact ⟨rfl, below_drewN hB2 _⟩
    · have hd : decide (vlimit k < (n : Int)) = false := by simpa using hn
      rw [ev, if_neg (by rw [hE]; simp), if_neg (fun h => hn (by have := hl0.2 h.1; omega)), if_neg hn]
      clear ev hl0
      clear hn
      go_enter Tryd.func107, Tryd.ntmps107
      go_wp2_with (first | (go_at_call 101; refine (textual_any k _).mono ?_; rintro e w1 ⟨rfl, rfl⟩) | (go_at_call 102; refine (limit_any k _).mono ?_; rintro e w1 ⟨rfl, rfl⟩))
      go_quiet (first | (go_at_call 102; exact Calls.quiet_of_same ((limit_any k _).mono fun _ _ h => ⟨h.1, h.2.symm⟩)))
      go_wp2_with (first | (go_at_call 101; refine (textual_any k _).mono ?_; rintro e w1 ⟨rfl, rfl⟩) | (go_at_call 102; refine (limit_any k _).mono ?_; rintro e w1 ⟨rfl, rfl⟩))
      obtain ⟨w2, hw2, c0, c1, hB2⟩ := boxV w k n s nq
      rw [hw2]
      clear hw2
      go_quiet (first | (go_at_call 102; exact Calls.quiet_of_same ((limit_any k _).mono fun _ _ h => ⟨h.1, h.2.symm⟩)))
      go_wp2_with (first | (go_at_call 101; refine (textual_any k _).mono ?_; rintro e w1 ⟨rfl, rfl⟩) | (go_at_call 102; refine (limit_any k _).mono ?_; rintro e w1 ⟨rfl, rfl⟩))
      go_ret
      exact ⟨rfl, below_drewN hB2 _⟩
  have hE : s.toList.isEmpty = false := by simpa using hE
  rw [ev, if_pos ⟨hT, hE⟩]
  clear ev hl0
  go_enter Tryd.func107, Tryd.ntmps107
  go_wp2_with (first | (go_at_call 101; refine (textual_any k _).mono ?_; rintro e w1 ⟨rfl, rfl⟩) | (go_at_call 102; refine (limit_any k _).mono ?_; rintro e w1 ⟨rfl, rfl⟩))
  go_ret
  exact ⟨rfl, (Below.refl _ _).alloc (Nat.le_refl _) _⟩
end Go.Proofs.YtanfnjlndckhkaaDoor

/- WALKS: the reference's small functions of values. -/
namespace Go.Proofs.YtanfnjlndckhkaaDoor
open Go.RowKit Plain

theorem great_any (k : Int) (n : Int) (w : World) : Calls Tryd.prog 105 #[.int .i64 k, .int .u64 n] w fun e w' => e = .returned (.bool (vgreat k n)) ∧ w = w' := by
  by_cases h1 : k = 1
  · subst h1
    have e : vgreat 1 n = decide (4294967296 ≤ n) := by unfold vgreat; simp
    rw [e]
    go_enter Tryd.func105, Tryd.ntmps105
    go_wp2
    go_ret
    exact ⟨rfl, rfl⟩
  by_cases h3 : k = 3
  · subst h3
    have e : vgreat 3 n = decide (4294967296 ≤ n) := by unfold vgreat; simp
    rw [e]
    go_enter Tryd.func105, Tryd.ntmps105
    go_wp2
    go_ret
    exact ⟨rfl, rfl⟩
  by_cases h5 : k = 5
  · subst h5
    have e : vgreat 5 n = decide (1 < n) := by unfold vgreat; simp
    rw [e]
    go_enter Tryd.func105, Tryd.ntmps105
    go_wp2
    go_ret
    exact ⟨rfl, rfl⟩
  have e : vgreat k n = false := by unfold vgreat; simp; omega
  have b1 : (k == 1) = false := by simpa using h1
  have b3 : (k == 3) = false := by simpa using h3
  have b5 : (k == 5) = false := by simpa using h5
  rw [e]
  clear e h1 h3 h5
  go_enter Tryd.func105, Tryd.ntmps105
  go_wp2
  go_ret
  exact ⟨rfl, rfl⟩
theorem kind_any (k : Int) (w : World) : Calls Tryd.prog 87 #[.int .i64 k] w fun e w' => e = .returned (.int .i64 (vkind k)) ∧ w = w' := by
  by_cases h3 : k = 3
  · subst h3; go_enter Tryd.func87, Tryd.ntmps87
    go_wp2
    go_ret
    exact ⟨rfl, rfl⟩
  by_cases h4 : k = 4
  · subst h4; go_enter Tryd.func87, Tryd.ntmps87
    go_wp2
    go_ret
    exact ⟨rfl, rfl⟩
  by_cases h6 : k = 6
  · subst h6; go_enter Tryd.func87, Tryd.ntmps87
    go_wp2
    go_ret
    exact ⟨rfl, rfl⟩
  by_cases h7 : k = 7
  · subst h7; go_enter Tryd.func87, Tryd.ntmps87
    go_wp2
    go_ret
    exact ⟨rfl, rfl⟩
  have e : vkind k = 0 := by unfold vkind; rw [if_neg h3, if_neg h4, if_neg (by omega)]
  have b3 : (k == 3) = false := by simpa using h3
  have b4 : (k == 4) = false := by simpa using h4
  have b6 : (k == 6) = false := by simpa using h6
  have b7 : (k == 7) = false := by simpa using h7
  rw [e]
  clear e h3 h4 h6 h7
  go_enter Tryd.func87, Tryd.ntmps87
  go_wp2
  go_ret
  exact ⟨rfl, rfl⟩

set_option maxHeartbeats 1000000 in
theorem rright_any (k : Int) (n : Nat) (s : ByteArray) (hn : n < 18446744073709551616) (w : World) :
    Calls Tryd.prog 86 #[.agg #[.int .i64 k, .int .u64 n, .string s]] w fun e w' => e = .returned (.int .i64 (vright k n s.toList.isEmpty)) ∧ Below w.heap.size w w' := by
  obtain ⟨V, hV⟩ : ∃ V, vright k n s.toList.isEmpty = V := ⟨_, rfl⟩
  rw [hV]
  have HV := Lib.hid hV
  clear hV
  go_enter Tryd.func86, Tryd.ntmps86
  go_wp2_with (go_at_call 105; refine (great_any _ _ _).mono ?_; rintro e w1 ⟨rfl, rfl⟩)
  all_goals go_ret
  all_goals refine ⟨congrArg (fun z => Ending.returned (.int .i64 z)) ?_, (Below.refl _ _).alloc (Nat.le_refl _) _⟩
  all_goals rw [← HV.out]
  all_goals clear HV
  all_goals rw [vright_ref _ _ _ hn]
  all_goals (simp [*]; done)
end Go.Proofs.YtanfnjlndckhkaaDoor

/- WALKS: value.Put -/
namespace Go.Proofs.YtanfnjlndckhkaaDoor
open Go.RowKit Plain

theorem based_any (b : Int) (w : World) : Calls Tryd.prog 99 #[.int .i64 b] w fun e w' => e = .returned (.bool (decide (1 ≤ b ∧ b ≤ 1000))) ∧ w = w' := by
  by_cases h0 : b < 1
  · have e : decide (1 ≤ b ∧ b ≤ 1000) = false := by simp; omega
    rw [e]; clear e
    go_enter Tryd.func99, Tryd.ntmps99
    go_wp2
    go_ret
    exact ⟨rfl, rfl⟩
  by_cases h1 : 1000 < b
  · have e : decide (1 ≤ b ∧ b ≤ 1000) = false := by simp; omega
    have e2 : decide (b ≤ 1000) = false := by simp; omega
    have E2 := Lib.hid e2
    rw [e]; clear e e2
    go_enter Tryd.func99, Tryd.ntmps99
    go_wp2
    go_ret
    exact ⟨congrArg (fun z => Ending.returned (.bool z)) E2.out, rfl⟩
  have e : decide (1 ≤ b ∧ b ≤ 1000) = true := by simp; omega
  have e2 : decide (b ≤ 1000) = true := by simp; omega
  rw [e]; clear e h1
  go_enter Tryd.func99, Tryd.ntmps99
  go_wp2
  go_ret
  exact ⟨rfl, rfl⟩

/-- the box of a value, and what it holds behind a call -/
theorem boxV1 {w w1 : World} {k : Int} {n : Nat} {s : ByteArray} (h : Below (w.alloc (Obj.cells #[Value.int IntKind.i64 k, Value.int IntKind.u64 n, Value.string s] 42)).heap.size (w.alloc (Obj.cells #[Value.int IntKind.i64 k, Value.int IntKind.u64 n, Value.string s] 42)) w1) :
    w1.cell? ⟨w.heap.size, 0, none⟩ = some (.int .i64 k) ∧ w1.cell? ⟨w.heap.size, 1, none⟩ = some (.int .u64 n) ∧ w1.cell? ⟨w.heap.size, 2, none⟩ = some (.string s) ∧ Below w.heap.size w w1 := by
  refine ⟨?_, ?_, ?_, bel_step ((Below.refl _ _).alloc (Nat.le_refl _) _) h⟩
  · exact (h.cell (by simp)).trans (World.cell?_alloc_at _ _ _ 0 rfl)
  · exact (h.cell (by simp)).trans (World.cell?_alloc_at _ _ _ 1 rfl)
  · exact (h.cell (by simp)).trans (World.cell?_alloc_at _ _ _ 2 rfl)

def vfld (k : Int) (n : Nat) (s : ByteArray) (base : Int) : Fld := ⟨base + k - 1, vkind k, n, s⟩
def vfls (k : Int) (n : Nat) (s : ByteArray) (base : Int) (raw : Bool) : List Fld := if verr k n s.toList.isEmpty base raw = 0 ∧ ¬ k = 0 then [vfld k n s base] else []
theorem vright_bd {k n : Int} {e : Bool} (h : vright k n e = 0) : 0 ≤ k ∧ k ≤ 7 := by
  unfold vright at h
  by_cases h1 : k < 0 ∨ 7 < k
  · rw [if_pos h1] at h; omega
  · omega
/-- what Put leaves -/
def PutPost (k : Int) (n : Nat) (s : ByteArray) (base : Int) (raw : Bool) (w : World) (e : Ending) (w' : World) : Prop :=
  ∃ A c, e = .returned (.tuple #[.slice A (vfls k n s base raw).length c, .int .i64 (verr k n s.toList.isEmpty base raw)]) ∧ (vfls k n s base raw).length ≤ c ∧ c ≤ 1 ∧ Rd w' w'.heap.size A (flc (vfls k n s base raw)) ∧ Below w.heap.size w w'
theorem putPost_none {k : Int} {n : Nat} {s : ByteArray} {base : Int} {raw : Bool} {w w' : World} {v : Int} (h : verr k n s.toList.isEmpty base raw = v) (h0 : ¬ v = 0 ∨ k = 0) (hB : Below w.heap.size w w') :
    PutPost k n s base raw w (.returned (.tuple #[.slice none 0 0, .int .i64 v])) w' := by
  have e : vfls k n s base raw = [] := by unfold vfls; rw [if_neg (by rw [h]; omega)]
  unfold PutPost
  rw [e, h]
  exact ⟨none, 0, rfl, Nat.le_refl _, by omega, Rd.nil, hB⟩
theorem putPost_one {k : Int} {n : Nat} {s : ByteArray} {base : Int} {raw : Bool} {w w' : World} (h : verr k n s.toList.isEmpty base raw = 0) (h0 : ¬ k = 0) (hB : Below w.heap.size w w') (t : TypeId) :
    PutPost k n s base raw w (.returned (.tuple #[.slice (some ⟨w'.heap.size, 0, none⟩) 1 1, .int .i64 0])) (w'.alloc (.cells #[.int .i64 (base + k - 1), .int .i64 (vkind k), .int .u64 n, .string s] t)) := by
  have e : vfls k n s base raw = [vfld k n s base] := by unfold vfls; rw [if_pos ⟨h, h0⟩]
  unfold PutPost
  rw [e, h]
  refine ⟨_, 1, rfl, Nat.le_refl _, Nat.le_refl _, ?_, hB.alloc hB.size _⟩
  have := Rd.cells w' #[.int .i64 (base + k - 1), .int .i64 (vkind k), .int .u64 n, .string s] t
  rw [World.size_alloc]
  exact this

set_option maxRecDepth 100000 in
set_option maxHeartbeats 1000000 in
theorem vput_any (k : Int) (n : Nat) (s : ByteArray) (base : Int) (raw : Bool) (hb0 : -9223372036854775808 ≤ base) (hb1 : base ≤ 9223372036854775807) (w : World) (hK : Kinds w) :
    Calls Tryd.prog 81 #[.agg #[.int .i64 k, .int .u64 n, .string s], .int .i64 base, .bool raw] w fun e w' => PutPost k n s base raw w e w' := by
  by_cases hb : 1 ≤ base ∧ base ≤ 1000
  · have hbd : decide (1 ≤ base ∧ base ≤ 1000) = true := by simpa using hb
    have hv : verr k n s.toList.isEmpty base raw = (if vright k n s.toList.isEmpty = 0 then (if k = 7 ∧ raw = false then 11 else 0) else vright k n s.toList.isEmpty) := by unfold verr; rw [if_pos hb]
    have HV := Lib.hid hv
    clear hv
    go_enter Tryd.func81, Tryd.ntmps81
    go_wp2_with (go_at_call 99; refine (based_any _ _).mono ?_; rintro e w1 ⟨rfl, rfl⟩)
    refine (right_any _ _ _ _).mono ?_
    rintro e w1 ⟨rfl, hB1⟩
    obtain ⟨c0, c1, c2, hB⟩ := boxV1 hB1
    have hK1 := hK.below hB hK.pos
    clear hB1
    by_cases hr : vright k n s.toList.isEmpty = 0
    · have hkb := vright_bd hr
      have HR := Lib.hid hr
      rw [hr]
      clear hr
      by_cases hk0 : k = 0
      · subst hk0
        go_wp2_with fail
        go_ret2
        exact putPost_none (by rw [HV.out, if_pos HR.out]; simp) (.inr rfl) hB
      by_cases hk7 : k = 7 ∧ raw = false
      · obtain ⟨rfl, rfl⟩ := hk7
        go_wp2_with fail
        go_ret2
        exact putPost_none (by rw [HV.out, if_pos HR.out]; simp) (.inl (by omega)) hB
      have hend : ∀ w' : World, Below w.heap.size w w' → PutPost k n s base raw w (.returned (.tuple #[.slice (some ⟨w'.heap.size, 0, none⟩) 1 1, .int .i64 0])) (w'.alloc (.cells #[.int .i64 (base + k - 1), .int .i64 (vkind k), .int .u64 n, .string s] 64)) :=
        fun w' h => putPost_one (by rw [HV.out, if_pos HR.out, if_neg hk7]) hk0 h _
      have hk0' : (k == 0) = false := by simpa using hk0
      have hKk : w1.cell? ⟨0, k.toNat, none⟩ = some (.int .i64 (vkind k)) := by
        have := hK1 k.toNat (by omega)
        rwa [show ((k.toNat : Nat) : Int) = k by omega] at this
      have hw1 : IntKind.i64.wrap (base + k) = base + k := by simp only [IntKind.wrap_i64]; omega
      have hw2 : IntKind.i64.wrap (base + k - 1) = base + k - 1 := by simp only [IntKind.wrap_i64]; omega
      obtain ⟨hb10, hb11⟩ := hb
      obtain ⟨hkb0, hkb1⟩ := hkb
      have HE := Lib.hid hend
      have hB5 : Below w.heap.size w w1.drew := hB.drew
      have hk8 : k < 8 := by omega
      by_cases hk7' : k = 7
      · have b7 : (k == 7) = true := by simpa using hk7'
        obtain rfl : raw = true := by cases raw <;> simp_all
        clear hend hk7 hk0 hK1 hk7'
        go_wp2_with fail
        go_still_tail 14, (by kernel_rfl)
        change wpList _ _ _ _ _ w1.drew
        generalize w1.drew = w5 at *
        go_wp2_with fail
        go_ret2
        exact HE.out _ hB5
      · have b7 : (k == 7) = false := by simpa using hk7'
        clear hend hk7 hk0 hK1 hk7'
        go_wp2_with fail
        go_still_tail 14, (by kernel_rfl)
        change wpList _ _ _ _ _ w1.drew
        generalize w1.drew = w5 at *
        go_wp2_with fail
        go_ret2
        exact HE.out _ hB5
    · have hr' : (vright k n s.toList.isEmpty != 0) = true := by simpa using hr
      have HR := Lib.hid hr
      clear hr
      go_wp2_with fail
      go_ret2
      exact putPost_none (by rw [HV.out, if_neg HR.out]) (.inl HR.out) hB
  · have hbd : decide (1 ≤ base ∧ base ≤ 1000) = false := by simpa using hb
    have hv : verr k n s.toList.isEmpty base raw = 1 := by unfold verr; rw [if_neg hb]
    have HV := Lib.hid hv
    clear hv hb
    go_enter Tryd.func81, Tryd.ntmps81
    go_wp2_with (go_at_call 99; refine (based_any _ _).mono ?_; rintro e w1 ⟨rfl, rfl⟩)
    go_ret2
    exact putPost_none HV.out (.inl (by omega)) ((Below.refl _ _).alloc (Nat.le_refl _) _)
end Go.Proofs.YtanfnjlndckhkaaDoor

/- A REGION THAT DRAWS ITS ORDER, WHOSE OPERATIONS ONLY READ, OR MAKE NEW MEMORY: it may be walked in the order of the text. After the base's law on loads that are taken first, with 'memory has only grown' in the place of one condition for the whole region. -/
namespace Go.Proofs.YtanfnjlndckhkaaDoor
open Go Go.RowKit

/-- memory has only grown -/
def Grows (w w' : World) : Prop := Below w.heap.size w w'
theorem Grows.refl (w : World) : Grows w w := Below.refl _ _
theorem Grows.trans {a b c : World} (h : Grows a b) (k : Grows b c) : Grows a c := bel_step h k

section
variable {P : Program} {ops : Array Oper} {Q : Exit → Act → World → Prop} {md : Region.Mode}

/-- Whatever order is picked from here on; memory only grows. -/
def wpAnyM (P : Program) (md : Region.Mode) (ops : Array Oper) (Q : Exit → Act → World → Prop) : Nat → Array Bool → Act → World → Prop
  | 0, listed, a, w => Region.ready md ops listed = [] ∧ Q .normal a w
  | fuel + 1, listed, a, w =>
    (Region.ready md ops listed = [] → Q .normal a w) ∧
    ∀ i ∈ Region.ready md ops listed, wpOp P ops Q i (fun a' w' => Grows w w' ∧ wpAnyM P md ops Q fuel (listed.setIfInBounds i true) a' w') a w

theorem wpAny_of_M : ∀ (fuel : Nat) (listed : Array Bool) (a : Act) (w : World), wpAnyM P md ops Q fuel listed a w → wpAny P md ops Q fuel listed a w
  | 0, _, _, _, h => h
  | fuel + 1, _, _, _, h => ⟨h.1, fun i hi => wpOp_mono (fun a' w' h' => wpAny_of_M fuel _ a' w' h'.2) (h.2 i hi)⟩

theorem yields_grows {o : Oper} {v : Value} {a : Act} {w w' : World} (h : YieldsIf P ops (Grows w) o v a) (hg : Grows w w') : YieldsIf P ops (Grows w') o v a :=
  h.imp (fun ⟨h1, h2⟩ => ⟨h1, fun u hu => h2 u (hg.trans hu)⟩) id

theorem wpAnyM_first {i : Nat} {oi : Oper} {v : Value} (hi : ops[i]? = some oi) (hsel : ∀ (j : Nat) (o : Oper) cs b, ops[j]? = some o → o.op ≠ .select cs b)
    (hQ : ∀ c a w, Q (.panic c) (a.put oi.dst v) w → Q (.panic c) a w) :
    ∀ (fuel : Nat) (listed : Array Bool) (a : Act) (w : World),
      (∀ j oj, ops[j]? = some oj → j ≠ i → listed.getD j true = false → (∀ e ∈ oj.after, Region.binds md e = true → e.on ≠ i) → oi.apart ops oj = true) →
      i ∈ Region.ready md ops listed → YieldsIf P ops (Grows w) oi v a →
      wpAnyM P md ops Q fuel (listed.setIfInBounds i true) (a.put oi.dst v) w → wpAnyM P md ops Q (fuel + 1) listed a w := by
  intro fuel
  induction fuel with
  | zero =>
    intro listed a w _ hr hy H
    refine ⟨fun h => (by rw [h] at hr; cases hr), fun j hj => ?_⟩
    by_cases hji : j = i
    · subst hji; exact hy.wpOp hi (Grows.refl w) ⟨Grows.refl w, H⟩
    · have := ready_mono hj hji
      rw [H.1] at this
      cases this
  | succ fuel ih =>
    intro listed a w hfree hr hy H
    refine ⟨fun h => (by rw [h] at hr; cases hr), fun j hj => ?_⟩
    by_cases hji : j = i
    · subst hji; exact hy.wpOp hi (Grows.refl w) ⟨Grows.refl w, H⟩
    · have h1 := H.2 j (ready_mono hj hji)
      obtain ⟨hjun, oj, hoj, hall⟩ := mem_ready.1 hj
      have hnot : ∀ e ∈ oj.after, Region.binds md e = true → e.on ≠ i := fun e he hb heq => by
        have h1 := hall e he hb
        have h0 := (mem_ready.1 hr).1
        rw [heq] at h1
        rcases Nat.lt_or_ge i listed.size with h' | h'
        · simp [h'] at h0 h1; rw [h0] at h1; cases h1
        · simp [Array.getElem?_eq_none h'] at h1
      have h2 := wpOp_putIf hoj (hfree j oj hoj hji hjun hnot) (fun cs b => hsel i oi cs b hi) (fun cs b => hsel j oj cs b hoj) hQ hy h1
      have hfree' : ∀ k ok, ops[k]? = some ok → k ≠ i → (listed.setIfInBounds j true).getD k true = false →
          (∀ e ∈ ok.after, Region.binds md e = true → e.on ≠ i) → oi.apart ops ok = true := fun k ok hk hki hun hno => by
        refine hfree k ok hk hki ?_ hno
        by_cases hjk : j = k
        · subst hjk; exact hjun
        · rw [getD_set_ne true hjk] at hun; exact hun
      refine wpOp_mono (fun a' w' h3 => ⟨h3.2.1, ih (listed.setIfInBounds j true) a' w' hfree' (ready_mono hr (Ne.symm hji)) (yields_grows h3.1 h3.2.1) ?_⟩) h2
      rw [Array.setIfInBounds_comm _ _ hji]
      exact h3.2.2

/-! the walk: the operations that are still to come, each with its number, in whatever order suits -/
def left (n : Nat) (rest : List (Nat × Oper)) : Array Bool := ((List.range n).map fun i => !(rest.map (·.1)).contains i).toArray
def wpL (P : Program) (ops : Array Oper) (Q : Exit → Act → World → Prop) (n m : Nat) (rest : List (Nat × Oper)) (a : Act) (w : World) : Prop :=
  (∀ p ∈ rest, ops[p.1]? = some p.2) → (rest.map (·.1)).Nodup → ops.size = n → wpAnyM P .any ops Q m (left n rest) a w

theorem left_set {n k : Nat} {o : Oper} {rest : List (Nat × Oper)} (hn : (((k, o) :: rest).map (·.1)).Nodup) : (left n ((k, o) :: rest)).setIfInBounds k true = left n rest := by
  apply Array.ext'
  rw [Array.toList_setIfInBounds]
  simp only [left]
  apply List.ext_getElem?
  intro j
  have hk : k ∉ rest.map (·.1) := (List.nodup_cons.1 (by rw [List.map_cons] at hn; exact hn)).1
  by_cases hj : j < n
  · by_cases hjk : k = j
    · subst hjk
      rw [List.getElem?_set_self (by simpa using hj), List.getElem?_map, List.getElem?_range hj, Option.map_some]
      have : (rest.map (·.1)).contains k = false := by
        rw [Bool.eq_false_iff]; intro h; exact hk (List.contains_iff_mem.1 h)
      rw [this]; rfl
    · rw [List.getElem?_set_ne hjk]
      simp only [List.getElem?_map, List.getElem?_range hj, Option.map_some, List.map_cons, List.contains_cons]
      have : (j == k) = false := by simp; omega
      rw [this, Bool.false_or]
  · simp [hj]

theorem wp_region_L {id : Nat} {l : List Oper} {a : Act} {w : World} (n : Nat) (perm : List Nat) (hn : l.length = n) (hp : perm.Nodup) (hall : ((List.range n).all fun i => perm.contains i) = true) (hm : P.follows .mixedOrders = true)
    (h : wpL P l.toArray Q n n (perm.filterMap fun i => (l[i]?).map fun o => (i, o)) a w.drew) : (Code.region id l.toArray true).wp P Q a w := by
  subst hn
  refine wp_region_any hm (wpAny_of_M _ _ _ _ ?_)
  have hfst : ∀ (q : List Nat), ∀ x ∈ (q.filterMap fun i => (l[i]?).map fun o => (i, o)).map (·.1), x ∈ q := by
    intro q x hx
    simp only [List.mem_map, List.mem_filterMap] at hx
    obtain ⟨p, ⟨i, hi, hip⟩, rfl⟩ := hx
    obtain ⟨o, _, rfl⟩ := Option.map_eq_some_iff.1 hip
    exact hi
  have hnd : ∀ (q : List Nat), q.Nodup → ((q.filterMap fun i => (l[i]?).map fun o => (i, o)).map (·.1)).Nodup := by
    intro q
    induction q with
    | nil => intro _; simp
    | cons x q ih =>
      intro hq
      obtain ⟨h1, h2⟩ := List.nodup_cons.1 hq
      rw [List.filterMap_cons]
      cases hx : (l[x]?).map fun o => (x, o) with
      | none => exact ih h2
      | some p =>
        obtain ⟨o, _, rfl⟩ := Option.map_eq_some_iff.1 hx
        rw [List.map_cons, List.nodup_cons]
        exact ⟨fun hm => h1 (hfst q _ hm), ih h2⟩
  have e : Array.replicate l.toArray.size false = left l.length (perm.filterMap fun i => (l[i]?).map fun o => (i, o)) := by
    apply Array.ext'
    simp only [left, Array.toList_replicate, List.size_toArray]
    apply List.ext_getElem?
    intro j
    by_cases hj : j < l.length
    · have hjp : j ∈ perm := by
        have := List.all_eq_true.1 hall j (List.mem_range.2 hj)
        simpa using this
      have hmem : j ∈ (perm.filterMap fun i => (l[i]?).map fun o => (i, o)).map (·.1) := by
        simp only [List.mem_map, List.mem_filterMap]
        exact ⟨(j, l[j]), ⟨j, hjp, by rw [List.getElem?_eq_getElem hj]; rfl⟩, rfl⟩
      simp only [List.getElem?_replicate, hj, if_true, List.getElem?_map, List.getElem?_range hj, Option.map_some]
      rw [List.contains_iff_mem.2 hmem]
      rfl
    · simp [hj]
  rw [e]
  have := h ?_ (hnd perm hp) (by simp)
  · simpa using this
  · intro p hp
    obtain ⟨i, _, hip⟩ := List.mem_filterMap.1 hp
    obtain ⟨o, ho, rfl⟩ := Option.map_eq_some_iff.1 hip
    simpa using ho

/-- the next one yields its value and does nothing else, now and whatever grows; it is taken next -/
theorem wpL_take {n k m : Nat} {oi : Oper} {rest : List (Nat × Oper)} {v : Value} {a : Act} {w : World}
    (hs : Region.noSelect ops = true) (hf : Region.free .any ops (left n ((k, oi) :: rest)) k = true) (hr : (Region.ready .any ops (left n ((k, oi) :: rest))).contains k = true)
    (hQ : ∀ c a w, Q (.panic c) (a.put oi.dst v) w → Q (.panic c) a w) (hw : Region.wanted oi (yielded ops a.tmps) = true) (hy : ∀ u, Grows w u → (execOp a.eval oi).run P u = .ok (.value v) u)
    (h : wpL P ops Q n m rest (a.put oi.dst v) w) : wpL P ops Q n (m + 1) ((k, oi) :: rest) a w := fun hd hnd hn => by
  have hi : ops[k]? = some oi := hd (k, oi) (by simp)
  refine wpAnyM_first hi (Region.noSelect_spec hs) hQ m _ a w (Region.free_spec hi hf) (by simpa using hr) (.inl ⟨hw, hy⟩) ?_
  rw [left_set hnd]
  exact h (fun p hp => hd p (by simp [hp])) (List.nodup_cons.1 (by rw [List.map_cons] at hnd; exact hnd)).2 hn
/-- it is not wanted -/
theorem wpL_pass {n k m : Nat} {oi : Oper} {rest : List (Nat × Oper)} {a : Act} {w : World}
    (hs : Region.noSelect ops = true) (hf : Region.free .any ops (left n ((k, oi) :: rest)) k = true) (hr : (Region.ready .any ops (left n ((k, oi) :: rest))).contains k = true)
    (hQ : ∀ c a w, Q (.panic c) (a.put oi.dst undef) w → Q (.panic c) a w) (hw : Region.wanted oi (yielded ops a.tmps) = false)
    (h : wpL P ops Q n m rest (a.put oi.dst undef) w) : wpL P ops Q n (m + 1) ((k, oi) :: rest) a w := fun hd hnd hn => by
  have hi : ops[k]? = some oi := hd (k, oi) (by simp)
  refine wpAnyM_first hi (Region.noSelect_spec hs) hQ m _ a w (Region.free_spec hi hf) (by simpa using hr) (.inr ⟨hw, rfl⟩) ?_
  rw [left_set hnd]
  exact h (fun p hp => hd p (by simp [hp])) (List.nodup_cons.1 (by rw [List.map_cons] at hnd; exact hnd)).2 hn
/-- no other may come up: it is carried out -/
theorem wpL_do {n k m : Nat} {oi : Oper} {rest : List (Nat × Oper)} {a : Act} {w : World} (hr : Region.ready .any ops (left n ((k, oi) :: rest)) = [k]) (hw : Region.wanted oi (yielded ops a.tmps) = true)
    (h : ∀ K : Act → World → Prop, (∀ a' w', Grows w w' → wpL P ops Q n m rest a' w' → K a' w') → Oper.wp P oi a w K Q) : wpL P ops Q n (m + 1) ((k, oi) :: rest) a w := fun hd hnd hn => by
  have hi : ops[k]? = some oi := hd (k, oi) (by simp)
  refine ⟨fun h0 => (by rw [h0] at hr; cases hr), fun j hj => ?_⟩
  rw [hr] at hj
  obtain rfl : j = k := by simpa using hj
  refine wpOp_step hi (fun K' hK => ?_)
  rw [if_pos hw]
  refine h K' (fun a' w' hg hL => hK a' w' ⟨hg, ?_⟩)
  rw [left_set hnd]
  exact hL (fun p hp => hd p (by simp [hp])) (List.nodup_cons.1 (by rw [List.map_cons] at hnd; exact hnd)).2 hn
theorem wpL_done {n m : Nat} {a : Act} {w : World} (hr : Region.ready .any ops (left n []) = []) (h : Q .normal a w) : wpL P ops Q n m [] a w := fun _ _ _ => by
  cases m with
  | zero => exact ⟨hr, h⟩
  | succ m => exact ⟨fun _ => h, by rw [hr]; simp⟩
end
end Go.Proofs.YtanfnjlndckhkaaDoor

/- WALKS: the reference's Put of values. -/
namespace Go.Proofs.YtanfnjlndckhkaaDoor
open Go.RowKit Plain

theorem boxU {w w1 : World} {k : Int} {n : Nat} {s : ByteArray} (c0 : w1.cell? ⟨w.heap.size, 0, none⟩ = some (.int .i64 k)) (c1 : w1.cell? ⟨w.heap.size, 1, none⟩ = some (.int .u64 n)) (c2 : w1.cell? ⟨w.heap.size, 2, none⟩ = some (.string s)) :
    (∀ u, Below w1.drew.heap.size w1.drew u → u.cell? ⟨w.heap.size, 0, none⟩ = some (.int .i64 k)) ∧ (∀ u, Below w1.drew.heap.size w1.drew u → u.cell? ⟨w.heap.size, 1, none⟩ = some (.int .u64 n)) ∧ (∀ u, Below w1.drew.heap.size w1.drew u → u.cell? ⟨w.heap.size, 2, none⟩ = some (.string s)) :=
  ⟨fun _ h => (h.cell (World.block_lt_of_cell? w1 _ c0)).trans c0, fun _ h => (h.cell (World.block_lt_of_cell? w1 _ c1)).trans c1, fun _ h => (h.cell (World.block_lt_of_cell? w1 _ c2)).trans c2⟩
set_option maxHeartbeats 1000000 in
theorem rvalput_any (k : Int) (n : Nat) (s : ByteArray) (base : Int) (raw : Bool) (hn : n < 18446744073709551616) (w : World) :
    Calls Tryd.prog 60 #[.agg #[.int .i64 k, .int .u64 n, .string s], .int .i64 base, .bool raw] w fun e w' => PutPost k n s base raw w e w' := by
  by_cases hb : 1 ≤ base ∧ base ≤ 1000
  · have hv : verr k n s.toList.isEmpty base raw = (if vright k n s.toList.isEmpty = 0 then (if k = 7 ∧ raw = false then 11 else 0) else vright k n s.toList.isEmpty) := by unfold verr; rw [if_pos hb]
    have HV := Lib.hid hv
    obtain ⟨hb10, hb11⟩ := hb
    clear hv
    go_enter Tryd.func60, Tryd.ntmps60
    go_wp2_with fail
    refine (rright_any _ _ _ hn _).mono ?_
    rintro e w1 ⟨rfl, hB1⟩
    obtain ⟨c0, c1, c2, hB⟩ := boxV1 hB1
    clear hB1
    by_cases hr : vright k n s.toList.isEmpty = 0
    · have hkb := vright_bd hr
      have HR := Lib.hid hr
      rw [hr]
      clear hr
      by_cases hk7 : k = 7 ∧ raw = false
      · obtain ⟨rfl, rfl⟩ := hk7
        go_wp2_with fail
        go_ret2
        exact putPost_none (by rw [HV.out, if_pos HR.out]; simp) (.inl (by omega)) hB
      by_cases hk0 : k = 0
      · subst hk0
        go_wp2_with fail
        go_ret2
        exact putPost_none (by rw [HV.out, if_pos HR.out]; simp) (.inr rfl) hB
      have hend : ∀ w' : World, Below w.heap.size w w' → PutPost k n s base raw w (.returned (.tuple #[.slice (some ⟨w'.heap.size, 0, none⟩) 1 1, .int .i64 0])) (w'.alloc (.cells #[.int .i64 (base + k - 1), .int .i64 (vkind k), .int .u64 n, .string s] 64)) :=
        fun w' h => putPost_one (by rw [HV.out, if_pos HR.out, if_neg hk7]) hk0 h _
      have hk0' : (k == 0) = false := by simpa using hk0
      have hw1 : IntKind.i64.wrap (base + k) = base + k := by simp only [IntKind.wrap_i64]; omega
      have hw2 : IntKind.i64.wrap (base + k - 1) = base + k - 1 := by simp only [IntKind.wrap_i64]; omega
      obtain ⟨hkb0, hkb1⟩ := hkb
      have HE := Lib.hid hend
      have hB5 : Below w.heap.size w w1.drew := hB.drew
      by_cases hk7' : k = 7
      · have b7 : (k == 7) = true := by simpa using hk7'
        obtain rfl : raw = true := by cases raw <;> simp_all
        clear hend hk7 hk0 hk7'
        go_wp2_with fail
        obtain ⟨d0, d1, d2⟩ := boxU c0 c1 c2
        clear c0 c1 c2
        refine wp_region_L 16 [0, 1, 2, 3, 4, 5, 6, 8, 9, 10, 11, 7, 12, 13, 14, 15] rfl (by decide) (by decide) (by kernel_rfl) ?_
        generalize w1.drew = w5 at *
        clear hB
        simp only [List.filterMap_cons, List.filterMap_nil, List.getElem?_cons_zero, List.getElem?_cons_succ, Option.map_some]
        repeat (first
          | (refine wpL_take (v := ?_) (by kernel_rfl) (by kernel_rfl) (by kernel_rfl) (fun _ _ _ h => h) (by rfl) (fun u hu => ?_) ?_
             rotate_left
             focus
               unfold Grows at hu
               go_simp
               try with_reducible rfl
             simp only [Act.put, List.setIfInBounds_toArray, List.set_cons_zero, List.set_cons_succ])
          | (refine wpL_pass (by kernel_rfl) (by kernel_rfl) (by kernel_rfl) (fun _ _ _ h => h) (by rfl) ?_; simp only [Act.put, List.setIfInBounds_toArray, List.set_cons_zero, List.set_cons_succ])
          | (refine wpL_do (by kernel_rfl) (by rfl) (fun K hK => ?_); go_simp; go_at_call 87; refine (kind_any _ _).mono ?_; rintro e w2 ⟨rfl, rfl⟩; refine hK _ _ (Below.refl _ _) ?_; clear hK K)
          | (refine wpL_do (by kernel_rfl) (by rfl) (fun K hK => ?_); go_simp; refine hK _ _ ((Below.refl _ _).alloc (Nat.le_refl _) _) ?_; clear hK K))
        refine wpL_done (by kernel_rfl) ?_
        go_wp2_with fail
        go_ret2
        exact HE.out _ hB5
      · have b7 : (k == 7) = false := by simpa using hk7'
        clear hend hk7 hk0 hk7'
        go_wp2_with fail
        obtain ⟨d0, d1, d2⟩ := boxU c0 c1 c2
        clear c0 c1 c2
        refine wp_region_L 16 [0, 1, 2, 3, 4, 5, 6, 8, 9, 10, 11, 7, 12, 13, 14, 15] rfl (by decide) (by decide) (by kernel_rfl) ?_
        generalize w1.drew = w5 at *
        clear hB
        simp only [List.filterMap_cons, List.filterMap_nil, List.getElem?_cons_zero, List.getElem?_cons_succ, Option.map_some]
        repeat (first
          | (refine wpL_take (v := ?_) (by kernel_rfl) (by kernel_rfl) (by kernel_rfl) (fun _ _ _ h => h) (by rfl) (fun u hu => ?_) ?_
             rotate_left
             focus
               unfold Grows at hu
               go_simp
               try with_reducible rfl
             simp only [Act.put, List.setIfInBounds_toArray, List.set_cons_zero, List.set_cons_succ])
          | (refine wpL_pass (by kernel_rfl) (by kernel_rfl) (by kernel_rfl) (fun _ _ _ h => h) (by rfl) ?_; simp only [Act.put, List.setIfInBounds_toArray, List.set_cons_zero, List.set_cons_succ])
          | (refine wpL_do (by kernel_rfl) (by rfl) (fun K hK => ?_); go_simp; go_at_call 87; refine (kind_any _ _).mono ?_; rintro e w2 ⟨rfl, rfl⟩; refine hK _ _ (Below.refl _ _) ?_; clear hK K)
          | (refine wpL_do (by kernel_rfl) (by rfl) (fun K hK => ?_); go_simp; refine hK _ _ ((Below.refl _ _).alloc (Nat.le_refl _) _) ?_; clear hK K))
        refine wpL_done (by kernel_rfl) ?_
        go_wp2_with fail
        go_ret2
        exact HE.out _ hB5
    · have hr' : (vright k n s.toList.isEmpty != 0) = true := by simpa using hr
      have HR := Lib.hid hr
      clear hr
      go_wp2_with fail
      go_ret2
      exact putPost_none (by rw [HV.out, if_neg HR.out]) (.inl HR.out) hB
  · have hv : verr k n s.toList.isEmpty base raw = 1 := by unfold verr; rw [if_neg hb]
    have HV := Lib.hid hv
    clear hv
    have hB2 : Below w.heap.size w (w.alloc (Obj.cells #[Value.int IntKind.i64 k, Value.int IntKind.u64 n, Value.string s] 42)) := (Below.refl _ _).alloc (Nat.le_refl _) _
    by_cases h1 : base < 1
    · clear hb
      go_enter Tryd.func60, Tryd.ntmps60
      go_wp2_with fail
      go_ret2
      exact putPost_none HV.out (.inl (by omega)) hB2
    · have h2 : 1000 < base := by omega
      clear hb
      go_enter Tryd.func60, Tryd.ntmps60
      go_wp2_with fail
      go_ret2
      exact putPost_none HV.out (.inl (by omega)) hB2
end Go.Proofs.YtanfnjlndckhkaaDoor

/- WALKS: value.Of -/
namespace Go.Proofs.YtanfnjlndckhkaaDoor
open Go.RowKit Plain

/-- the kind of value that a field's number tells -/
def vkof (num base : Int) (raw : Bool) : Int := if 1 ≤ num - base + 1 ∧ num - base + 1 ≤ 7 ∧ (num - base + 1 = 7 → raw = true) then num - base + 1 else 0
structure VV where
  k : Int
  n : Nat
  s : ByteArray
def VV.zero : VV := ⟨0, 0, ⟨#[]⟩⟩
def VV.cells (v : VV) : Array Value := #[.int .i64 v.k, .int .u64 v.n, .string v.s]
/-- what fields tell: behind acc -/
def vofs (base : Int) (raw : Bool) : List Fld → VV → VV × Int
  | [], acc => (acc, 0)
  | f :: l, acc =>
    if vkof f.num base raw = 0 then vofs base raw l acc
    else if ¬ f.kind = vkind (vkof f.num base raw) then (VV.zero, 4)
    else if vgreat (vkof f.num base raw) f.val = true then (VV.zero, 5)
    else vofs base raw l ⟨vkof f.num base raw, f.val, f.text⟩
def vof (base : Int) (raw : Bool) (l : List Fld) : VV × Int := if 1 ≤ base ∧ base ≤ 1000 then vofs base raw l VV.zero else (VV.zero, 1)

theorem wrap_kof {num base : Int} (h0 : -9223372036854775808 ≤ num) (h1 : num ≤ 9223372036854775807) (hb0 : 1 ≤ base) (hb1 : base ≤ 1000) :
    (1 ≤ num - base + 1 ∧ num - base + 1 ≤ 7 → wrap64 (wrap64 (num - base) + 1) = num - base + 1) ∧ (num - base + 1 < 1 ∨ 7 < num - base + 1 → wrap64 (wrap64 (num - base) + 1) < 1 ∨ 7 < wrap64 (wrap64 (num - base) + 1)) := by
  unfold wrap64
  omega
set_option maxHeartbeats 1000000 in
theorem kindOf_any (num base : Int) (raw : Bool) (h0 : -9223372036854775808 ≤ num) (h1 : num ≤ 9223372036854775807) (hb0 : 1 ≤ base) (hb1 : base ≤ 1000) (w : World) :
    Calls Tryd.prog 100 #[.int .i64 num, .int .i64 base, .bool raw] w fun e w' => e = .returned (.int .i64 (vkof num base raw)) ∧ w = w' := by
  have hw := wrap_kof h0 h1 hb0 hb1
  obtain ⟨V, hV⟩ : ∃ V, vkof num base raw = V := ⟨_, rfl⟩
  rw [hV]
  have HV := Lib.hid hV
  have HW := Lib.hid hw
  clear hV hw
  go_enter Tryd.func100, Tryd.ntmps100
  go_wp2
  all_goals go_ret
  all_goals refine ⟨congrArg (fun z => Ending.returned (.int .i64 z)) ?_, rfl⟩
  all_goals rw [← HV.out]
  all_goals (have hw := HW.out; clear HV HW; unfold vkof)
  · rw [if_neg (by omega)]
  · rw [if_neg (by omega)]
  · rw [if_neg (by rintro ⟨a, b, c⟩; have := hw.1 ⟨a, b⟩; have := c (by omega); simp_all)]
  · rw [if_pos ⟨by omega, by omega, fun _ => by simp_all⟩]; omega
  · rw [if_pos ⟨by omega, by omega, fun _ => by omega⟩]; omega
end Go.Proofs.YtanfnjlndckhkaaDoor

/- PLAIN LAW, no program in sight: numbers as septets (vput, vsize, vget), zigzag. -/
namespace Go.Proofs.YtanfnjlndckhkaaDoor.Plain

/-- the bytes of a number, at most k + 1 of them -/
def vb : Nat → Nat → List UInt8
  | 0, n => [UInt8.ofNat n]
  | k + 1, n => if n < 128 then [UInt8.ofNat n] else UInt8.ofNat (n % 128 + 128) :: vb k (n / 128)
def vput (n : Nat) : List UInt8 := vb 9 n
def vsize (n : Nat) : Nat := (vput n).length

theorem vb_more : ∀ (k n : Nat), n < 128 ^ (k + 1) → vb (k + 1) n = vb k n := by
  intro k
  induction k with
  | zero => intro n h; simp [vb]; omega
  | succ k ih =>
    intro n h
    rw [vb]
    by_cases h1 : n < 128
    · rw [if_pos h1, vb, if_pos h1]
    · rw [if_neg h1, ih _ (by rw [Nat.div_lt_iff_lt_mul (by omega)]; rw [Nat.pow_succ] at h; exact h)]
      rw [vb, if_neg h1]

theorem vput_lt {n : Nat} (h : n < 128) : vput n = [UInt8.ofNat n] := by simp [vput, vb, h]
theorem vput_ge {n : Nat} (h : ¬ n < 128) (hn : n < 18446744073709551616) : vput n = UInt8.ofNat (n % 128 + 128) :: vput (n / 128) := by
  show vb 9 n = _ :: vb 9 (n / 128)
  rw [vb_more 8 (n / 128) (by omega)]
  rw [vb, if_neg h]

theorem vsize_lt {n : Nat} (h : n < 128) : vsize n = 1 := by simp [vsize, vput_lt h]
theorem vsize_ge {n : Nat} (h : ¬ n < 128) (hn : n < 18446744073709551616) : vsize n = vsize (n / 128) + 1 := by
  simp [vsize, vput_ge h hn]

theorem vb_len : ∀ (k n : Nat), 1 ≤ (vb k n).length ∧ (vb k n).length ≤ k + 1 := by
  intro k
  induction k with
  | zero => intro n; simp [vb]
  | succ k ih =>
    intro n
    rw [vb]
    by_cases h1 : n < 128
    · simp [h1]
    · have := ih (n / 128); simp [h1]; omega

theorem vsize_bd (n : Nat) : 1 ≤ vsize n ∧ vsize n ≤ 10 := vb_len 9 n

theorem vb_mono : ∀ (k a b : Nat), a ≤ b → (vb k a).length ≤ (vb k b).length := by
  intro k
  induction k with
  | zero => intro a b _; simp [vb]
  | succ k ih =>
    intro a b h
    rw [vb, vb]
    by_cases h1 : b < 128
    · rw [if_pos (by omega), if_pos h1]; simp
    · by_cases h2 : a < 128
      · simp [h1, h2]
      · have := ih (a / 128) (b / 128) (Nat.div_le_div_right h); simp [h1, h2]; omega

theorem vsize_mono {a b : Nat} (h : a ≤ b) : vsize a ≤ vsize b := vb_mono 9 a b h

/-- what stands at a list's head, told as a number: value, how many bytes, error -/
def vgo : Nat → Nat → Nat → List UInt8 → Nat × Nat × Nat
  | 0, _, _, _ => (0, 0, 3)
  | _ + 1, _, _, [] => (0, 0, 2)
  | f + 1, i, v, c :: l =>
    if i = 9 ∧ 1 < c.toNat then (0, 0, 3)
    else if c.toNat < 128 then (v + c.toNat * 128 ^ i, i + 1, 0)
    else vgo f (i + 1) (v + c.toNat % 128 * 128 ^ i) l
def vget (l : List UInt8) (pos : Int) : Nat × Nat × Nat :=
  if pos < 0 ∨ (l.length : Int) < pos then (0, 0, 1)
  else if (vgo 10 0 0 (l.drop pos.toNat)).2.2 = 0 then
    ((vgo 10 0 0 (l.drop pos.toNat)).1, pos.toNat + (vgo 10 0 0 (l.drop pos.toNat)).2.1, 0)
  else (0, 0, (vgo 10 0 0 (l.drop pos.toNat)).2.2)

end Go.Proofs.YtanfnjlndckhkaaDoor.Plain

/- PLAIN LAW: numbers of fixed width, the lowest byte first; a list turned. -/
namespace Go.Proofs.YtanfnjlndckhkaaDoor.Plain

def leB (n j : Nat) : UInt8 := UInt8.ofNat (n / 256 ^ j)
/-- the k lowest bytes -/
def le (k n : Nat) : List UInt8 := (List.range k).map (leB n)
/-- the number of bytes -/
def un : List UInt8 → Nat
  | [] => 0
  | c :: l => c.toNat + 256 * un l
/-- what has been laid after j of k rounds -/
def leTo (k j n : Nat) : List UInt8 := (List.range j).map (leB n) ++ List.replicate (k - j) 0

theorem le_length (k n : Nat) : (le k n).length = k := by simp [le]
theorem leTo_length {k j : Nat} (n : Nat) (h : j ≤ k) : (leTo k j n).length = k := by simp [leTo]; omega
theorem leTo_zero (k n : Nat) : leTo k 0 n = List.replicate k 0 := by simp [leTo]
theorem leTo_end (k n : Nat) : leTo k k n = le k n := by simp [leTo, le]
theorem leTo_set {k j : Nat} (n : Nat) (h : j < k) : (leTo k j n).set j (leB n j) = leTo k (j + 1) n := by
  unfold leTo
  rw [List.set_append_right _ _ (by simp), List.range_succ, List.map_append, List.append_assoc]
  have e : k - j = (k - (j + 1)) + 1 := by omega
  rw [e, List.replicate_succ]
  simp

theorem le_succ (k n : Nat) : le (k + 1) n = UInt8.ofNat n :: le k (n / 256) := by
  unfold le
  rw [List.range_succ_eq_map, List.map_cons, List.map_map]
  congr 1
  · simp [leB]
  · apply List.map_congr_left
    intro j _
    simp [leB, Nat.pow_succ', Nat.div_div_eq_div_mul]

theorem un_le : ∀ (k n : Nat), n < 256 ^ k → un (le k n) = n := by
  intro k
  induction k with
  | zero => intro n h; simp at h; subst h; rfl
  | succ k ih =>
    intro n h
    rw [le_succ, un, ih (n / 256) (by rw [Nat.div_lt_iff_lt_mul (by omega)]; rw [Nat.pow_succ] at h; exact h)]
    simp only [UInt8.toNat_ofNat']
    omega
theorem un_lt : ∀ (l : List UInt8), un l < 256 ^ l.length := by
  intro l
  induction l with
  | nil => simp [un]
  | cons c l ih =>
    have hc := c.toNat_lt
    rw [un, List.length_cons, Nat.pow_succ]
    omega
theorem un_append : ∀ (l m : List UInt8), un (l ++ m) = un l + 256 ^ l.length * un m := by
  intro l m
  induction l with
  | nil => simp [un]
  | cons c l ih =>
    rw [List.cons_append, un, ih, un, List.length_cons, Nat.pow_succ, Nat.mul_add, Nat.mul_comm (256 ^ l.length) 256, Nat.mul_assoc, Nat.add_assoc]

/-- so many bytes at a place, told as a number -/
def fget (width : Nat) (l : List UInt8) (pos : Int) : Nat × Nat × Nat :=
  if pos < 0 ∨ (l.length : Int) < pos then (0, 0, 1)
  else if (l.length : Int) - pos < width then (0, 0, 2)
  else (un ((l.drop pos.toNat).take width), pos.toNat + width, 0)

end Go.Proofs.YtanfnjlndckhkaaDoor.Plain

/- PLAIN LAW: fields as bytes; why a field may not be. -/
namespace Go.Proofs.YtanfnjlndckhkaaDoor.Plain

/-- why a field may not be; e: its text is empty -/
def wwrong (num kind val : Int) (e : Bool) : Int :=
  if num < 1 ∨ 536870912 ≤ num then 5 else if ¬ (kind = 0 ∨ kind = 1 ∨ kind = 2 ∨ kind = 5) then 11
  else if ¬ kind = 2 ∧ e = false ∨ kind = 2 ∧ ¬ val = 0 then 4 else if kind = 5 ∧ 4294967296 ≤ val then 5 else 0
end Go.Proofs.YtanfnjlndckhkaaDoor.Plain

/- WALKS: wire's small functions. -/
namespace Go.Proofs.YtanfnjlndckhkaaDoor
open Go.RowKit Plain

def wlaid (kind : Int) : Bool := kind == 0 || kind == 1 || kind == 2 || kind == 5
theorem laid_any (kind : Int) (w : World) : Calls Tryd.prog 82 #[.int .i64 kind] w fun e w' => e = .returned (.bool (wlaid kind)) ∧ w = w' := by
  by_cases h0 : kind = 0
  · subst h0; go_enter Tryd.func82, Tryd.ntmps82
    go_wp2
    go_ret
    exact ⟨rfl, rfl⟩
  by_cases h1 : kind = 1
  · subst h1; go_enter Tryd.func82, Tryd.ntmps82
    go_wp2
    go_ret
    exact ⟨rfl, rfl⟩
  by_cases h2 : kind = 2
  · subst h2; go_enter Tryd.func82, Tryd.ntmps82
    go_wp2
    go_ret
    exact ⟨rfl, rfl⟩
  by_cases h5 : kind = 5
  · subst h5; go_enter Tryd.func82, Tryd.ntmps82
    go_wp2
    go_ret
    exact ⟨rfl, rfl⟩
  have b0 : (kind == 0) = false := by simpa using h0
  have b1 : (kind == 1) = false := by simpa using h1
  have b2 : (kind == 2) = false := by simpa using h2
  have b5 : (kind == 5) = false := by simpa using h5
  have e : wlaid kind = false := by unfold wlaid; rw [b0, b1, b2, b5]; rfl
  rw [e]
  clear e h0 h1 h2 h5
  go_enter Tryd.func82, Tryd.ntmps82
  go_wp2
  go_ret
  exact ⟨rfl, rfl⟩
set_option maxRecDepth 100000 in
set_option maxHeartbeats 1000000 in
theorem wwrong_any (num kind : Int) (val : Nat) (text : ByteArray) (w : World) :
    Calls Tryd.prog 58 #[.agg #[.int .i64 num, .int .i64 kind, .int .u64 val, .string text]] w fun e w' => e = .returned (.int .i64 (wwrong num kind val text.toList.isEmpty)) ∧ Below w.heap.size w w' := by
  by_cases h0 : num < 1
  · have hb : decide (num < 1) = true := by simpa using h0
    have e : wwrong num kind val text.toList.isEmpty = 5 := by unfold wwrong; rw [if_pos (.inl h0)]
    rw [e]; clear e h0
    go_enter Tryd.func58, Tryd.ntmps58
    go_wp2_with fail
    go_ret
    exact ⟨rfl, (Below.refl _ _).alloc (Nat.le_refl _) _⟩
  have hb0 : decide (num < 1) = false := by simpa using h0
  by_cases h1 : 536870912 ≤ num
  · have hb : decide (536870912 ≤ num) = true := by simpa using h1
    have e : wwrong num kind val text.toList.isEmpty = 5 := by unfold wwrong; rw [if_pos (.inr h1)]
    rw [e]; clear e h0 h1
    go_enter Tryd.func58, Tryd.ntmps58
    go_wp2_with fail
    go_ret
    exact ⟨rfl, (Below.refl _ _).alloc (Nat.le_refl _) _⟩
  have hb1 : decide (536870912 ≤ num) = false := by simpa using h1
  have e0 : wwrong num kind val text.toList.isEmpty = if ¬ (kind = 0 ∨ kind = 1 ∨ kind = 2 ∨ kind = 5) then 11
      else if ¬ kind = 2 ∧ text.toList.isEmpty = false ∨ kind = 2 ∧ ¬ (val : Int) = 0 then 4 else if kind = 5 ∧ 4294967296 ≤ (val : Int) then 5 else 0 := by unfold wwrong; rw [if_neg (by omega)]
  clear h0 h1
  by_cases hk : wlaid kind = true
  · have hk4 : kind = 0 ∨ kind = 1 ∨ kind = 2 ∨ kind = 5 := by unfold wlaid at hk; simp at hk; omega
    rw [e0, if_neg (fun h => h hk4)]
    clear e0
    by_cases h2 : kind = 2
    · subst h2
      by_cases hv : (val : Int) = 0
      · rw [if_neg (by simp [hv]), if_neg (by simp)]
        have hvb : ((val : Int) != 0) = false := by simpa using hv
        clear hk4 hv
        go_enter Tryd.func58, Tryd.ntmps58
        go_wp2_with (go_at_call 82; refine (laid_any _ _).mono ?_; rintro e w1 ⟨rfl, rfl⟩)
        all_goals go_ret
        all_goals exact ⟨rfl, (Below.refl _ _).alloc (Nat.le_refl _) _⟩
      · rw [if_pos (.inr ⟨rfl, hv⟩)]
        have hvb : ((val : Int) != 0) = true := by simpa using hv
        clear hk4 hv
        go_enter Tryd.func58, Tryd.ntmps58
        go_wp2_with (go_at_call 82; refine (laid_any _ _).mono ?_; rintro e w1 ⟨rfl, rfl⟩)
        all_goals go_ret
        all_goals exact ⟨rfl, (Below.refl _ _).alloc (Nat.le_refl _) _⟩
    · have hk2 : (kind == 2) = false := by simpa using h2
      cases ht : text.toList.isEmpty
      · rw [if_pos (.inl ⟨h2, rfl⟩)]
        clear hk4 h2
        go_enter Tryd.func58, Tryd.ntmps58
        go_wp2_with (go_at_call 82; refine (laid_any _ _).mono ?_; rintro e w1 ⟨rfl, rfl⟩)
        all_goals go_ret
        all_goals exact ⟨rfl, (Below.refl _ _).alloc (Nat.le_refl _) _⟩
      · rw [if_neg (by simp [h2])]
        by_cases h5 : kind = 5
        · subst h5
          by_cases hv : 4294967296 ≤ (val : Int)
          · rw [if_pos ⟨rfl, hv⟩]
            have hvb : decide (4294967296 ≤ (val : Int)) = true := by simpa using hv
            clear hk4 hv
            go_enter Tryd.func58, Tryd.ntmps58
            go_wp2_with (go_at_call 82; refine (laid_any _ _).mono ?_; rintro e w1 ⟨rfl, rfl⟩)
            all_goals go_ret
            all_goals exact ⟨rfl, (Below.refl _ _).alloc (Nat.le_refl _) _⟩
          · rw [if_neg (fun h => hv h.2)]
            have hvb : decide (4294967296 ≤ (val : Int)) = false := by simpa using hv
            clear hk4 hv
            go_enter Tryd.func58, Tryd.ntmps58
            go_wp2_with (go_at_call 82; refine (laid_any _ _).mono ?_; rintro e w1 ⟨rfl, rfl⟩)
            all_goals go_ret
            all_goals exact ⟨rfl, (Below.refl _ _).alloc (Nat.le_refl _) _⟩
        · have hk5 : (kind == 5) = false := by simpa using h5
          rw [if_neg (fun h => h5 h.1)]
          clear hk4 h2 h5
          go_enter Tryd.func58, Tryd.ntmps58
          go_wp2_with (go_at_call 82; refine (laid_any _ _).mono ?_; rintro e w1 ⟨rfl, rfl⟩)
          all_goals go_ret
          all_goals exact ⟨rfl, (Below.refl _ _).alloc (Nat.le_refl _) _⟩
  · have hk' : wlaid kind = false := by simpa using hk
    rw [e0, if_pos (by unfold wlaid at hk'; simp at hk'; omega)]
    clear e0 hk
    go_enter Tryd.func58, Tryd.ntmps58
    go_wp2_with (go_at_call 82; refine (laid_any _ _).mono ?_; rintro e w1 ⟨rfl, rfl⟩)
    all_goals go_ret
    all_goals exact ⟨rfl, (Below.refl _ _).alloc (Nat.le_refl _) _⟩
end Go.Proofs.YtanfnjlndckhkaaDoor

/- WALK: varint.Size returns vsize. -/
namespace Go.Proofs.YtanfnjlndckhkaaDoor
open Go.RowKit Plain

theorem vsize_step (n k m : Nat) (hm : m < 18446744073709551616) (h : vsize n = k + if m = 0 then 0 else vsize m) (h0 : ¬ m = 0) :
    vsize n = (k + 1) + if m / 128 = 0 then 0 else vsize (m / 128) := by
  rw [h, if_neg h0]
  by_cases h1 : m < 128
  · rw [vsize_lt h1, if_pos (by omega)]
  · rw [vsize_ge h1 hm, if_neg (by omega)]; omega

set_option maxHeartbeats 400000 in
theorem size_any (n : Nat) (hn : n < 18446744073709551616) (w : World) :
    Calls Tryd.prog 108 #[.int .u64 n] w fun e w' => e = .returned (.int .i64 (vsize n : Nat)) ∧ w = w' := by
  go_enter Tryd.func108, Tryd.ntmps108
  go_wp2
  go_loop [0, 3] (fun a b => ∃ m k : Nat, k ≤ 10 ∧ m < 18446744073709551616 ∧ a = .int .u64 m ∧ b = .int .i64 k ∧ vsize n = k + if m = 0 then 0 else vsize m) (fun a _ => (intOf a).toNat)
  case atStart =>
    refine ⟨n / 128, 1, by omega, by omega, by go_num, rfl, ?_⟩
    by_cases h1 : n < 128
    · rw [vsize_lt h1, if_pos (by omega)]
    · rw [vsize_ge h1 hn, if_neg (by omega)]; omega
  case round =>
    obtain ⟨m, k, hk, hm, rfl, rfl, hv⟩ := hrel
    have HV := Lib.hid hv
    clear hv
    by_cases h0 : m = 0
    · subst h0
      have e := HV.out
      simp at e
      have E := Lib.hid e
      clear e
      go_wp2
      go_ret
      exact ⟨congrArg (fun z : Nat => Ending.returned (.int .i64 (z : Int))) E.out.symm, rfl⟩
    · have h1 : ((m : Int) != 0) = true := by rw [bne_iff_ne]; omega
      have hb := vsize_bd n
      have hb2 := vsize_bd m
      have hk2 : k + 1 ≤ 10 := by have e := HV.out; rw [if_neg h0] at e; omega
      clear hb hb2
      go_wp2
      go_round
      case rel => exact ⟨m / 128, k + 1, by omega, by omega, by go_num, by go_num, vsize_step n k m hm HV.out h0⟩
      case measure => simp [intOf]; omega
end Go.Proofs.YtanfnjlndckhkaaDoor

/- WALK: varint.Put returns vput. -/
namespace Go.Proofs.YtanfnjlndckhkaaDoor
open Go.RowKit Plain

theorem elemB : Elem Tryd.prog 27 5 (.int .u8 0) 1 1 :=
  ⟨Tryd.underlying27, info_parts (show (Tryd.prog.info? 5).map (fun i => (i.zero, i.size, i.bytes)) = some (some (.int .u8 0), 1, 1) by kernel_rfl), rfl, by omega⟩

theorem bcl_snoc (acc : List UInt8) (k : Nat) (hk : k < 256) : bcl (acc ++ [UInt8.ofNat k]) = bcl acc ++ [.int .u8 (k : Int)] := by
  simp [bcl, UInt8.toNat_ofNat', Nat.mod_eq_of_lt hk]
theorem put_last {acc : List UInt8} {m n : Nat} (h : vput n = acc ++ vput m) (h0 : m < 128) : vsize n = acc.length + 1 ∧ bcl (vput n) = bcl acc ++ [.int .u8 (m : Int)] := by
  rw [vput_lt h0] at h
  exact ⟨by simp [vsize, h], by rw [h, bcl_snoc _ _ (by omega)]⟩
theorem or128 (m : Nat) : bits BinOp.or IntKind.u8 ((m : Int) % 256) 128 = ((m % 128 + 128 : Nat) : Int) := by
  have h : ∀ x : Fin 256, bits BinOp.or IntKind.u8 ((x.val : Nat) : Int) 128 = ((x.val % 128 + 128 : Nat) : Int) := by decide +kernel
  have h1 := h ⟨m % 256, Nat.mod_lt _ (by omega)⟩
  simp only at h1
  have e : m % 256 % 128 = m % 128 := by omega
  rw [e] at h1
  exact h1

set_option maxHeartbeats 400000 in
theorem put_any (n : Nat) (hn : n < 18446744073709551616) (w : World) :
    Calls Tryd.prog 83 #[.int .u64 n] w fun e w' => ∃ A c, e = .returned (.slice A (vsize n) c) ∧
      w'.ownsRow w.heap.size 5 1 (.slice A (vsize n) c) (vsize n) (bcl (vput n)) ∧ Below w.heap.size w w' := by
  obtain ⟨i0, hi, hz0, hz1, hz2⟩ := elemB.info
  have hb := vsize_bd n
  go_enter Tryd.func83, Tryd.ntmps83
  go_wp2_with (first
    | (go_at_call 108; refine (size_any n hn _).mono ?_; rintro e w' ⟨rfl, rfl⟩)
    | (at_make; refine wpList_make_own _ rfl _ _ 27 rfl w.heap.size 5 i0 (.int .u8 0) 1 elemB.ht hi hz0 hz1 .i64 .i64 _ (vsize n) rfl rfl rfl (by rw [hz2]; omega) (by unfold maxLen; omega) (Nat.le_refl _) ?_; intro w1 hown hgrow))
  have hB := (Below.refl w.heap.size w).grown hgrow (Nat.le_refl _) (fun _ h => by cases h)
  clear hgrow hz0 hz1 hz2 hi hb
  go_loopw [0, 3] (fun a v wr => ∃ (m : Nat) (acc : List UInt8) (A : Option Addr) (c : Nat), m < 18446744073709551616 ∧ a = .int .u64 m ∧ v = .slice A acc.length c ∧
      wr.ownsRow w.heap.size 5 1 (.slice A acc.length c) acc.length (bcl acc) ∧ vput n = acc ++ vput m ∧ Below w.heap.size w wr) (fun a _ _ => (intOf a).toNat)
  case atStart => exact ⟨n, [], _, _, hn, rfl, rfl, hown, rfl, hB⟩
  case round =>
    clear hown hB
    obtain ⟨m, acc, A, c, hm, rfl, rfl, hown, hv, hB⟩ := hrel
    have hlen : acc.length + (vput m).length ≤ 10 := by have e := congrArg List.length hv; rw [List.length_append] at e; have h2 := vsize_bd n; unfold vsize at h2; omega
    have hl1 : 1 ≤ (vput m).length := (vsize_bd m).1
    have HV := Lib.hid hv
    clear hv
    have hb0 := hB.size
    by_cases h0 : m < 128
    · go_wp2_with (at_builtin; go_loud (refine wpList_app1 rfl _ _ _ rfl elemB rfl hown rfl rfl (by intro u hu; simp at hu; subst hu; rfl) (by unfold maxLen; omega) (by omega) hb0 ?_); intro A1 c1 w2 hown2 hg2 _)
      go_ret
      obtain ⟨e1, e2⟩ := put_last HV.out h0
      exact ⟨A1, c1, by rw [e1]; rfl, by rw [e1, e2]; exact hown2, own_grown hB hown hb0 hg2⟩
    · go_wp2_with (at_builtin; refine wpList_app1 rfl _ _ _ rfl elemB rfl hown rfl rfl (by intro u hu; simp at hu; subst hu; rfl) (by unfold maxLen; omega) (by omega) hb0 ?_; intro A1 c1 w2 hown2 hg2 _)
      go_roundw
      case rel =>
        rw [or128] at hown2
        refine ⟨m / 128, acc ++ [UInt8.ofNat (m % 128 + 128)], A1, c1, by omega, by go_num, by simp, ?_, ?_, own_grown hB hown hb0 hg2⟩
        · rw [List.length_append, bcl_snoc _ _ (by omega)]; exact hown2
        · rw [HV.out, vput_ge h0 hm, List.append_assoc]; rfl
      case measure => simp [intOf]; omega
end Go.Proofs.YtanfnjlndckhkaaDoor

/- append onto a row of bytes of the call's own -/
namespace Go.Proofs.YtanfnjlndckhkaaDoor
open Go.RowKit

theorem own_empty (w : World) {base : Nat} (e : TypeId) {size : Nat} (hb : base ≤ w.heap.size) : (w.alloc (.cells #[] e)).ownsRow base e size (.slice (some ⟨w.heap.size, 0, none⟩) 0 0) 0 [] :=
  World.ownsRow_lit w #[] 0 hb (by simp [maxLen]) (by simp)

theorem own_emptyB (w : World) {base : Nat} (hb : base ≤ w.heap.size) : (w.alloc (.cells #[] 5)).ownsRow base 5 1 (.slice (some ⟨w.heap.size, 0, none⟩) 0 0) 0 (bcl []) := own_empty w _ hb
section
variable {w : World} {ops : Array Oper} {rest : List Oper} {o : Oper} {a : Act} {Q : Exit → Act → World → Prop}
theorem wpList_appB (hgd : o.guard = none) (s x : Operand)
    (ho : o.op = .call { callee := .builtin .append, args := #[s, x], argTypes := #[27, 27] })
    {base n c : Nat} {A : Option Addr} {l : List UInt8} (hs : a.eval s = .slice A n c)
    (hown : w.ownsRow base 5 1 (.slice A n c) n (bcl l)) {B m c2 : Nat} {A2 : Option Addr} {l2 : List UInt8} (hx : a.eval x = .slice A2 m c2) (hr : Rd w B A2 (bcl l2)) (hl : l2.length = m)
    (N : Nat) (hN : n + m = N) (hbd : N ≤ 140737488355328) (hbase : base ≤ w.heap.size)
    (h : ∀ A' c' w', w'.ownsRow base 5 1 (.slice A' N c') N (bcl (l ++ l2)) → w.grownBy w' (Value.slice A n c).ownBlock → wpList Tryd.prog ops Q rest (a.put o.dst (.slice A' N c')) w') :
    wpList Tryd.prog ops Q (o :: rest) a w := by
  subst hN
  refine wpList_app hgd s x _ ho elemB hs hown hx hr (by simp [bcl, hl]) (byte_one l2) (by unfold maxLen; omega) (by omega) hbase fun A' c' w' h1 h2 _ => h A' c' w' ?_ h2
  rw [byte_app]
  exact h1
end
end Go.Proofs.YtanfnjlndckhkaaDoor
