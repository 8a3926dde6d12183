/- Several texts in one: words, plain laws and walks that the statement's proof imports. -/
import Derived.WalkKit
import Derived.WalkSpells
import Derived.WalkLawsBesides
import Derived.Lib.Hide
import Derived.Laws.IdiomStrings
import Derived.Maps.AppendAt
import Derived.Test.YtkanhggmhjldmaaProg
import Derived.Laws.BitsAllLaws
import Derived.RangeFuncRecord
import Derived.Lib.AppendStr
import Derived.LoopTactic
import Derived.Laws.ResultCell
/- MEMORY WORDS: a slice that reads as a list of cells (nil let in), rows of the call's own, append and make in one form. No program in sight. -/
namespace Go.Proofs.Ytkanhggmhjldmaa
open Go.RowKit

/-- the slice at A reads as the cells xs; its block lies below B -/
def Rd (w : World) (B : Nat) (A : Option Addr) (xs : List Value) : Prop :=
  xs = [] ∨ ∃ b off, A = some ⟨b, off, none⟩ ∧ b < B ∧ ∀ i, i < xs.length → w.cell? ⟨b, off + i, none⟩ = xs[i]?

section
variable {w w' : World} {B B' : Nat} {A : Option Addr} {xs : List Value}
theorem Rd.nil : Rd w B A [] := .inl rfl
theorem Rd.some_ (h : Rd w B A xs) (h0 : 0 < xs.length) : ∃ b off, A = some ⟨b, off, none⟩ ∧ b < B ∧ ∀ i, i < xs.length → w.cell? ⟨b, off + i, none⟩ = xs[i]? := by
  rcases h with rfl | h
  · simp at h0
  · exact h
theorem Rd.keep (h : Rd w B A xs) (hk : ∀ p : Addr, p.block < B → w'.cell? p = w.cell? p) : Rd w' B A xs := by
  rcases h with h | ⟨b, off, e, hb, hc⟩
  · exact .inl h
  · exact .inr ⟨b, off, e, hb, fun i hi => (hk _ hb).trans (hc i hi)⟩
theorem Rd.more (h : Rd w B A xs) (hB : B ≤ B') : Rd w B' A xs := by
  rcases h with h | ⟨b, off, e, hb, hc⟩
  · exact .inl h
  · exact .inr ⟨b, off, e, by omega, hc⟩
theorem Rd.below {C : Nat} (h : Rd w B A xs) (hb : Below C w w') (hC : B ≤ C) : Rd w' B A xs := h.keep fun _ hp => hb.cell (by omega)
theorem Rd.drew (h : Rd w B A xs) : Rd w.drew B A xs := h
theorem Rd.drewN (h : Rd w B A xs) (k : Nat) : Rd (w.drewN k) B A xs := h
theorem Rd.alloc (h : Rd w B A xs) (hB : B ≤ w.heap.size) (o : Obj) : Rd (w.alloc o) B A xs := h.keep fun p hp => World.cell?_alloc_lt w o p (by omega)
theorem Rd.setCell (h : Rd w B A xs) {p : Addr} (hB : B ≤ p.block) (u : Value) : Rd (w.setCell p u) B A xs :=
  h.keep fun q hq => World.cell?_setCell_other w p q u (fun e => by subst e; omega)
/-- the first k cells -/
theorem Rd.take (h : Rd w B A xs) (k : Nat) : Rd w B A (xs.take k) := by
  rcases h with rfl | ⟨b, off, e, hb, hc⟩
  · exact .inl (by simp)
  · refine .inr ⟨b, off, e, hb, fun i hi => ?_⟩
    simp at hi
    rw [hc i (by omega), List.getElem?_take_of_lt (by omega)]
/-- from cell k on: as the model spells 's[k:]' -/
theorem Rd.drop (h : Rd w B A xs) {k cap size : Nat} (hc : xs.length ≤ cap * size) : Rd w B (if cap = k then A else A.map (·.add (k * size))) (xs.drop (k * size)) := by
  by_cases hk : xs.length ≤ k * size
  · exact .inl (List.drop_eq_nil_of_le hk)
  · rcases h with rfl | ⟨b, off, e, hb, hcell⟩
    · simp at hk
    · have hne : ¬ cap = k := by rintro rfl; omega
      rw [if_neg hne, e]
      refine .inr ⟨b, off + k * size, by simp [Addr.add_lit], hb, fun i hi => ?_⟩
      simp at hi
      rw [Nat.add_assoc, hcell _ (by omega), List.getElem?_drop]
theorem Rd.one (w : World) (x : Value) (e : TypeId) : Rd (w.alloc (.cells #[x] e)) (w.heap.size + 1) (some ⟨w.heap.size, 0, none⟩) [x] := by
  refine .inr ⟨_, _, rfl, by omega, fun i hi => ?_⟩
  obtain rfl : i = 0 := by simpa using hi
  rw [World.cell?_alloc_at _ _ _ _ rfl]; rfl

/-- What a row of the call's own reads as. -/
theorem Rd.of_own {base : Nat} {e : TypeId} {size n c : Nat} (h : w.ownsRow base e size (.slice A n c) n xs) : Rd w w.heap.size A xs := by
  rcases h.2 with ⟨hv, rfl⟩ | ⟨g, cap, cur, hv, hg, hh, hn, hm, hcs, htk⟩
  · exact .inl (List.eq_nil_of_length_eq_zero (by simpa using h.1))
  · injection hv with hA _ _
    subst hA
    refine .inr ⟨g, 0, rfl, (Array.getElem?_eq_some_iff.1 hh).1, fun i hi => ?_⟩
    have hl := h.1
    rw [Nat.zero_add, cell_of_row w g i cur e (0, 0) hh, ← htk, List.getElem?_take_of_lt (by omega)]
    simp
/-- A row of the call's own has a slice's shape. -/
theorem own_form {base : Nat} {e : TypeId} {size n : Nat} {v : Value} (h : w.ownsRow base e size v n xs) : ∃ A c, v = .slice A n c := by
  rcases h.2 with ⟨rfl, rfl⟩ | ⟨g, cap, cur, rfl, _⟩
  · exact ⟨_, _, rfl⟩
  · exact ⟨_, _, rfl⟩
theorem own_cap {base : Nat} {e : TypeId} {size n c : Nat} (h : w.ownsRow base e size (.slice A n c) n xs) : n ≤ c ∧ c ≤ 9223372036854775807 := by
  rcases h.2 with ⟨hv, rfl⟩ | ⟨g, cap, cur, hv, _, _, hn, hm, _⟩
  · injection hv with _ _ hc; subst hc; omega
  · injection hv with _ _ hc; subst hc; unfold maxLen at hm; omega
theorem own_below {base : Nat} {e : TypeId} {size n c : Nat} {row : Option Nat} (h : w.ownsRow base e size (.slice A n c) n xs) (hB : base ≤ w.heap.size) (hg : w.grownBy w' row) (hr : row = (Value.slice A n c).ownBlock) : Below base w w' :=
  (Below.refl base w).grown hg hB (fun k hk => (h.lt k (hr ▸ hk)).1)
/-- Kept where nothing below a bound has turned that lies above it. -/
theorem own_kept {base C : Nat} {e : TypeId} {size n : Nat} {v : Value} (h : w.ownsRow base e size v n xs) (hb : Below C w w') (hC : w.heap.size ≤ C) : w'.ownsRow base e size v n xs := by
  refine ⟨h.1, ?_⟩
  rcases h.2 with h2 | ⟨g, cap, cur, hv, hg, hh, r⟩
  · exact .inl h2
  · have hlt := (Array.getElem?_eq_some_iff.1 hh).1
    exact .inr ⟨g, cap, cur, hv, hg, (hb.block g (by omega)).trans hh, r⟩
theorem own_base {base b2 : Nat} {e : TypeId} {size n : Nat} {v : Value} (h : w.ownsRow base e size v n xs) (hB : b2 ≤ base) : w.ownsRow b2 e size v n xs := by
  refine ⟨h.1, ?_⟩
  rcases h.2 with h2 | ⟨g, cap, cur, hv, hg, r⟩
  · exact .inl h2
  · exact .inr ⟨g, cap, cur, hv, by omega, r⟩
end

theorem bel_step {a b c : World} (h : Below a.heap.size a b) (k : Below b.heap.size b c) : Below a.heap.size a c := h.trans (k.mono h.size)
theorem bel_step' {B : Nat} {a b c : World} (h : Below B a b) (hB : B ≤ a.heap.size) (k : Below b.heap.size b c) : Below B a c := h.trans (k.mono (Nat.le_trans hB h.size))

theorem ret_int {k : IntKind} {a b : Int} (h : a = b) : Ending.returned (.int k a) = .returned (.int k b) := by rw [h]
theorem ret3_int {k1 k2 k3 : IntKind} {a b c a' b' c' : Int} (h1 : a = a') (h2 : b = b') (h3 : c = c') :
    Ending.returned (.tuple #[.int k1 a, .int k2 b, .int k3 c]) = .returned (.tuple #[.int k1 a', .int k2 b', .int k3 c']) := by rw [h1, h2, h3]

/-- what a slice type's element type is to append and make -/
structure Elem (P : Program) (t e : TypeId) (z : Value) (size bytes : Nat) : Prop where
  ht : P.underlying t = some (.slice e)
  info : ∃ i, P.info? e = some i ∧ i.zero = some z ∧ i.size = size ∧ i.bytes = bytes
  zs : z.cells.size = size
  pos : 0 < size

section
variable {P : Program} {w : World} {ops : Array Oper} {rest : List Oper} {o : Oper} {a : Act} {Q : Exit → Act → World → Prop}

/-- append onto a row of the call's own, the source nil, empty or not -/
theorem run_app (w : World) {t e : TypeId} {z : Value} {size bytes : Nat} (E : Elem P t e z size bytes) (ty : TypeId) {base n c : Nat} {A : Option Addr} {xs : List Value}
    (hown : w.ownsRow base e size (.slice A n c) n xs) {B m c2 : Nat} {A2 : Option Addr} {news : List Value} (hr : Rd w B A2 news) (hl : news.length = m * size)
    (h1 : ∀ u ∈ news, u.oneCell' = true) (h63 : n + m ≤ maxLen) (hbytes : (n + m) * bytes ≤ 140737488355328) (hbase : base ≤ w.heap.size) :
    ∃ A' c' w', (Builtin.append_ #[t, t] ty #[.slice A n c, .slice A2 m c2]).run P w = .ok (.slice A' (n + m) c') w' ∧
      w'.ownsRow base e size (.slice A' (n + m) c') (n + m) (xs ++ news) ∧ w.grownBy w' (Value.slice A n c).ownBlock ∧
      ((Value.slice A' (n + m) c').ownBlock = (Value.slice A n c).ownBlock ∨ (Value.slice A' (n + m) c').ownBlock = some w.heap.size) := by
  obtain ⟨i, hi, hz, hs, hb⟩ := E.info
  rcases A2 with _ | ad
  · have hn : news = [] := by
      rcases hr with h | ⟨b, off, e, _⟩
      · exact h
      · cases e
    subst hn
    have hm : m = 0 := by
      have hp := E.pos
      rcases Nat.mul_eq_zero.1 hl.symm with h | h
      · exact h
      · omega
    subst hm
    refine ⟨A, c, w, ?_, by simpa using hown, World.grownBy.refl _ _, .inl rfl⟩
    rcases hown.2 with ⟨hv, h0⟩ | ⟨g, cap, cur, hv, _, _, hnc, _⟩
    · injection hv with hA hN hC
      subst hA; subst h0; subst hC
      simp [Builtin.append_, run_underlying E.ht, sizeOf, typeInfo, hi, Builtin.lenOf, Builtin.firstCells]
    · injection hv with hA hN hC
      subst hA; subst hC
      simp [Builtin.append_, run_underlying E.ht, sizeOf, typeInfo, hi, Builtin.lenOf, Builtin.firstCells, hnc, storeCells]
  · have hnews : ∀ j u, news[j]? = some u → w.cell? (ad.add j) = some u := by
      intro j u hu
      have hj := (List.getElem?_eq_some_iff.1 hu).1
      obtain ⟨b, off, e, _, hc⟩ := hr.some_ (by omega)
      obtain rfl := Option.some.inj e
      rw [Addr.add_lit, hc j hj]; exact hu
    obtain ⟨v', w', hrun, h2, h3, _, h5⟩ := run_append_own_at (P := P) w base t ty e i z size bytes E.ht hi hz hs hb E.zs E.pos _ n xs hown ad m c2 news hl hnews h1 h63 hbytes hbase
    obtain ⟨A', c', rfl⟩ := own_form h2
    exact ⟨A', c', w', hrun, h2, h3, h5⟩

theorem wp_app {K : Act → World → Prop} (s x : Operand) (t : TypeId)
    (ho : o.op = .call { callee := .builtin .append, args := #[s, x], argTypes := #[t, t] })
    {e : TypeId} {z : Value} {size bytes : Nat} (E : Elem P t e z size bytes) {base n c : Nat} {A : Option Addr} {xs : List Value} (hs : a.eval s = .slice A n c)
    (hown : w.ownsRow base e size (.slice A n c) n xs) {B m c2 : Nat} {A2 : Option Addr} {news : List Value} (hx : a.eval x = .slice A2 m c2) (hr : Rd w B A2 news) (hl : news.length = m * size)
    (h1 : ∀ u ∈ news, u.oneCell' = true) (h63 : n + m ≤ maxLen) (hbytes : (n + m) * bytes ≤ 140737488355328) (hbase : base ≤ w.heap.size)
    (h : ∀ A' c' w', w'.ownsRow base e size (.slice A' (n + m) c') (n + m) (xs ++ news) → w.grownBy w' (Value.slice A n c).ownBlock →
      ((Value.slice A' (n + m) c').ownBlock = (Value.slice A n c).ownBlock ∨ (Value.slice A' (n + m) c').ownBlock = some w.heap.size) → K (a.put o.dst (.slice A' (n + m) c')) w') : o.wp P a w K Q := by
  obtain ⟨A', c', w', hrun, h2, h3, h4⟩ := run_app w E o.type hown hr hl (c2 := c2) h1 h63 hbytes hbase
  unfold Oper.wp execOp
  simp only [ho, resolve, invoke, builtin, Sem.run_bind, Sem.run_pure, Result.andThen_ok, List.map_toArray, List.map_cons, List.map_nil, hs, hx, hrun]
  exact h A' c' w' h2 h3 h4

theorem wpList_app (hgd : o.guard = none) (s x : Operand) (t : TypeId)
    (ho : o.op = .call { callee := .builtin .append, args := #[s, x], argTypes := #[t, t] })
    {e : TypeId} {z : Value} {size bytes : Nat} (E : Elem P t e z size bytes) {base n c : Nat} {A : Option Addr} {xs : List Value} (hs : a.eval s = .slice A n c)
    (hown : w.ownsRow base e size (.slice A n c) n xs) {B m c2 : Nat} {A2 : Option Addr} {news : List Value} (hx : a.eval x = .slice A2 m c2) (hr : Rd w B A2 news) (hl : news.length = m * size)
    (h1 : ∀ u ∈ news, u.oneCell' = true) (h63 : n + m ≤ maxLen) (hbytes : (n + m) * bytes ≤ 140737488355328) (hbase : base ≤ w.heap.size)
    (h : ∀ A' c' w', w'.ownsRow base e size (.slice A' (n + m) c') (n + m) (xs ++ news) → w.grownBy w' (Value.slice A n c).ownBlock →
      ((Value.slice A' (n + m) c').ownBlock = (Value.slice A n c).ownBlock ∨ (Value.slice A' (n + m) c').ownBlock = some w.heap.size) → wpList P ops Q rest (a.put o.dst (.slice A' (n + m) c')) w') :
    wpList P ops Q (o :: rest) a w :=
  wpList_plain hgd fun _ hK => wp_app s x t ho E hs hown hx hr hl h1 h63 hbytes hbase fun A' c' w' h2 h3 h4 => hK _ _ (h A' c' w' h2 h3 h4)

/-- the same in a region that draws its order: for 'go_region_law' -/
theorem step_app {K : Act → World → Prop} {X : Prop} (hgd : o.guard = none) (s x : Operand) (t : TypeId)
    (ho : o.op = .call { callee := .builtin .append, args := #[s, x], argTypes := #[t, t] })
    {e : TypeId} {z : Value} {size bytes : Nat} (E : Elem P t e z size bytes) {base n c : Nat} {A : Option Addr} {xs : List Value} (hs : a.eval s = .slice A n c)
    (hown : w.ownsRow base e size (.slice A n c) n xs) {B m c2 : Nat} {A2 : Option Addr} {news : List Value} (hx : a.eval x = .slice A2 m c2) (hr : Rd w B A2 news) (hl : news.length = m * size)
    (h1 : ∀ u ∈ news, u.oneCell' = true) (h63 : n + m ≤ maxLen) (hbytes : (n + m) * bytes ≤ 140737488355328) (hbase : base ≤ w.heap.size)
    (h : ∀ A' c' w', w'.ownsRow base e size (.slice A' (n + m) c') (n + m) (xs ++ news) → w.grownBy w' (Value.slice A n c).ownBlock →
      ((Value.slice A' (n + m) c').ownBlock = (Value.slice A n c).ownBlock ∨ (Value.slice A' (n + m) c').ownBlock = some w.heap.size) → K (a.put o.dst (.slice A' (n + m) c')) w') :
    if Region.wanted o (yielded ops a.tmps) = true then Oper.wp P o a w K Q else X := by
  have hw : Region.wanted o (yielded ops a.tmps) = true := by simp [Region.wanted, hgd]
  rw [if_pos hw]
  exact wp_app s x t ho E hs hown hx hr hl h1 h63 hbytes hbase h
theorem Rd.cells (w : World) (cs : Array Value) (e : TypeId) : Rd (w.alloc (.cells cs e)) (w.heap.size + 1) (some ⟨w.heap.size, 0, none⟩) cs.toList := by
  refine .inr ⟨_, _, rfl, by omega, fun i hi => ?_⟩
  rw [World.cell?_alloc_at _ _ _ _ rfl]; simp

/-- append of one element, whose cells were just laid in a block of their own -/
theorem wpList_app1 (hgd : o.guard = none) (s x : Operand) (t : TypeId)
    (ho : o.op = .call { callee := .builtin .append, args := #[s, x], argTypes := #[t, t] })
    {e : TypeId} {z : Value} {size bytes : Nat} (E : Elem P t e z size bytes) {base n c : Nat} {A : Option Addr} {xs : List Value} (hs : a.eval s = .slice A n c)
    (hown : w.ownsRow base e size (.slice A n c) n xs) {c2 : Nat} {cs : Array Value} (hx : a.eval x = .slice (some ⟨w.heap.size, 0, none⟩) 1 c2) (hl : cs.size = size)
    (h1 : ∀ u ∈ cs.toList, u.oneCell' = true) (h63 : n + 1 ≤ maxLen) (hbytes : (n + 1) * bytes ≤ 140737488355328) (hbase : base ≤ w.heap.size)
    (h : ∀ A' c' w', w'.ownsRow base e size (.slice A' (n + 1) c') (n + 1) (xs ++ cs.toList) → w.grownBy w' (Value.slice A n c).ownBlock →
      ((Value.slice A' (n + 1) c').ownBlock = (Value.slice A n c).ownBlock ∨ (Value.slice A' (n + 1) c').ownBlock = some (w.heap.size + 1)) → wpList P ops Q rest (a.put o.dst (.slice A' (n + 1) c')) w') :
    wpList P ops Q (o :: rest) a (w.alloc (.cells cs e)) := by
  refine wpList_app hgd s x t ho E hs (hown.alloc _) hx (Rd.cells w cs e) (by simpa using hl) h1 h63 hbytes (by simp; omega) fun A' c' w' h2 h3 h4 => h A' c' w' h2 ?_ (by simpa using h4)
  exact ⟨h3.os, h3.tape, h3.output, by have := h3.size; simp at this; omega, fun k hk hne => (h3.block k (by simp; omega) hne).trans (Below.heap_alloc w _ k hk)⟩

/-- what the row's own block says of Below -/
theorem own_grown {base : Nat} {e : TypeId} {size n c : Nat} {A : Option Addr} {xs : List Value} {w0 w w' : World} (hB : Below base w0 w) (h : w.ownsRow base e size (.slice A n c) n xs) (hb : base ≤ w.heap.size)
    (hg : w.grownBy w' (Value.slice A n c).ownBlock) : Below base w0 w' :=
  hB.grown hg hb (fun k hk => (h.lt k hk).1)
end

/-- bytes as cells -/
def bcl (l : List UInt8) : List Value := l.map fun b => Value.int .u8 (b.toNat : Int)
theorem byte_one (l : List UInt8) : ∀ u ∈ bcl l, u.oneCell' = true := by
  intro u hu
  obtain ⟨_, _, rfl⟩ := List.mem_map.1 hu
  rfl
/-- string(b) -/
theorem run_str {P : Program} {w : World} {B : Nat} {A : Option Addr} {l : List UInt8} (src dst e : TypeId) (hs : P.underlying src = some (.slice e)) (he : P.underlying e = some (.int .u8)) (hd : P.underlying dst = some .string)
    (hr : Rd w B A (bcl l)) (c : Nat) : (convert src dst (.slice A l.length c)).run P w = .ok (.string ⟨l.toArray⟩) w := by
  by_cases hl : l = []
  · subst hl
    rw [List.length_nil, run_convert_bytes_string w src dst e A 0 c hs he hd]
    rcases A with _ | a
    · simp [Conv.bytesToString]; rfl
    · have h := run_bytesToString (P := P) w a 0 c [] (by simp [loadCells, loadCellsFrom])
      rw [h]; rfl
  · obtain ⟨b, off, rfl, _, hc⟩ := hr.some_ (by simp [bcl]; exact List.length_pos_iff.2 hl)
    refine run_convert_bytes_back w src dst e _ c l hs he hd fun j hj => ?_
    rw [Addr.add_lit, hc j (by simp [bcl]; exact hj)]
    simp [bcl, hj]
theorem byte_len (l : List UInt8) : (bcl l).length = l.length * 1 := by simp [bcl]
theorem byte_app (l m : List UInt8) : bcl (l ++ m) = bcl l ++ bcl m := by simp [bcl]
end Go.Proofs.Ytkanhggmhjldmaa

/- PLAIN LAW, no program in sight: numbers as septets (vput, vsize, vget), zigzag. -/
namespace Go.Proofs.Ytkanhggmhjldmaa.Plain

/-- the bytes of a number, at most k + 1 of them -/
def vb : Nat → Nat → List UInt8
  | 0, n => [UInt8.ofNat n]
  | k + 1, n => if n < 128 then [UInt8.ofNat n] else UInt8.ofNat (n % 128 + 128) :: vb k (n / 128)
def vput (n : Nat) : List UInt8 := vb 9 n
def vsize (n : Nat) : Nat := (vput n).length

theorem vb_more : ∀ (k n : Nat), n < 128 ^ (k + 1) → vb (k + 1) n = vb k n := by
  intro k
  induction k with
  | zero => intro n h; simp [vb]; omega
  | succ k ih =>
    intro n h
    rw [vb]
    by_cases h1 : n < 128
    · rw [if_pos h1, vb, if_pos h1]
    · rw [if_neg h1, ih _ (by rw [Nat.div_lt_iff_lt_mul (by omega)]; rw [Nat.pow_succ] at h; exact h)]
      rw [vb, if_neg h1]

theorem vput_lt {n : Nat} (h : n < 128) : vput n = [UInt8.ofNat n] := by simp [vput, vb, h]
theorem vput_ge {n : Nat} (h : ¬ n < 128) (hn : n < 18446744073709551616) : vput n = UInt8.ofNat (n % 128 + 128) :: vput (n / 128) := by
  show vb 9 n = _ :: vb 9 (n / 128)
  rw [vb_more 8 (n / 128) (by omega)]
  rw [vb, if_neg h]

theorem vsize_lt {n : Nat} (h : n < 128) : vsize n = 1 := by simp [vsize, vput_lt h]
theorem vsize_ge {n : Nat} (h : ¬ n < 128) (hn : n < 18446744073709551616) : vsize n = vsize (n / 128) + 1 := by
  simp [vsize, vput_ge h hn]

theorem vb_len : ∀ (k n : Nat), 1 ≤ (vb k n).length ∧ (vb k n).length ≤ k + 1 := by
  intro k
  induction k with
  | zero => intro n; simp [vb]
  | succ k ih =>
    intro n
    rw [vb]
    by_cases h1 : n < 128
    · simp [h1]
    · have := ih (n / 128); simp [h1]; omega

theorem vsize_bd (n : Nat) : 1 ≤ vsize n ∧ vsize n ≤ 10 := vb_len 9 n

theorem vb_mono : ∀ (k a b : Nat), a ≤ b → (vb k a).length ≤ (vb k b).length := by
  intro k
  induction k with
  | zero => intro a b _; simp [vb]
  | succ k ih =>
    intro a b h
    rw [vb, vb]
    by_cases h1 : b < 128
    · rw [if_pos (by omega), if_pos h1]; simp
    · by_cases h2 : a < 128
      · simp [h1, h2]
      · have := ih (a / 128) (b / 128) (Nat.div_le_div_right h); simp [h1, h2]; omega

theorem vsize_mono {a b : Nat} (h : a ≤ b) : vsize a ≤ vsize b := vb_mono 9 a b h

/-- what stands at a list's head, told as a number: value, how many bytes, error -/
def vgo : Nat → Nat → Nat → List UInt8 → Nat × Nat × Nat
  | 0, _, _, _ => (0, 0, 3)
  | _ + 1, _, _, [] => (0, 0, 2)
  | f + 1, i, v, c :: l =>
    if i = 9 ∧ 1 < c.toNat then (0, 0, 3)
    else if c.toNat < 128 then (v + c.toNat * 128 ^ i, i + 1, 0)
    else vgo f (i + 1) (v + c.toNat % 128 * 128 ^ i) l
def vget (l : List UInt8) (pos : Int) : Nat × Nat × Nat :=
  if pos < 0 ∨ (l.length : Int) < pos then (0, 0, 1)
  else if (vgo 10 0 0 (l.drop pos.toNat)).2.2 = 0 then
    ((vgo 10 0 0 (l.drop pos.toNat)).1, pos.toNat + (vgo 10 0 0 (l.drop pos.toNat)).2.1, 0)
  else (0, 0, (vgo 10 0 0 (l.drop pos.toNat)).2.2)

end Go.Proofs.Ytkanhggmhjldmaa.Plain

/- PLAIN LAW: numbers of fixed width, the lowest byte first; a list turned. -/
namespace Go.Proofs.Ytkanhggmhjldmaa.Plain

def leB (n j : Nat) : UInt8 := UInt8.ofNat (n / 256 ^ j)
/-- the k lowest bytes -/
def le (k n : Nat) : List UInt8 := (List.range k).map (leB n)
/-- the number of bytes -/
def un : List UInt8 → Nat
  | [] => 0
  | c :: l => c.toNat + 256 * un l
/-- what has been laid after j of k rounds -/
def leTo (k j n : Nat) : List UInt8 := (List.range j).map (leB n) ++ List.replicate (k - j) 0

theorem le_length (k n : Nat) : (le k n).length = k := by simp [le]
theorem leTo_length {k j : Nat} (n : Nat) (h : j ≤ k) : (leTo k j n).length = k := by simp [leTo]; omega
theorem leTo_zero (k n : Nat) : leTo k 0 n = List.replicate k 0 := by simp [leTo]
theorem leTo_end (k n : Nat) : leTo k k n = le k n := by simp [leTo, le]
theorem leTo_set {k j : Nat} (n : Nat) (h : j < k) : (leTo k j n).set j (leB n j) = leTo k (j + 1) n := by
  unfold leTo
  rw [List.set_append_right _ _ (by simp), List.range_succ, List.map_append, List.append_assoc]
  have e : k - j = (k - (j + 1)) + 1 := by omega
  rw [e, List.replicate_succ]
  simp

theorem le_succ (k n : Nat) : le (k + 1) n = UInt8.ofNat n :: le k (n / 256) := by
  unfold le
  rw [List.range_succ_eq_map, List.map_cons, List.map_map]
  congr 1
  · simp [leB]
  · apply List.map_congr_left
    intro j _
    simp [leB, Nat.pow_succ', Nat.div_div_eq_div_mul]

theorem un_le : ∀ (k n : Nat), n < 256 ^ k → un (le k n) = n := by
  intro k
  induction k with
  | zero => intro n h; simp at h; subst h; rfl
  | succ k ih =>
    intro n h
    rw [le_succ, un, ih (n / 256) (by rw [Nat.div_lt_iff_lt_mul (by omega)]; rw [Nat.pow_succ] at h; exact h)]
    simp only [UInt8.toNat_ofNat']
    omega
theorem un_lt : ∀ (l : List UInt8), un l < 256 ^ l.length := by
  intro l
  induction l with
  | nil => simp [un]
  | cons c l ih =>
    have hc := c.toNat_lt
    rw [un, List.length_cons, Nat.pow_succ]
    omega
theorem un_append : ∀ (l m : List UInt8), un (l ++ m) = un l + 256 ^ l.length * un m := by
  intro l m
  induction l with
  | nil => simp [un]
  | cons c l ih =>
    rw [List.cons_append, un, ih, un, List.length_cons, Nat.pow_succ, Nat.mul_add, Nat.mul_comm (256 ^ l.length) 256, Nat.mul_assoc, Nat.add_assoc]

/-- so many bytes at a place, told as a number -/
def fget (width : Nat) (l : List UInt8) (pos : Int) : Nat × Nat × Nat :=
  if pos < 0 ∨ (l.length : Int) < pos then (0, 0, 1)
  else if (l.length : Int) - pos < width then (0, 0, 2)
  else (un ((l.drop pos.toNat).take width), pos.toNat + width, 0)

end Go.Proofs.Ytkanhggmhjldmaa.Plain

/- PLAIN LAW: fields as bytes; why a field may not be. -/
namespace Go.Proofs.Ytkanhggmhjldmaa.Plain

/-- why a field may not be; e: its text is empty -/
def wwrong (num kind val : Int) (e : Bool) : Int :=
  if num < 1 ∨ 536870912 ≤ num then 5 else if ¬ (kind = 0 ∨ kind = 1 ∨ kind = 2 ∨ kind = 5) then 11
  else if ¬ kind = 2 ∧ e = false ∨ kind = 2 ∧ ¬ val = 0 then 4 else if kind = 5 ∧ 4294967296 ≤ val then 5 else 0
end Go.Proofs.Ytkanhggmhjldmaa.Plain

/- WALKS: wire's small functions. -/
namespace Go.Proofs.Ytkanhggmhjldmaa
open Go.RowKit Plain

def wlaid (kind : Int) : Bool := kind == 0 || kind == 1 || kind == 2 || kind == 5
theorem laid_any (kind : Int) (w : World) : Calls Try.prog 48 #[.int .i64 kind] w fun e w' => e = .returned (.bool (wlaid kind)) ∧ w = w' := by
  by_cases h0 : kind = 0
  · subst h0; go_enter Try.func48, Try.ntmps48
    go_wp2
    go_ret
    exact ⟨rfl, rfl⟩
  by_cases h1 : kind = 1
  · subst h1; go_enter Try.func48, Try.ntmps48
    go_wp2
    go_ret
    exact ⟨rfl, rfl⟩
  by_cases h2 : kind = 2
  · subst h2; go_enter Try.func48, Try.ntmps48
    go_wp2
    go_ret
    exact ⟨rfl, rfl⟩
  by_cases h5 : kind = 5
  · subst h5; go_enter Try.func48, Try.ntmps48
    go_wp2
    go_ret
    exact ⟨rfl, rfl⟩
  have b0 : (kind == 0) = false := by simpa using h0
  have b1 : (kind == 1) = false := by simpa using h1
  have b2 : (kind == 2) = false := by simpa using h2
  have b5 : (kind == 5) = false := by simpa using h5
  have e : wlaid kind = false := by unfold wlaid; rw [b0, b1, b2, b5]; rfl
  rw [e]
  clear e h0 h1 h2 h5
  go_enter Try.func48, Try.ntmps48
  go_wp2
  go_ret
  exact ⟨rfl, rfl⟩
set_option maxRecDepth 100000 in
set_option maxHeartbeats 1000000 in
theorem wwrong_any (num kind : Int) (val : Nat) (text : ByteArray) (w : World) :
    Calls Try.prog 35 #[.agg #[.int .i64 num, .int .i64 kind, .int .u64 val, .string text]] w fun e w' => e = .returned (.int .i64 (wwrong num kind val text.toList.isEmpty)) ∧ Below w.heap.size w w' := by
  by_cases h0 : num < 1
  · have hb : decide (num < 1) = true := by simpa using h0
    have e : wwrong num kind val text.toList.isEmpty = 5 := by unfold wwrong; rw [if_pos (.inl h0)]
    rw [e]; clear e h0
    go_enter Try.func35, Try.ntmps35
    go_wp2_with fail
    go_ret
    exact ⟨rfl, (Below.refl _ _).alloc (Nat.le_refl _) _⟩
  have hb0 : decide (num < 1) = false := by simpa using h0
  by_cases h1 : 536870912 ≤ num
  · have hb : decide (536870912 ≤ num) = true := by simpa using h1
    have e : wwrong num kind val text.toList.isEmpty = 5 := by unfold wwrong; rw [if_pos (.inr h1)]
    rw [e]; clear e h0 h1
    go_enter Try.func35, Try.ntmps35
    go_wp2_with fail
    go_ret
    exact ⟨rfl, (Below.refl _ _).alloc (Nat.le_refl _) _⟩
  have hb1 : decide (536870912 ≤ num) = false := by simpa using h1
  have e0 : wwrong num kind val text.toList.isEmpty = if ¬ (kind = 0 ∨ kind = 1 ∨ kind = 2 ∨ kind = 5) then 11
      else if ¬ kind = 2 ∧ text.toList.isEmpty = false ∨ kind = 2 ∧ ¬ (val : Int) = 0 then 4 else if kind = 5 ∧ 4294967296 ≤ (val : Int) then 5 else 0 := by unfold wwrong; rw [if_neg (by omega)]
  clear h0 h1
  by_cases hk : wlaid kind = true
  · have hk4 : kind = 0 ∨ kind = 1 ∨ kind = 2 ∨ kind = 5 := by unfold wlaid at hk; simp at hk; omega
    rw [e0, if_neg (fun h => h hk4)]
    clear e0
    by_cases h2 : kind = 2
    · subst h2
      by_cases hv : (val : Int) = 0
      · rw [if_neg (by simp [hv]), if_neg (by simp)]
        have hvb : ((val : Int) != 0) = false := by simpa using hv
        clear hk4 hv
        go_enter Try.func35, Try.ntmps35
        go_wp2_with (go_at_call 48; refine (laid_any _ _).mono ?_; rintro e w1 ⟨rfl, rfl⟩)
        all_goals go_ret
        all_goals exact ⟨rfl, (Below.refl _ _).alloc (Nat.le_refl _) _⟩
      · rw [if_pos (.inr ⟨rfl, hv⟩)]
        have hvb : ((val : Int) != 0) = true := by simpa using hv
        clear hk4 hv
        go_enter Try.func35, Try.ntmps35
        go_wp2_with (go_at_call 48; refine (laid_any _ _).mono ?_; rintro e w1 ⟨rfl, rfl⟩)
        all_goals go_ret
        all_goals exact ⟨rfl, (Below.refl _ _).alloc (Nat.le_refl _) _⟩
    · have hk2 : (kind == 2) = false := by simpa using h2
      cases ht : text.toList.isEmpty
      · rw [if_pos (.inl ⟨h2, rfl⟩)]
        clear hk4 h2
        go_enter Try.func35, Try.ntmps35
        go_wp2_with (go_at_call 48; refine (laid_any _ _).mono ?_; rintro e w1 ⟨rfl, rfl⟩)
        all_goals go_ret
        all_goals exact ⟨rfl, (Below.refl _ _).alloc (Nat.le_refl _) _⟩
      · rw [if_neg (by simp [h2])]
        by_cases h5 : kind = 5
        · subst h5
          by_cases hv : 4294967296 ≤ (val : Int)
          · rw [if_pos ⟨rfl, hv⟩]
            have hvb : decide (4294967296 ≤ (val : Int)) = true := by simpa using hv
            clear hk4 hv
            go_enter Try.func35, Try.ntmps35
            go_wp2_with (go_at_call 48; refine (laid_any _ _).mono ?_; rintro e w1 ⟨rfl, rfl⟩)
            all_goals go_ret
            all_goals exact ⟨rfl, (Below.refl _ _).alloc (Nat.le_refl _) _⟩
          · rw [if_neg (fun h => hv h.2)]
            have hvb : decide (4294967296 ≤ (val : Int)) = false := by simpa using hv
            clear hk4 hv
            go_enter Try.func35, Try.ntmps35
            go_wp2_with (go_at_call 48; refine (laid_any _ _).mono ?_; rintro e w1 ⟨rfl, rfl⟩)
            all_goals go_ret
            all_goals exact ⟨rfl, (Below.refl _ _).alloc (Nat.le_refl _) _⟩
        · have hk5 : (kind == 5) = false := by simpa using h5
          rw [if_neg (fun h => h5 h.1)]
          clear hk4 h2 h5
          go_enter Try.func35, Try.ntmps35
          go_wp2_with (go_at_call 48; refine (laid_any _ _).mono ?_; rintro e w1 ⟨rfl, rfl⟩)
          all_goals go_ret
          all_goals exact ⟨rfl, (Below.refl _ _).alloc (Nat.le_refl _) _⟩
  · have hk' : wlaid kind = false := by simpa using hk
    rw [e0, if_pos (by unfold wlaid at hk'; simp at hk'; omega)]
    clear e0 hk
    go_enter Try.func35, Try.ntmps35
    go_wp2_with (go_at_call 48; refine (laid_any _ _).mono ?_; rintro e w1 ⟨rfl, rfl⟩)
    all_goals go_ret
    all_goals exact ⟨rfl, (Below.refl _ _).alloc (Nat.le_refl _) _⟩
end Go.Proofs.Ytkanhggmhjldmaa

/- WALK: varint.Size returns vsize. -/
namespace Go.Proofs.Ytkanhggmhjldmaa
open Go.RowKit Plain

theorem vsize_step (n k m : Nat) (hm : m < 18446744073709551616) (h : vsize n = k + if m = 0 then 0 else vsize m) (h0 : ¬ m = 0) :
    vsize n = (k + 1) + if m / 128 = 0 then 0 else vsize (m / 128) := by
  rw [h, if_neg h0]
  by_cases h1 : m < 128
  · rw [vsize_lt h1, if_pos (by omega)]
  · rw [vsize_ge h1 hm, if_neg (by omega)]; omega

set_option maxHeartbeats 400000 in
theorem size_any (n : Nat) (hn : n < 18446744073709551616) (w : World) :
    Calls Try.prog 66 #[.int .u64 n] w fun e w' => e = .returned (.int .i64 (vsize n : Nat)) ∧ w = w' := by
  go_enter Try.func66, Try.ntmps66
  go_wp2
  go_loop [0, 3] (fun a b => ∃ m k : Nat, k ≤ 10 ∧ m < 18446744073709551616 ∧ a = .int .u64 m ∧ b = .int .i64 k ∧ vsize n = k + if m = 0 then 0 else vsize m) (fun a _ => (intOf a).toNat)
  case atStart =>
    refine ⟨n / 128, 1, by omega, by omega, by go_num, rfl, ?_⟩
    by_cases h1 : n < 128
    · rw [vsize_lt h1, if_pos (by omega)]
    · rw [vsize_ge h1 hn, if_neg (by omega)]; omega
  case round =>
    obtain ⟨m, k, hk, hm, rfl, rfl, hv⟩ := hrel
    have HV := Lib.hid hv
    clear hv
    by_cases h0 : m = 0
    · subst h0
      have e := HV.out
      simp at e
      have E := Lib.hid e
      clear e
      go_wp2
      go_ret
      exact ⟨congrArg (fun z : Nat => Ending.returned (.int .i64 (z : Int))) E.out.symm, rfl⟩
    · have h1 : ((m : Int) != 0) = true := by rw [bne_iff_ne]; omega
      have hb := vsize_bd n
      have hb2 := vsize_bd m
      have hk2 : k + 1 ≤ 10 := by have e := HV.out; rw [if_neg h0] at e; omega
      clear hb hb2
      go_wp2
      go_round
      case rel => exact ⟨m / 128, k + 1, by omega, by omega, by go_num, by go_num, vsize_step n k m hm HV.out h0⟩
      case measure => simp [intOf]; omega
end Go.Proofs.Ytkanhggmhjldmaa

/- WALK: varint.Put returns vput. -/
namespace Go.Proofs.Ytkanhggmhjldmaa
open Go.RowKit Plain

theorem elemB : Elem Try.prog 25 5 (.int .u8 0) 1 1 :=
  ⟨Try.underlying25, info_parts (show (Try.prog.info? 5).map (fun i => (i.zero, i.size, i.bytes)) = some (some (.int .u8 0), 1, 1) by kernel_rfl), rfl, by omega⟩

theorem bcl_snoc (acc : List UInt8) (k : Nat) (hk : k < 256) : bcl (acc ++ [UInt8.ofNat k]) = bcl acc ++ [.int .u8 (k : Int)] := by
  simp [bcl, UInt8.toNat_ofNat', Nat.mod_eq_of_lt hk]
theorem put_last {acc : List UInt8} {m n : Nat} (h : vput n = acc ++ vput m) (h0 : m < 128) : vsize n = acc.length + 1 ∧ bcl (vput n) = bcl acc ++ [.int .u8 (m : Int)] := by
  rw [vput_lt h0] at h
  exact ⟨by simp [vsize, h], by rw [h, bcl_snoc _ _ (by omega)]⟩
theorem or128 (m : Nat) : bits BinOp.or IntKind.u8 ((m : Int) % 256) 128 = ((m % 128 + 128 : Nat) : Int) := by
  have h : ∀ x : Fin 256, bits BinOp.or IntKind.u8 ((x.val : Nat) : Int) 128 = ((x.val % 128 + 128 : Nat) : Int) := by decide +kernel
  have h1 := h ⟨m % 256, Nat.mod_lt _ (by omega)⟩
  simp only at h1
  have e : m % 256 % 128 = m % 128 := by omega
  rw [e] at h1
  exact h1

set_option maxHeartbeats 400000 in
theorem put_any (n : Nat) (hn : n < 18446744073709551616) (w : World) :
    Calls Try.prog 49 #[.int .u64 n] w fun e w' => ∃ A c, e = .returned (.slice A (vsize n) c) ∧
      w'.ownsRow w.heap.size 5 1 (.slice A (vsize n) c) (vsize n) (bcl (vput n)) ∧ Below w.heap.size w w' := by
  obtain ⟨i0, hi, hz0, hz1, hz2⟩ := elemB.info
  have hb := vsize_bd n
  go_enter Try.func49, Try.ntmps49
  go_wp2_with (first
    | (go_at_call 66; refine (size_any n hn _).mono ?_; rintro e w' ⟨rfl, rfl⟩)
    | (at_make; refine wpList_make_own _ rfl _ _ 25 rfl w.heap.size 5 i0 (.int .u8 0) 1 elemB.ht hi hz0 hz1 .i64 .i64 _ (vsize n) rfl rfl rfl (by rw [hz2]; omega) (by unfold maxLen; omega) (Nat.le_refl _) ?_; intro w1 hown hgrow))
  have hB := (Below.refl w.heap.size w).grown hgrow (Nat.le_refl _) (fun _ h => by cases h)
  clear hgrow hz0 hz1 hz2 hi hb
  go_loopw [0, 3] (fun a v wr => ∃ (m : Nat) (acc : List UInt8) (A : Option Addr) (c : Nat), m < 18446744073709551616 ∧ a = .int .u64 m ∧ v = .slice A acc.length c ∧
      wr.ownsRow w.heap.size 5 1 (.slice A acc.length c) acc.length (bcl acc) ∧ vput n = acc ++ vput m ∧ Below w.heap.size w wr) (fun a _ _ => (intOf a).toNat)
  case atStart => exact ⟨n, [], _, _, hn, rfl, rfl, hown, rfl, hB⟩
  case round =>
    clear hown hB
    obtain ⟨m, acc, A, c, hm, rfl, rfl, hown, hv, hB⟩ := hrel
    have hlen : acc.length + (vput m).length ≤ 10 := by have e := congrArg List.length hv; rw [List.length_append] at e; have h2 := vsize_bd n; unfold vsize at h2; omega
    have hl1 : 1 ≤ (vput m).length := (vsize_bd m).1
    have HV := Lib.hid hv
    clear hv
    have hb0 := hB.size
    by_cases h0 : m < 128
    · go_wp2_with (at_builtin; go_loud (refine wpList_app1 rfl _ _ _ rfl elemB rfl hown rfl rfl (by intro u hu; simp at hu; subst hu; rfl) (by unfold maxLen; omega) (by omega) hb0 ?_); intro A1 c1 w2 hown2 hg2 _)
      go_ret
      obtain ⟨e1, e2⟩ := put_last HV.out h0
      exact ⟨A1, c1, by rw [e1]; rfl, by rw [e1, e2]; exact hown2, own_grown hB hown hb0 hg2⟩
    · go_wp2_with (at_builtin; refine wpList_app1 rfl _ _ _ rfl elemB rfl hown rfl rfl (by intro u hu; simp at hu; subst hu; rfl) (by unfold maxLen; omega) (by omega) hb0 ?_; intro A1 c1 w2 hown2 hg2 _)
      go_roundw
      case rel =>
        rw [or128] at hown2
        refine ⟨m / 128, acc ++ [UInt8.ofNat (m % 128 + 128)], A1, c1, by omega, by go_num, by simp, ?_, ?_, own_grown hB hown hb0 hg2⟩
        · rw [List.length_append, bcl_snoc _ _ (by omega)]; exact hown2
        · rw [HV.out, vput_ge h0 hm, List.append_assoc]; rfl
      case measure => simp [intOf]; omega
end Go.Proofs.Ytkanhggmhjldmaa

/- append onto a row of bytes of the call's own -/
namespace Go.Proofs.Ytkanhggmhjldmaa
open Go.RowKit

theorem own_empty (w : World) {base : Nat} (e : TypeId) {size : Nat} (hb : base ≤ w.heap.size) : (w.alloc (.cells #[] e)).ownsRow base e size (.slice (some ⟨w.heap.size, 0, none⟩) 0 0) 0 [] :=
  World.ownsRow_lit w #[] 0 hb (by simp [maxLen]) (by simp)

theorem own_emptyB (w : World) {base : Nat} (hb : base ≤ w.heap.size) : (w.alloc (.cells #[] 5)).ownsRow base 5 1 (.slice (some ⟨w.heap.size, 0, none⟩) 0 0) 0 (bcl []) := own_empty w _ hb
section
variable {w : World} {ops : Array Oper} {rest : List Oper} {o : Oper} {a : Act} {Q : Exit → Act → World → Prop}
theorem wpList_appB (hgd : o.guard = none) (s x : Operand)
    (ho : o.op = .call { callee := .builtin .append, args := #[s, x], argTypes := #[25, 25] })
    {base n c : Nat} {A : Option Addr} {l : List UInt8} (hs : a.eval s = .slice A n c)
    (hown : w.ownsRow base 5 1 (.slice A n c) n (bcl l)) {B m c2 : Nat} {A2 : Option Addr} {l2 : List UInt8} (hx : a.eval x = .slice A2 m c2) (hr : Rd w B A2 (bcl l2)) (hl : l2.length = m)
    (N : Nat) (hN : n + m = N) (hbd : N ≤ 140737488355328) (hbase : base ≤ w.heap.size)
    (h : ∀ A' c' w', w'.ownsRow base 5 1 (.slice A' N c') N (bcl (l ++ l2)) → w.grownBy w' (Value.slice A n c).ownBlock → wpList Try.prog ops Q rest (a.put o.dst (.slice A' N c')) w') :
    wpList Try.prog ops Q (o :: rest) a w := by
  subst hN
  refine wpList_app hgd s x _ ho elemB hs hown hx hr (by simp [bcl, hl]) (byte_one l2) (by unfold maxLen; omega) (by omega) hbase fun A' c' w' h1 h2 _ => h A' c' w' ?_ h2
  rw [byte_app]
  exact h1
end
end Go.Proofs.Ytkanhggmhjldmaa

/- WALKS: fixed.lay at both widths, Put4, Put8. -/
namespace Go.Proofs.Ytkanhggmhjldmaa
open Go.RowKit Plain

theorem leB_val (n j : Nat) : (n : Int) / 2 ^ (8 * j) % 256 = ((leB n j).toNat : Int) := by
  have e : (2 : Int) ^ (8 * j) = ((256 ^ j : Nat) : Int) := by rw [show 256 ^ j = 2 ^ (8 * j) by rw [Nat.pow_mul]]; simp
  rw [e]
  simp only [leB, UInt8.toNat_ofNat']
  omega
theorem bcl_set (l : List UInt8) (j : Nat) (c : UInt8) : (bcl l).set j (.int .u8 (c.toNat : Int)) = bcl (l.set j c) := by
  simp [bcl, List.map_set]
theorem bcl_zero (k : Nat) : List.replicate k (Value.int .u8 0) = bcl (List.replicate k 0) := by simp [bcl]
theorem bcl_get {l : List UInt8} {i : Nat} (h : i < l.length) : (bcl l)[i]? = some (.int .u8 (l[i].toNat : Int)) := by
  simp [bcl, h]

set_option maxHeartbeats 400000 in
theorem lay32_any (n k : Nat) (_hn : n < 4294967296) (hk : k ≤ 4) (w : World) :
    Calls Try.prog 68 #[.int .u32 n, .int .i64 k] w fun e w' => ∃ A c, e = .returned (.slice A k c) ∧
      w'.ownsRow w.heap.size 5 1 (.slice A k c) k (bcl (le k n)) ∧ Below w.heap.size w w' := by
  obtain ⟨i0, hi, hz0, hz1, hz2⟩ := elemB.info
  go_enter Try.func68, Try.ntmps68
  go_wp2_with (at_make; refine wpList_make_full _ rfl _ _ 25 rfl w.heap.size 5 i0 (.int .u8 0) 1 elemB.ht hi hz0 hz1 .i64 .i64 _ _ k rfl rfl rfl rfl (by rw [hz2]; omega) (by unfold maxLen; omega) (Nat.le_refl _) ?_; intro w1 hown hgrow)
  have hB := (Below.refl w.heap.size w).grown hgrow (Nat.le_refl _) (fun _ h => by cases h)
  have hown2 : w1.ownsRow w.heap.size 5 1 (.slice (some ⟨w.heap.size, 0, none⟩) k k) k (bcl (leTo k 0 n)) := by
    rw [leTo_zero, ← bcl_zero, ← toList_madeCells_one]; simpa [Value.cells] using hown
  clear hgrow hz0 hz1 hz2 hi hown
  go_loopw [10] (fun i wr => ∃ j : Nat, i = .int .i64 j ∧ j ≤ k ∧ wr.ownsRow w.heap.size 5 1 (.slice (some ⟨w.heap.size, 0, none⟩) k k) k (bcl (leTo k j n)) ∧ Below w.heap.size w wr) (fun i _ => k - (intOf i).toNat)
  case atStart => exact ⟨0, rfl, by omega, hown2, hB⟩
  case round =>
    clear hown2 hB
    obtain ⟨j, rfl, hj, hx, hB⟩ := hrel
    by_cases hlt : j < k
    · have hc : wr.cell? ⟨w.heap.size, j, none⟩ = some (.int .u8 ((leTo k j n)[j]'(by rw [leTo_length n hj]; exact hlt)).toNat) := by
        rw [hx.cellAt j (by omega), bcl_get (by rw [leTo_length n hj]; exact hlt)]
      have hf := hx.frozenAt j
      go_wp2
      go_roundw
      case rel =>
        rw [leB_val] at *
        obtain ⟨h1, h2⟩ := hx.stored j (.int .u8 ((leB n j).toNat : Int))
        rw [bcl_set, leTo_set n hlt] at h1
        exact ⟨j + 1, by go_num, hlt, h1, hB.grown h2 hB.size (fun g e => by cases e; exact Nat.le_refl _)⟩
      case measure => simp [intOf]; omega
    · go_wp2
      go_ret
      obtain rfl : j = k := by omega
      exact ⟨_, _, rfl, by rw [← leTo_end]; exact hx, hB⟩
set_option maxHeartbeats 400000 in
theorem lay64_any (n k : Nat) (_hn : n < 18446744073709551616) (hk : k ≤ 8) (w : World) :
    Calls Try.prog 67 #[.int .u64 n, .int .i64 k] w fun e w' => ∃ A c, e = .returned (.slice A k c) ∧
      w'.ownsRow w.heap.size 5 1 (.slice A k c) k (bcl (le k n)) ∧ Below w.heap.size w w' := by
  obtain ⟨i0, hi, hz0, hz1, hz2⟩ := elemB.info
  go_enter Try.func67, Try.ntmps67
  go_wp2_with (at_make; refine wpList_make_full _ rfl _ _ 25 rfl w.heap.size 5 i0 (.int .u8 0) 1 elemB.ht hi hz0 hz1 .i64 .i64 _ _ k rfl rfl rfl rfl (by rw [hz2]; omega) (by unfold maxLen; omega) (Nat.le_refl _) ?_; intro w1 hown hgrow)
  have hB := (Below.refl w.heap.size w).grown hgrow (Nat.le_refl _) (fun _ h => by cases h)
  have hown2 : w1.ownsRow w.heap.size 5 1 (.slice (some ⟨w.heap.size, 0, none⟩) k k) k (bcl (leTo k 0 n)) := by
    rw [leTo_zero, ← bcl_zero, ← toList_madeCells_one]; simpa [Value.cells] using hown
  clear hgrow hz0 hz1 hz2 hi hown
  go_loopw [10] (fun i wr => ∃ j : Nat, i = .int .i64 j ∧ j ≤ k ∧ wr.ownsRow w.heap.size 5 1 (.slice (some ⟨w.heap.size, 0, none⟩) k k) k (bcl (leTo k j n)) ∧ Below w.heap.size w wr) (fun i _ => k - (intOf i).toNat)
  case atStart => exact ⟨0, rfl, by omega, hown2, hB⟩
  case round =>
    clear hown2 hB
    obtain ⟨j, rfl, hj, hx, hB⟩ := hrel
    by_cases hlt : j < k
    · have hc : wr.cell? ⟨w.heap.size, j, none⟩ = some (.int .u8 ((leTo k j n)[j]'(by rw [leTo_length n hj]; exact hlt)).toNat) := by
        rw [hx.cellAt j (by omega), bcl_get (by rw [leTo_length n hj]; exact hlt)]
      have hf := hx.frozenAt j
      go_wp2
      go_roundw
      case rel =>
        rw [leB_val] at *
        obtain ⟨h1, h2⟩ := hx.stored j (.int .u8 ((leB n j).toNat : Int))
        rw [bcl_set, leTo_set n hlt] at h1
        exact ⟨j + 1, by go_num, hlt, h1, hB.grown h2 hB.size (fun g e => by cases e; exact Nat.le_refl _)⟩
      case measure => simp [intOf]; omega
    · go_wp2
      go_ret
      obtain rfl : j = k := by omega
      exact ⟨_, _, rfl, by rw [← leTo_end]; exact hx, hB⟩


theorem put4_any (n : Nat) (hn : n < 4294967296) (w : World) :
    Calls Try.prog 51 #[.int .u32 n] w fun e w' => ∃ A c, e = .returned (.slice A 4 c) ∧
      w'.ownsRow w.heap.size 5 1 (.slice A 4 c) 4 (bcl (le 4 n)) ∧ Below w.heap.size w w' := by
  go_enter Try.func51, Try.ntmps51
  go_wp2_with fail
  refine (lay32_any n 4 hn (by omega) _).mono ?_
  rintro e w1 ⟨A, c, rfl, hown, hB⟩
  go_wp2
  go_ret
  exact ⟨A, c, rfl, hown, hB⟩
theorem put8_any (n : Nat) (hn : n < 18446744073709551616) (w : World) :
    Calls Try.prog 50 #[.int .u64 n] w fun e w' => ∃ A c, e = .returned (.slice A 8 c) ∧
      w'.ownsRow w.heap.size 5 1 (.slice A 8 c) 8 (bcl (le 8 n)) ∧ Below w.heap.size w w' := by
  go_enter Try.func50, Try.ntmps50
  go_wp2_with fail
  refine (lay64_any n 8 hn (by omega) _).mono ?_
  rintro e w1 ⟨A, c, rfl, hown, hB⟩
  go_wp2
  go_ret
  exact ⟨A, c, rfl, hown, hB⟩
end Go.Proofs.Ytkanhggmhjldmaa

/- WALK: wire.put -/
namespace Go.Proofs.Ytkanhggmhjldmaa
open Go.RowKit Plain

def wenc (num kind : Nat) (val : Nat) (text : List UInt8) : List UInt8 :=
  vput (8 * num + kind) ++ (if kind = 0 then vput val else if kind = 1 then le 8 val else if kind = 5 then le 4 val else vput text.length ++ text)

theorem tag_or {num kind : Nat} (hnum : num < 536870912) (hkind : kind < 8) : bits BinOp.or IntKind.u64 ((num : Int) * 8) (kind : Int) = ((8 * num + kind : Nat) : Int) := by
  rw [show ((num : Int) * 8) = ((num * 8 : Nat) : Int) by omega, u64_or_nat _ _ (by omega) (by omega), nat_join 3 _ _ (by omega) (by omega)]
  congr 1
  omega
/-- block B is the box of a field -/
def BoxF (W : World) (B : Nat) (num kind : Int) (val : Nat) (text : ByteArray) : Prop := W.heap[B]? = some (.cells #[.int .i64 num, .int .i64 kind, .int .u64 val, .string text] 49 (0, 0))
theorem BoxF.new (W : World) (num kind : Int) (val : Nat) (text : ByteArray) : BoxF (W.alloc (Obj.cells #[Value.int IntKind.i64 num, Value.int IntKind.i64 kind, Value.int IntKind.u64 val, Value.string text] 49)) W.heap.size num kind val text := World.alloc_heap_new W _
theorem BoxF.lt {W : World} {B : Nat} {num kind : Int} {val : Nat} {text : ByteArray} (h : BoxF W B num kind val text) : B < W.heap.size := (Array.getElem?_eq_some_iff.1 h).1
theorem BoxF.below {W W' : World} {B C : Nat} {num kind : Int} {val : Nat} {text : ByteArray} (h : BoxF W B num kind val text) (hb : Below C W W') (hC : B < C) : BoxF W' B num kind val text := (hb.block B hC).trans h
theorem BoxF.row {W W' : World} {B : Nat} {num kind : Int} {val : Nat} {text : ByteArray} (h : BoxF W B num kind val text) {base n c : Nat} {A : Option Addr} {xs : List Value}
    (hr : W.ownsRow base 5 1 (.slice A n c) n xs) (hg : W.grownBy W' (Value.slice A n c).ownBlock) : BoxF W' B num kind val text := by
  refine (hg.block B h.lt ?_).trans h
  rcases hr.2 with ⟨hv, _⟩ | ⟨g, cap, cur, hv, _, hgb, _⟩
  · rw [hv]; simp [Value.ownBlock]
  · rw [hv]
    intro e'
    obtain rfl : B = g := by simpa [Value.ownBlock] using e'
    have := (show W.heap[B]? = _ from h).symm.trans hgb
    simp at this
theorem BoxF.cells {W : World} {B : Nat} {num kind : Int} {val : Nat} {text : ByteArray} (h : BoxF W B num kind val text) :
    W.cell? ⟨B, 0, none⟩ = some (.int .i64 num) ∧ W.cell? ⟨B, 1, none⟩ = some (.int .i64 kind) ∧ W.cell? ⟨B, 2, none⟩ = some (.int .u64 val) ∧ W.cell? ⟨B, 3, none⟩ = some (.string text) := by
  refine ⟨?_, ?_, ?_, ?_⟩ <;> simp [World.cell?, show W.heap[B]? = _ from h]
theorem hStr : Program.underlying Try.prog 9 = some .string := by kernel_rfl
section
variable {w : World} {ops : Array Oper} {rest : List Oper} {o : Oper} {a : Act} {Q : Exit → Act → World → Prop}
/-- append of a string's bytes onto a row of the call's own -/
theorem wpList_appS (hgd : o.guard = none) (s x : Operand)
    (ho : o.op = .call { callee := .builtin .append, args := #[s, x], argTypes := #[25, 9] })
    {base n c : Nat} {A : Option Addr} {l : List UInt8} (hs : a.eval s = .slice A n c)
    (hown : w.ownsRow base 5 1 (.slice A n c) n (bcl l)) {t : ByteArray} (hx : a.eval x = .string t)
    (N : Nat) (hN : n + t.size = N) (hbd : N ≤ 140737488355328) (hbase : base ≤ w.heap.size)
    (h : ∀ A' c' w', w'.ownsRow base 5 1 (.slice A' N c') N (bcl (l ++ t.data.toList)) → w.grownBy w' (Value.slice A n c).ownBlock → wpList Try.prog ops Q rest (a.put o.dst (.slice A' N c')) w') :
    wpList Try.prog ops Q (o :: rest) a w := by
  subst hN
  obtain ⟨i0, hi, hz0, hz1, hz2⟩ := elemB.info
  have hm : n + t.size ≤ maxLen := by unfold maxLen; omega
  refine Go.Lib.wpList_append_own_string w hgd s x _ _ ho base 5 i0 elemB.ht hStr hi hz0 hz1 hz2 _ n _ hs hown t hx hm hbd hbase fun v' w' h1 h2 _ => ?_
  obtain ⟨A', c', rfl⟩ := own_form h1
  refine h A' c' w' ?_ h2
  rw [show bcl (l ++ t.data.toList) = bcl l ++ Go.Lib.strCells t by simp [bcl, Go.Lib.strCells]]
  exact h1
end
theorem wput_end {w w0 : World} {base N c : Nat} {A : Option Addr} {L L2 : List UInt8} (h : w.ownsRow base 5 1 (.slice A N c) N (bcl L)) (hL : L2 = L) (hN : N = L.length) (hB : Below base w0 w) :
    ∃ A' c', Ending.returned (.slice A N c) = .returned (.slice A' L2.length c') ∧ w.ownsRow base 5 1 (.slice A' L2.length c') L2.length (bcl L2) ∧ Below base w0 w := by
  subst hL hN
  exact ⟨A, c, rfl, h, hB⟩
set_option maxHeartbeats 1000000 in
theorem wput_any (num kind : Nat) (val : Nat) (text : ByteArray) (A : Option Addr) (c : Nat) (lo : List UInt8) (hnum : num < 536870912) (hkind : kind = 0 ∨ kind = 1 ∨ kind = 2 ∨ kind = 5) (hv : val < 18446744073709551616) (h5 : kind = 5 → val < 4294967296) (w0 w : World) (base : Nat) (hB0 : Below base w0 w) (hbw : base ≤ w0.heap.size) (hown : w.ownsRow base 5 1 (.slice A lo.length c) lo.length (bcl lo)) (hlen : lo.length + text.size ≤ 1048576) :
    Calls Try.prog 36 #[.slice A lo.length c, .agg #[.int .i64 num, .int .i64 kind, .int .u64 val, .string text]] w fun e w' => ∃ A' c', e = .returned (.slice A' (lo ++ wenc num kind val text.data.toList).length c') ∧
      w'.ownsRow base 5 1 (.slice A' (lo ++ wenc num kind val text.data.toList).length c') (lo ++ wenc num kind val text.data.toList).length (bcl (lo ++ wenc num kind val text.data.toList)) ∧ Below base w0 w' := by
  obtain ⟨T, hT, htag⟩ : ∃ T : Nat, 8 * num + kind = T ∧ bits BinOp.or IntKind.u64 ((num : Int) * 8) (kind : Int) = (T : Int) := ⟨_, rfl, tag_or hnum (by omega)⟩
  have HT := Lib.hid hT
  have hT64 : T < 18446744073709551616 := by omega
  clear hT
  have hB1 := hB0.alloc (by have := hB0.size; omega) (Obj.cells #[Value.int IntKind.i64 num, Value.int IntKind.i64 kind, Value.int IntKind.u64 val, Value.string text] 49)
  have hown1 := hown.alloc (Obj.cells #[Value.int IntKind.i64 num, Value.int IntKind.i64 kind, Value.int IntKind.u64 val, Value.string text] 49)
  have hbd := vsize_bd T
  go_enter Try.func36, Try.ntmps36
  go_wp2_with fail
  refine (put_any T hT64 _).mono ?_
  rintro e w1 ⟨A1, c1, rfl, ho1, hB2⟩
  have hF := (BoxF.new w (num : Int) (kind : Int) val text).below hB2 (by simp)
  have hbw2 : base ≤ w.heap.size := by have := hB0.size; omega
  have hown2 := own_kept hown1 hB2 (by simp)
  have hB3 := hB1.trans (hB2.mono (by simp; omega))
  have hr1 := Rd.of_own ho1
  have hbw3 := hB3.size
  clear hown1 hown ho1 hB1 hB2 hB0
  go_wp2_with (at_builtin; go_loud (refine wpList_appB rfl (.tmp 5) (.tmp 14) rfl rfl hown2 rfl hr1 rfl (lo.length + vsize T) rfl (by omega) (by omega) ?_); intro A3 c3 w3 ho3 hg3; have hF3 := hF.row hown2 hg3; have hB4 := own_grown hB3 hown2 (by omega) hg3; obtain ⟨d0, d1, d2, d3⟩ := hF3.cells; clear hg3 hown2 hr1 hB3 hF)
  all_goals have hvs := vsize_bd val
  · have hk0 : kind = 0 := by have := eq_of_beq (by assumption : ((kind : Int) == 0) = true); omega
    refine (put_any val hv _).mono ?_
    rintro e w4 ⟨A4, c4, rfl, ho4, hB5⟩
    have hbw4 := hB4.size
    have ho3' := own_kept ho3 hB5 (by omega)
    have hr4 := Rd.of_own ho4
    have hB6 := hB4.trans (hB5.mono (by omega))
    have hbw6 := hB6.size
    clear ho3 ho4 hB4 hB5
    go_wp2_with (at_builtin; refine wpList_appB rfl _ _ rfl rfl ho3' rfl hr4 rfl (lo.length + vsize T + vsize val) rfl (by omega) (by omega) ?_; intro A5 c5 w5 ho5 hg5)
    go_ret
    exact wput_end ho5 (by unfold wenc; rw [if_pos hk0, HT.out, List.append_assoc]) (by simp [vsize]; omega) (own_grown hB6 ho3' (by omega) hg5)
  · have hk1 : kind = 1 := by have := eq_of_beq (by assumption : ((kind : Int) == 1) = true); omega
    refine (put8_any val hv _).mono ?_
    rintro e w4 ⟨A4, c4, rfl, ho4, hB5⟩
    have hbw4 := hB4.size
    have ho3' := own_kept ho3 hB5 (by omega)
    have hr4 := Rd.of_own ho4
    have hB6 := hB4.trans (hB5.mono (by omega))
    have hbw6 := hB6.size
    clear ho3 ho4 hB4 hB5
    go_wp2_with (at_builtin; refine wpList_appB rfl _ _ rfl rfl ho3' rfl hr4 (le_length _ _) (lo.length + vsize T + 8) rfl (by omega) (by omega) ?_; intro A5 c5 w5 ho5 hg5)
    go_ret
    exact wput_end ho5 (by unfold wenc; rw [if_neg (by omega), if_pos hk1, HT.out, List.append_assoc]) (by simp [vsize, le_length]; omega) (own_grown hB6 ho3' (by omega) hg5)
  · have hk5 : kind = 5 := by have := eq_of_beq (by assumption : ((kind : Int) == 5) = true); omega
    have hv4 := h5 hk5
    clear h5
    have hv5 : ((val : Int) % 4294967296) = (val : Int) := Int.emod_eq_of_lt (by omega) (by omega)
    rw [hv5]
    refine (put4_any val hv4 _).mono ?_
    rintro e w4 ⟨A4, c4, rfl, ho4, hB5⟩
    have hbw4 := hB4.size
    have ho3' := own_kept ho3 hB5 (by omega)
    have hr4 := Rd.of_own ho4
    have hB6 := hB4.trans (hB5.mono (by omega))
    have hbw6 := hB6.size
    clear ho3 ho4 hB4 hB5 hv5 hv4
    go_wp2_with (at_builtin; refine wpList_appB rfl _ _ rfl rfl ho3' rfl hr4 (le_length _ _) (lo.length + vsize T + 4) rfl (by omega) (by omega) ?_; intro A5 c5 w5 ho5 hg5)
    go_ret
    exact wput_end ho5 (by unfold wenc; rw [if_neg (by omega), if_neg (by omega), if_pos hk5, HT.out, List.append_assoc]) (by simp [vsize, le_length]; omega) (own_grown hB6 ho3' (by omega) hg5)
  · have hk2 : kind = 2 := by
      have a0 : ¬ (kind : Int) = 0 := by simpa using (by assumption : ((kind : Int) == 0) = false)
      have a1 : ¬ (kind : Int) = 1 := by simpa using (by assumption : ((kind : Int) == 1) = false)
      have a5 : ¬ (kind : Int) = 5 := by simpa using (by assumption : ((kind : Int) == 5) = false)
      omega
    clear h5
    refine (put_any text.size (by omega) _).mono ?_
    rintro e w4 ⟨A4, c4, rfl, ho4, hB5⟩
    have hbw4 := hB4.size
    have ho3' := own_kept ho3 hB5 (by omega)
    have hr4 := Rd.of_own ho4
    have hB6 := hB4.trans (hB5.mono (by omega))
    have hbw6 := hB6.size
    have hF4 := hF3.below hB5 hF3.lt
    clear ho3 ho4 hB4 hB5
    have hts := vsize_bd text.size
    clear d0 d1 d2 d3 hF3
    go_wp2_with (at_builtin; first
      | (refine wpList_appB rfl _ _ rfl rfl ho3' rfl hr4 rfl (lo.length + vsize T + vsize text.size) rfl (by omega) (by omega) ?_; intro A5 c5 w5 ho5 hg5; have hF5 := hF4.row ho3' hg5; have hB7 := own_grown hB6 ho3' (by omega) hg5; have hbw7 := hB7.size; obtain ⟨_, _, _, e3⟩ := hF5.cells; clear hg5 hF5 hF4 ho3' hB6 hr4)
      | (refine wpList_appS rfl _ _ rfl rfl ho5 rfl (lo.length + vsize T + vsize text.size + text.size) rfl (by omega) (by omega) ?_; intro A6 c6 w6 ho6 hg6))
    go_ret
    exact wput_end ho6 (by unfold wenc; rw [if_neg (by omega), if_neg (by omega), if_neg (by omega), HT.out]; simp) (by simp [vsize]; omega) (own_grown hB7 ho5 (by omega) hg6)
end Go.Proofs.Ytkanhggmhjldmaa

/- FIELDS: a list of api.Field in memory. -/
namespace Go.Proofs.Ytkanhggmhjldmaa
open Go.RowKit

structure Fld where
  num : Int
  kind : Int
  val : Nat
  text : ByteArray
def Fld.cells (f : Fld) : List Value := [.int .i64 f.num, .int .i64 f.kind, .int .u64 f.val, .string f.text]
def flc (l : List Fld) : List Value := l.flatMap Fld.cells
theorem flc_len (l : List Fld) : (flc l).length = 4 * l.length := by
  induction l with
  | nil => rfl
  | cons f l ih => simp only [flc, List.flatMap_cons, List.length_append, List.length_cons] at *; rw [ih]; simp [Fld.cells]; omega
theorem flc_at : ∀ {l : List Fld} {i : Nat} {f : Fld}, l[i]? = some f → ∀ j, j < 4 → (flc l)[4 * i + j]? = f.cells[j]? := by
  intro l
  induction l with
  | nil => intro i f h; simp at h
  | cons g l ih =>
    intro i f h j hj
    simp only [flc, List.flatMap_cons]
    cases i with
    | zero =>
      obtain rfl : g = f := by simpa using h
      rw [List.getElem?_append_left (by simp [Fld.cells]; omega)]
      simp
    | succ i =>
      rw [List.getElem?_append_right (by simp [Fld.cells]; omega)]
      have := ih (by simpa using h) j hj
      rw [← this]
      congr 1
      simp [Fld.cells]; omega
def FldOk (f : Fld) : Prop := -9223372036854775808 ≤ f.num ∧ f.num ≤ 9223372036854775807 ∧ f.val < 18446744073709551616
theorem fld_at {w : World} {B : Nat} {A : Option Addr} {l : List Fld} {j : Nat} {f : Fld} (hr : Rd w B A (flc l)) (hf : l[j]? = some f) :
    ∃ b o, A = some ⟨b, o, none⟩ ∧ b < B ∧ w.cell? ⟨b, o + j * 4, none⟩ = some (.int .i64 f.num) ∧ w.cell? ⟨b, o + j * 4 + 1, none⟩ = some (.int .i64 f.kind) ∧ w.cell? ⟨b, o + j * 4 + 2, none⟩ = some (.int .u64 f.val) ∧ w.cell? ⟨b, o + j * 4 + 3, none⟩ = some (.string f.text) := by
  have hlen := flc_len l
  have hlt := (List.getElem?_eq_some_iff.1 hf).1
  obtain ⟨b, o, rfl, hb, hc⟩ := hr.some_ (by omega)
  have g : ∀ i, i < 4 → w.cell? ⟨b, o + j * 4 + i, none⟩ = f.cells[i]? := fun i hi => by
    rw [show o + j * 4 + i = o + (4 * j + i) by omega]; exact (hc _ (by omega)).trans (flc_at hf i hi)
  exact ⟨b, o, rfl, hb, g 0 (by omega), g 1 (by omega), g 2 (by omega), g 3 (by omega)⟩
theorem drop_cons {α : Type} {l : List α} {j : Nat} {f : α} (h : l[j]? = some f) : l.drop j = f :: l.drop (j + 1) := by
  obtain ⟨h1, h2⟩ := List.getElem?_eq_some_iff.1 h
  rw [List.drop_eq_getElem_cons h1, h2]
end Go.Proofs.Ytkanhggmhjldmaa

/- PLAIN LAW: fields as bytes. -/
namespace Go.Proofs.Ytkanhggmhjldmaa
open Go.RowKit Plain

def werrF (f : Fld) : Int := wwrong f.num f.kind f.val f.text.toList.isEmpty
def wencF (f : Fld) : List UInt8 := wenc f.num.toNat f.kind.toNat f.val f.text.data.toList
def werrs : List Fld → Int
  | [] => 0
  | f :: l => if werrF f = 0 then werrs l else werrF f
def wencs (l : List Fld) : List UInt8 := l.flatMap wencF
/-- what wire.Put answers -/
def wput (l : List Fld) : List UInt8 × Int :=
  if werrs l = 0 then if 256 < l.length then ([], 6) else if 4096 < (wencs l).length then ([], 3) else (wencs l, 0) else ([], werrs l)

theorem werrs_mem {l : List Fld} (h : werrs l = 0) : ∀ f ∈ l, werrF f = 0 := by
  induction l with
  | nil => simp
  | cons f l ih =>
    rw [werrs] at h
    split at h
    · intro g hg
      rcases List.mem_cons.1 hg with rfl | hg
      · assumption
      · exact ih h g hg
    · omega
theorem werrF_ok {f : Fld} (h : werrF f = 0) : 1 ≤ f.num ∧ f.num < 536870912 ∧ (f.kind = 0 ∨ f.kind = 1 ∨ f.kind = 2 ∨ f.kind = 5) ∧ (f.kind = 5 → f.val < 4294967296) ∧ (f.kind = 2 → f.val = 0) ∧ (¬ f.kind = 2 → f.text.toList.isEmpty = true) := by
  unfold werrF wwrong at h
  split at h; · omega
  split at h; · omega
  split at h; · omega
  split at h; · omega
  rename_i h1 h2 h3 h4
  refine ⟨by omega, by omega, by omega, by omega, by omega, fun hk => ?_⟩
  cases he : f.text.toList.isEmpty
  · exact absurd (.inl ⟨hk, he⟩) h3
  · rfl
theorem wencs_take {l : List Fld} {j : Nat} {f : Fld} (h : l[j]? = some f) : wencs (l.take (j + 1)) = wencs (l.take j) ++ wencF f := by
  obtain ⟨h1, h2⟩ := List.getElem?_eq_some_iff.1 h
  rw [List.take_add_one, h]
  simp [wencs]
theorem wencs_len (l : List Fld) (j : Nat) : (wencs (l.take j)).length ≤ (wencs l).length := by
  have e : wencs l = wencs (l.take j) ++ wencs (l.drop j) := by unfold wencs; rw [← List.flatMap_append, List.take_append_drop]
  rw [e, List.length_append]
  omega
theorem wenc_text (num kind val : Nat) (text : List UInt8) (h : kind = 2) : text.length ≤ (wenc num kind val text).length := by
  unfold wenc; rw [if_neg (by omega), if_neg (by omega), if_neg (by omega)]; simp; omega
theorem wenc_len (num kind val : Nat) (text : List UInt8) (h : text.length ≤ 1048576) : (wenc num kind val text).length ≤ 1048600 := by
  have h1 := vsize_bd (8 * num + kind)
  have h2 := vsize_bd val
  have h3 := vsize_bd text.length
  simp only [vsize] at h1 h2 h3
  unfold wenc
  split
  · simp; omega
  split
  · simp [le_length]; omega
  split
  · simp [le_length]; omega
  · simp; omega
end Go.Proofs.Ytkanhggmhjldmaa

/- WALK: wire.Put -/
namespace Go.Proofs.Ytkanhggmhjldmaa
open Go.RowKit Plain

theorem size_empty {s : ByteArray} (h : s.toList.isEmpty = true) : s.size = 0 := by
  rw [ByteArray.toList_eq] at h
  have h2 : s.data = #[] := by simpa using h
  show s.data.size = 0
  rw [h2]
  rfl
def PutsPost (l : List Fld) (w : World) (e : Ending) (w' : World) : Prop :=
  ∃ A c, e = .returned (.tuple #[.slice A (wput l).1.length c, .int .i64 (wput l).2]) ∧ w'.ownsRow w.heap.size 5 1 (.slice A (wput l).1.length c) (wput l).1.length (bcl (wput l).1) ∧ Below w.heap.size w w'
theorem puts_err {l : List Fld} {w w' : World} {e : Int} (h : wput l = ([], e)) (hB : Below w.heap.size w w') : PutsPost l w (.returned (.tuple #[.slice none 0 0, .int .i64 e])) w' :=
  ⟨none, 0, by rw [h]; rfl, by rw [h]; exact World.ownsRow_nil w' _ _ _, hB⟩

set_option maxHeartbeats 1000000 in
theorem puts_any (l : List Fld) (A : Option Addr) (c : Nat) (hl : l.length ≤ 9223372036854775807) (hwf : ∀ f ∈ l, FldOk f) (w : World) (hr : Rd w w.heap.size A (flc l)) :
    Calls Try.prog 17 #[.slice A l.length c] w (PutsPost l w) := by
  have HR := Lib.hid hr
  have HWF := Lib.hid hwf
  clear hr hwf
  go_enter Try.func17, Try.ntmps17
  go_wp2_with fail
  go_loopw [12] (fun i wr => ∃ j : Nat, i = .int .i64 j ∧ j ≤ l.length ∧ werrs l = werrs (l.drop j) ∧ Below w.heap.size w wr) (fun i _ => l.length - (intOf i).toNat)
  case atStart => exact ⟨0, rfl, Nat.zero_le _, rfl, Below.refl _ _⟩
  case round =>
    obtain ⟨j, rfl, hj, he, hB⟩ := hrel
    have HE := Lib.hid he
    clear he
    by_cases hlt : j < l.length
    · obtain ⟨f, hf⟩ : ∃ f, l[j]? = some f := ⟨_, List.getElem?_eq_getElem hlt⟩
      obtain ⟨b1, o1, rfl, hb1, g0, g1, g2, g3⟩ := fld_at (HR.out.below hB (Nat.le_refl _)) hf
      have HD := Lib.hid (drop_cons hf)
      have hBA := hB.alloc hB.size (Obj.cells #[.int .i64 f.num, .int .i64 f.kind, .int .u64 f.val, .string f.text] 49)
      by_cases h0 : werrF f = 0
      · have H0 := Lib.hid h0
        clear h0 hf
        go_wp2_with (go_at_call 35; refine (wwrong_any _ _ _ _ _).mono ?_; rintro e w1 ⟨rfl, hB1⟩; rw [show wwrong f.num f.kind f.val f.text.toList.isEmpty = 0 from H0.out]; replace hBA := bel_step hBA hB1)
        go_roundw
        case rel => exact ⟨j + 1, by go_num, by omega, by rw [HE.out, HD.out, werrs, if_pos H0.out], hBA⟩
        case measure => simp [intOf]; omega
      · obtain ⟨E, hE⟩ : ∃ E, werrF f = E := ⟨_, rfl⟩
        have h0b : (E != 0) = true := by rw [← hE]; simpa using h0
        have H0 := Lib.hid hE
        have HW : Hid (werrs l = E) := Lib.hid (by rw [HE.out, HD.out, werrs, if_neg h0, hE])
        have HN := Lib.hid h0
        clear h0 hf hE
        go_wp2_with (go_at_call 35; refine (wwrong_any _ _ _ _ _).mono ?_; rintro e w1 ⟨rfl, hB1⟩; rw [show wwrong f.num f.kind f.val f.text.toList.isEmpty = E from H0.out]; replace hBA := bel_step hBA hB1)
        go_ret2
        exact puts_err (by unfold wput; rw [if_neg (by rw [HW.out, ← H0.out]; exact HN.out), HW.out]) hBA
    · have hz : werrs l = 0 := by rw [HE.out, List.drop_eq_nil_of_le (by omega)]; rfl
      have HZ := Lib.hid hz
      clear hz HE
      have HB := Lib.hid hB
      by_cases hfull : 256 < l.length
      · have hb : decide ((256 : Int) < (l.length : Int)) = true := by simp; omega
        go_wp2_with fail
        go_ret2
        exact puts_err (by unfold wput; rw [if_pos HZ.out, if_pos hfull]) hB
      · go_wp2_with fail
        clear hB hlt hj
        have hB := HB.out
        go_loopw [7, 27] (fun o i wr => ∃ (j : Nat) (A2 : Option Addr) (c2 N : Nat), i = .int .i64 j ∧ o = .slice A2 N c2 ∧ j ≤ l.length ∧ N = (wencs (l.take j)).length ∧ N ≤ 4096 ∧ wr.ownsRow w.heap.size 5 1 (.slice A2 N c2) N (bcl (wencs (l.take j))) ∧ Below w.heap.size w wr) (fun _ i _ => l.length - (intOf i).toNat)
        case atStart => exact ⟨0, none, 0, 0, rfl, rfl, Nat.zero_le _, rfl, by omega, World.ownsRow_nil _ _ _ _, hB⟩
        case round =>
          clear hB HB
          obtain ⟨j, A2, c2, N, rfl, rfl, hj, hN, hN4, hown, hB⟩ := hrel
          have HNN := Lib.hid hN
          by_cases hlt : j < l.length
          · obtain ⟨f, hf⟩ : ∃ f, l[j]? = some f := ⟨_, List.getElem?_eq_getElem hlt⟩
            obtain ⟨b1, o1, rfl, hb1, g0, g1, g2, g3⟩ := fld_at (HR.out.below hB (Nat.le_refl _)) hf
            have HT := Lib.hid (wencs_take hf)
            obtain ⟨k0, k1, k2, k3, k4, k5⟩ := werrF_ok (werrs_mem HZ.out f (List.mem_of_getElem? hf))
            have hval := (HWF.out f (List.mem_of_getElem? hf)).2.2
            have hle := wencs_len l (j + 1)
            rw [wencs_take hf, List.length_append, ← hN] at hle
            clear hN hf
            obtain ⟨fnum, fkind, fval, ftext⟩ := f
            obtain ⟨num, rfl⟩ := Int.eq_ofNat_of_zero_le (show 0 ≤ fnum by simp at k0; omega)
            obtain ⟨kind, rfl⟩ := Int.eq_ofNat_of_zero_le (show 0 ≤ fkind by simp at k2; omega)
            have k1' : (num : Int) < 536870912 := k1
            have k2' : (kind : Int) = 0 ∨ (kind : Int) = 1 ∨ (kind : Int) = 2 ∨ (kind : Int) = 5 := k2
            have k3' : (kind : Int) = 5 → fval < 4294967296 := k3
            clear k1 k2 k3
            have HTW : Hid (wencF ⟨num, kind, fval, ftext⟩ = wenc num kind fval ftext.data.toList) := Lib.hid rfl
            have htx : ftext.size ≤ (wenc num kind fval ftext.data.toList).length := by
              by_cases hk2 : kind = 2
              · exact wenc_text _ _ _ _ hk2
              · have := k5 (by simp; omega)
                have e0 : ftext.size = 0 := size_empty this
                omega
            simp only [HTW.out] at hle
            clear k4 k5
            by_cases hlong : 4096 - (N : Int) < ftext.size
            · go_wp2_with fail
              go_ret2
              exact puts_err (by unfold wput; rw [if_pos HZ.out, if_neg hfull, if_pos (by omega)]) (hB.alloc hB.size _)
            · have HTX := Lib.hid htx
              clear htx
              have hBA := hB.alloc hB.size (Obj.cells #[.int .i64 num, .int .i64 kind, .int .u64 fval, .string ftext] 49)
              have hrun := hown.alloc (Obj.cells #[.int .i64 num, .int .i64 kind, .int .u64 fval, .string ftext] 49)
              go_wp2_with fail
              have e := HNN.out
              subst e
              refine (wput_any num kind fval ftext A2 c2 _ (by omega) (by omega) hval (fun h => k3' (by omega)) w _ w.heap.size hBA (Nat.le_refl _) hrun (by omega)).mono ?_
              rintro e w1 ⟨A3, c3, rfl, hown3, hB3⟩
              rw [← HTW.out, ← HT.out] at hown3 ⊢
              have hle2 := wencs_len l (j + 1)
              by_cases hfin : 4096 < (wencs (l.take (j + 1))).length
              · have hb : decide ((4096 : Int) < ((wencs (l.take (j + 1))).length : Int)) = true := by simp; omega
                go_wp2_with fail
                go_ret2
                exact puts_err (by unfold wput; rw [if_pos HZ.out, if_neg hfull, if_pos (by omega)]) hB3
              · have hb : decide ((4096 : Int) < ((wencs (l.take (j + 1))).length : Int)) = false := by simp; omega
                go_wp2_with fail
                go_roundw
                case rel => exact ⟨j + 1, A3, c3, _, by go_num, rfl, by omega, rfl, by omega, hown3, hB3⟩
                case measure => simp [intOf]; omega
          · have e : l.take j = l := List.take_of_length_le (by omega)
            rw [e] at hown hN HNN
            subst hN
            go_wp2_with fail
            go_ret2
            have hw : wput l = (wencs l, 0) := by unfold wput; rw [if_pos HZ.out, if_neg hfull, if_neg (by omega)]
            exact ⟨A2, c2, by rw [hw]; rfl, by rw [hw]; exact hown, hB⟩
end Go.Proofs.Ytkanhggmhjldmaa

/- WALKS: the reference of layer 1: Put; what Get needs. -/
namespace Go.Proofs.Ytkanhggmhjldmaa
open Go.RowKit Plain

set_option maxHeartbeats 400000 in
theorem rvput_any (n : Nat) (hn : n < 18446744073709551616) (w : World) :
    Calls Try.prog 23 #[.int .u64 n] w fun e w' => ∃ A c, e = .returned (.slice A (vsize n) c) ∧
      w'.ownsRow w.heap.size 5 1 (.slice A (vsize n) c) (vsize n) (bcl (vput n)) ∧ Below w.heap.size w w' := by
  go_enter Try.func23, Try.ntmps23
  go_wp2
  go_loopw [3, 4] (fun v a wr => ∃ (m : Nat) (acc : List UInt8) (A : Option Addr) (c : Nat), m < 18446744073709551616 ∧ a = .int .u64 m ∧ v = .slice A acc.length c ∧
      wr.ownsRow w.heap.size 5 1 (.slice A acc.length c) acc.length (bcl acc) ∧ vput n = acc ++ vput m ∧ Below w.heap.size w wr) (fun _ a _ => (intOf a).toNat)
  case atStart => exact ⟨n, [], _, _, hn, rfl, rfl, World.ownsRow_nil _ _ _ _, rfl, Below.refl _ _⟩
  case round =>
    obtain ⟨m, acc, A, c, hm, rfl, rfl, hown, hv, hB⟩ := hrel
    have hlen : acc.length + (vput m).length ≤ 10 := by have e := congrArg List.length hv; rw [List.length_append] at e; have h2 := vsize_bd n; unfold vsize at h2; omega
    have hl1 : 1 ≤ (vput m).length := (vsize_bd m).1
    have HV := Lib.hid hv
    clear hv
    have hb0 := hB.size
    by_cases h0 : m < 128
    · have hd : decide ((128 : Int) ≤ (m : Int)) = false := by simp; omega
      have H0 := Lib.hid h0
      clear h0
      go_wp2_with (at_builtin; refine wpList_app1 rfl _ _ _ rfl elemB rfl hown rfl rfl (by intro u hu; simp at hu; subst hu; rfl) (by unfold maxLen; omega) (by omega) hb0 ?_; intro A1 c1 w2 hown2 hg2 _)
      go_ret
      obtain ⟨e1, e2⟩ := put_last HV.out H0.out
      rw [show (m : Int) % 256 = (m : Int) by have := H0.out; omega] at hown2
      exact ⟨A1, c1, by rw [e1]; rfl, by rw [e1, e2]; exact hown2, own_grown hB hown hb0 hg2⟩
    · have hd : decide ((128 : Int) ≤ (m : Int)) = true := by simp; omega
      have H0 := Lib.hid h0
      clear h0
      go_wp2_with (at_builtin; refine wpList_app1 rfl _ _ _ rfl elemB rfl hown rfl rfl (by intro u hu; simp at hu; subst hu; rfl) (by unfold maxLen; omega) (by omega) hb0 ?_; intro A1 c1 w2 hown2 hg2 _)
      go_roundw
      case rel =>
        refine ⟨m / 128, acc ++ [UInt8.ofNat (m % 128 + 128)], A1, c1, by omega, by go_num, by simp, ?_, ?_, own_grown hB hown hb0 hg2⟩
        · rw [List.length_append, bcl_snoc _ _ (by omega)]; exact hown2
        · rw [HV.out, vput_ge H0.out hm, List.append_assoc]; rfl
      case measure => have := H0.out; simp [intOf]; omega
/-! the reference's Get -/
theorem vget_arg (l : List UInt8) (p : Int) (h : p < 0 ∨ (l.length : Int) < p) : vget l p = (0, 0, 1) := by unfold vget; rw [if_pos h]
/-- what is left to do behind i bytes -/
theorem vgo_stop {i v : Nat} : ∀ {l : List UInt8}, l = [] → i < 10 → vgo (10 - i) i v l = (0, 0, 2) := by
  intro l hl hi
  subst hl
  obtain ⟨f, hf⟩ : ∃ f, 10 - i = f + 1 := ⟨9 - i, by omega⟩
  rw [hf]; rfl
theorem vgo_cons {i v : Nat} {c : UInt8} {l : List UInt8} (hi : i < 10) : vgo (10 - i) i v (c :: l) =
    if i = 9 ∧ 1 < c.toNat then (0, 0, 3) else if c.toNat < 128 then (v + c.toNat * 128 ^ i, i + 1, 0) else vgo (10 - (i + 1)) (i + 1) (v + c.toNat % 128 * 128 ^ i) l := by
  obtain ⟨f, hf⟩ : ∃ f, 10 - i = f + 1 := ⟨9 - i, by omega⟩
  have hf2 : 10 - (i + 1) = f := by omega
  rw [hf, hf2]; rfl
end Go.Proofs.Ytkanhggmhjldmaa

/- WALKS: fixed.raise, cut, read, Get4, Get8 (the program's own) compute fget. -/
namespace Go.Proofs.Ytkanhggmhjldmaa
open Go.RowKit Plain

theorem un_take_succ {l : List UInt8} {j : Nat} (h : j < l.length) : un (l.take (j + 1)) = un (l.take j) + 256 ^ j * l[j].toNat := by
  rw [List.take_succ_eq_append_getElem h, un_append]
  simp [un, Nat.min_eq_left (Nat.le_of_lt h)]

theorem orsh32 (v c j : Nat) (hj : j < 4) (hv : v < 256 ^ j) (hc : c < 256) :
    bits BinOp.or IntKind.u32 (v : Int) ((c : Int) % 4294967296 * 2 ^ (8 * j) % 4294967296) = ((v + 256 ^ j * c : Nat) : Int) := by
  have hp : 256 ^ (j + 1) ≤ 256 ^ 4 := Nat.pow_le_pow_right (by omega) (by omega)
  have hk : 256 ^ 4 = 4294967296 := by decide
  rw [Nat.pow_succ] at hp
  have hm : 256 ^ j * c ≤ 256 ^ j * 255 := Nat.mul_le_mul_left _ (by omega)
  have e1 : (c : Int) % 4294967296 = (c : Int) := by omega
  have e2 : (c : Int) * 2 ^ (8 * j) = ((256 ^ j * c : Nat) : Int) := by
    rw [show (2 : Int) ^ (8 * j) = ((256 ^ j : Nat) : Int) by rw [show 256 ^ j = 2 ^ (8 * j) by rw [Nat.pow_mul]]; simp]
    rw [Nat.mul_comm, Int.natCast_mul]
  rw [e1, e2]
  generalize hq : 256 ^ j * c = q at *
  have e3 : (q : Int) % 4294967296 = (q : Int) := by omega
  rw [e3, u32_or_nat _ _ (by omega) (by omega)]
  have e4 : 256 ^ j = 2 ^ (8 * j) := by rw [Nat.pow_mul]
  rw [e4] at hv hq
  rw [← hq, Nat.or_comm, ← Nat.two_pow_add_eq_or_of_lt hv, Nat.add_comm]
theorem raise32_any (A : Option Addr) (n c : Nat) (l : List UInt8) (hn : l.length = n) (h8 : n ≤ 4) (B : Nat) (w : World) (hr : Rd w B A (bcl l)) :
    Calls Try.prog 82 #[.slice A n c] w fun e w' => e = .returned (.int .u32 (un l : Nat)) ∧ w = w' := by
  subst hn
  go_enter Try.func82, Try.ntmps82
  go_wp2
  go_loop [3, 4, 7] (fun v i4 i => ∃ j : Nat, i = .int .i64 j ∧ j ≤ l.length ∧ v = .int .u32 (un (l.take j) : Nat)) (fun _ _ i => l.length - (intOf i).toNat)
  case atStart => exact ⟨0, rfl, by omega, rfl⟩
  case round =>
    obtain ⟨j, rfl, hj, rfl⟩ := hrel
    by_cases hlt : j < l.length
    · obtain ⟨b, off, rfl, hb, hcell⟩ := hr.some_ (by simp [bcl]; omega)
      have hcj := hcell j (by simp [bcl]; exact hlt)
      rw [bcl_get hlt] at hcj
      clear hcell hr
      go_wp2
      go_round
      case rel =>
        have hv := un_lt (l.take j)
        rw [List.length_take, Nat.min_eq_left hj] at hv
        have ho := orsh32 (un (l.take j)) (l[j]).toNat j (by omega) hv (l[j]).toNat_lt
        rw [← un_take_succ hlt] at ho
        exact ⟨j + 1, by go_num, hlt, by rw [← ho]⟩
      case measure => simp [intOf]; omega
    · go_wp2
      go_ret
      obtain rfl : j = l.length := by omega
      exact ⟨congrArg (fun z : Nat => Ending.returned (.int .u32 (z : Int))) (by rw [List.take_length]), rfl⟩
theorem orsh64 (v c j : Nat) (hj : j < 8) (hv : v < 256 ^ j) (hc : c < 256) :
    bits BinOp.or IntKind.u64 (v : Int) ((c : Int) % 18446744073709551616 * 2 ^ (8 * j) % 18446744073709551616) = ((v + 256 ^ j * c : Nat) : Int) := by
  have hp : 256 ^ (j + 1) ≤ 256 ^ 8 := Nat.pow_le_pow_right (by omega) (by omega)
  have hk : 256 ^ 8 = 18446744073709551616 := by decide
  rw [Nat.pow_succ] at hp
  have hm : 256 ^ j * c ≤ 256 ^ j * 255 := Nat.mul_le_mul_left _ (by omega)
  have e1 : (c : Int) % 18446744073709551616 = (c : Int) := by omega
  have e2 : (c : Int) * 2 ^ (8 * j) = ((256 ^ j * c : Nat) : Int) := by
    rw [show (2 : Int) ^ (8 * j) = ((256 ^ j : Nat) : Int) by rw [show 256 ^ j = 2 ^ (8 * j) by rw [Nat.pow_mul]]; simp]
    rw [Nat.mul_comm, Int.natCast_mul]
  rw [e1, e2]
  generalize hq : 256 ^ j * c = q at *
  have e3 : (q : Int) % 18446744073709551616 = (q : Int) := by omega
  rw [e3, u64_or_nat _ _ (by omega) (by omega)]
  have e4 : 256 ^ j = 2 ^ (8 * j) := by rw [Nat.pow_mul]
  rw [e4] at hv hq
  rw [← hq, Nat.or_comm, ← Nat.two_pow_add_eq_or_of_lt hv, Nat.add_comm]
theorem raise64_any (A : Option Addr) (n c : Nat) (l : List UInt8) (hn : l.length = n) (h8 : n ≤ 8) (B : Nat) (w : World) (hr : Rd w B A (bcl l)) :
    Calls Try.prog 81 #[.slice A n c] w fun e w' => e = .returned (.int .u64 (un l : Nat)) ∧ w = w' := by
  subst hn
  go_enter Try.func81, Try.ntmps81
  go_wp2
  go_loop [3, 4, 7] (fun v i4 i => ∃ j : Nat, i = .int .i64 j ∧ j ≤ l.length ∧ v = .int .u64 (un (l.take j) : Nat)) (fun _ _ i => l.length - (intOf i).toNat)
  case atStart => exact ⟨0, rfl, by omega, rfl⟩
  case round =>
    obtain ⟨j, rfl, hj, rfl⟩ := hrel
    by_cases hlt : j < l.length
    · obtain ⟨b, off, rfl, hb, hcell⟩ := hr.some_ (by simp [bcl]; omega)
      have hcj := hcell j (by simp [bcl]; exact hlt)
      rw [bcl_get hlt] at hcj
      clear hcell hr
      go_wp2
      go_round
      case rel =>
        have hv := un_lt (l.take j)
        rw [List.length_take, Nat.min_eq_left hj] at hv
        have ho := orsh64 (un (l.take j)) (l[j]).toNat j (by omega) hv (l[j]).toNat_lt
        rw [← un_take_succ hlt] at ho
        exact ⟨j + 1, by go_num, hlt, by simp only [IntKind.wrap_u64]; rw [← ho]⟩
      case measure => simp [intOf]; omega
    · go_wp2
      go_ret
      obtain rfl : j = l.length := by omega
      exact ⟨congrArg (fun z : Nat => Ending.returned (.int .u64 (z : Int))) (by rw [List.take_length]), rfl⟩

theorem fget_arg (k : Nat) (l : List UInt8) (p : Int) (h : p < 0 ∨ (l.length : Int) < p) : fget k l p = (0, 0, 1) := by unfold fget; rw [if_pos h]
theorem fget_short (k : Nat) (l : List UInt8) (p : Nat) (h : p ≤ l.length) (h2 : l.length < p + k) : fget k l p = (0, 0, 2) := by
  unfold fget; rw [if_neg (by omega), if_pos (by omega)]
theorem fget_ok (k : Nat) (l : List UInt8) (p : Nat) (h2 : p + k ≤ l.length) : fget k l p = (un ((l.drop p).take k), p + k, 0) := by
  unfold fget; rw [if_neg (by omega), if_neg (by omega)]; simp

theorem cut_arg (A : Option Addr) (n c : Nat) (p k : Int) (h : p < 0 ∨ (n : Int) < p) (w : World) :
    Calls Try.prog 80 #[.slice A n c, .int .i64 p, .int .i64 k] w fun e w' => e = .returned (.tuple #[.slice none 0 0, .int .i64 1]) ∧ w = w' := by
  by_cases h0 : p < 0
  · go_enter Try.func80, Try.ntmps80
    go_wp2
    go_ret2
    exact ⟨rfl, rfl⟩
  · have h1 : (n : Int) < p := by omega
    go_enter Try.func80, Try.ntmps80
    go_wp2
    go_ret2
    exact ⟨rfl, rfl⟩
theorem cut_short (A : Option Addr) (n c p k : Nat) (_hn : n ≤ 9223372036854775807) (_hk : k ≤ 8) (h : p ≤ n) (h2 : n < p + k) (w : World) :
    Calls Try.prog 80 #[.slice A n c, .int .i64 p, .int .i64 k] w fun e w' => e = .returned (.tuple #[.slice none 0 0, .int .i64 2]) ∧ w = w' := by
  go_enter Try.func80, Try.ntmps80
  go_wp2
  go_ret2
  exact ⟨rfl, rfl⟩
theorem cut_ok (b off : Nat) (n c p k : Nat) (hn : c ≤ 9223372036854775807) (hnc : n ≤ c) (hk : k ≤ 8) (hk0 : 0 < k) (h2 : p + k ≤ n) (w : World) :
    Calls Try.prog 80 #[.slice (some ⟨b, off, none⟩) n c, .int .i64 p, .int .i64 k] w fun e w' => e = .returned (.tuple #[.slice (some ⟨b, off + p, none⟩) k (c - p), .int .i64 0]) ∧ w = w' := by
  have hcp : ¬ c = p := by omega
  go_enter Try.func80, Try.ntmps80
  go_wp2
  go_ret2
  rw [show p + k - p = k by omega]
  exact ⟨rfl, rfl⟩
theorem read32_any (A : Option Addr) (n c : Nat) (l : List UInt8) (hn : l.length = n) (hnc : n ≤ c) (hc : c ≤ 9223372036854775807) (p : Int) (B : Nat) (w : World) (hr : Rd w B A (bcl l)) :
    Calls Try.prog 79 #[.slice A n c, .int .i64 p, .int .i64 4] w fun e w' =>
      e = .returned (.tuple #[.int .u32 (fget 4 l p).1, .int .i64 (fget 4 l p).2.1, .int .i64 (fget 4 l p).2.2]) ∧ w = w' := by
  subst hn
  by_cases h0 : p < 0 ∨ (l.length : Int) < p
  · rw [fget_arg _ _ _ h0]
    go_enter Try.func79, Try.ntmps79
    go_wp2_with (go_at_call 80; refine (cut_arg _ _ _ _ _ h0 _).mono ?_; rintro e w1 ⟨rfl, rfl⟩)
    go_ret3
    exact ⟨rfl, rfl⟩
  · obtain ⟨q, rfl⟩ : ∃ q : Nat, p = q := ⟨p.toNat, by omega⟩
    have h1 : q ≤ l.length := by omega
    clear h0
    by_cases h2 : l.length < q + 4
    · rw [fget_short _ _ _ h1 h2]
      go_enter Try.func79, Try.ntmps79
      go_wp2_with (go_at_call 80; refine (cut_short _ _ _ _ 4 (by omega) (by omega) h1 h2 _).mono ?_; rintro e w1 ⟨rfl, rfl⟩)
      go_ret3
      exact ⟨rfl, rfl⟩
    · rw [fget_ok _ _ _ (by omega)]
      obtain ⟨b, off, rfl, hb, hcell⟩ := hr.some_ (by simp [bcl]; omega)
      have hr2 : Rd w B (some ⟨b, off + q, none⟩) (bcl ((l.drop q).take 4)) := by
        have h := (hr.drop (k := q) (cap := c) (size := 1) (by simp [bcl]; omega)).take 4
        rw [if_neg (by omega)] at h
        simpa [bcl, Addr.add_lit] using h
      clear hcell hr
      go_enter Try.func79, Try.ntmps79
      go_wp2_with (first
        | (go_at_call 80; refine (cut_ok b off l.length c q 4 (by omega) (by omega) (by omega) (by omega) (by omega) _).mono ?_; rintro e w1 ⟨rfl, rfl⟩)
        | (go_at_call 82; refine (raise32_any _ 4 _ ((l.drop q).take 4) (by simp; omega) (by omega) B _ hr2).mono ?_; rintro e w1 ⟨rfl, rfl⟩))
      go_ret3
      exact ⟨rfl, rfl⟩
theorem read64_any (A : Option Addr) (n c : Nat) (l : List UInt8) (hn : l.length = n) (hnc : n ≤ c) (hc : c ≤ 9223372036854775807) (p : Int) (B : Nat) (w : World) (hr : Rd w B A (bcl l)) :
    Calls Try.prog 78 #[.slice A n c, .int .i64 p, .int .i64 8] w fun e w' =>
      e = .returned (.tuple #[.int .u64 (fget 8 l p).1, .int .i64 (fget 8 l p).2.1, .int .i64 (fget 8 l p).2.2]) ∧ w = w' := by
  subst hn
  by_cases h0 : p < 0 ∨ (l.length : Int) < p
  · rw [fget_arg _ _ _ h0]
    go_enter Try.func78, Try.ntmps78
    go_wp2_with (go_at_call 80; refine (cut_arg _ _ _ _ _ h0 _).mono ?_; rintro e w1 ⟨rfl, rfl⟩)
    go_ret3
    exact ⟨rfl, rfl⟩
  · obtain ⟨q, rfl⟩ : ∃ q : Nat, p = q := ⟨p.toNat, by omega⟩
    have h1 : q ≤ l.length := by omega
    clear h0
    by_cases h2 : l.length < q + 8
    · rw [fget_short _ _ _ h1 h2]
      go_enter Try.func78, Try.ntmps78
      go_wp2_with (go_at_call 80; refine (cut_short _ _ _ _ 8 (by omega) (by omega) h1 h2 _).mono ?_; rintro e w1 ⟨rfl, rfl⟩)
      go_ret3
      exact ⟨rfl, rfl⟩
    · rw [fget_ok _ _ _ (by omega)]
      obtain ⟨b, off, rfl, hb, hcell⟩ := hr.some_ (by simp [bcl]; omega)
      have hr2 : Rd w B (some ⟨b, off + q, none⟩) (bcl ((l.drop q).take 8)) := by
        have h := (hr.drop (k := q) (cap := c) (size := 1) (by simp [bcl]; omega)).take 8
        rw [if_neg (by omega)] at h
        simpa [bcl, Addr.add_lit] using h
      clear hcell hr
      go_enter Try.func78, Try.ntmps78
      go_wp2_with (first
        | (go_at_call 80; refine (cut_ok b off l.length c q 8 (by omega) (by omega) (by omega) (by omega) (by omega) _).mono ?_; rintro e w1 ⟨rfl, rfl⟩)
        | (go_at_call 81; refine (raise64_any _ 8 _ ((l.drop q).take 8) (by simp; omega) (by omega) B _ hr2).mono ?_; rintro e w1 ⟨rfl, rfl⟩))
      go_ret3
      exact ⟨rfl, rfl⟩
theorem get4_any (A : Option Addr) (n c : Nat) (l : List UInt8) (hn : l.length = n) (hnc : n ≤ c) (hc : c ≤ 9223372036854775807) (p : Int) (B : Nat) (w : World) (hr : Rd w B A (bcl l)) :
    Calls Try.prog 76 #[.slice A n c, .int .i64 p] w fun e w' =>
      e = .returned (.tuple #[.int .u32 (fget 4 l p).1, .int .i64 (fget 4 l p).2.1, .int .i64 (fget 4 l p).2.2]) ∧ w = w' := by
  go_enter Try.func76, Try.ntmps76
  go_wp2_with fail
  refine (read32_any A n c l hn hnc hc p B _ hr).mono ?_
  rintro e w1 ⟨rfl, rfl⟩
  go_wp2
  go_ret3
  exact ⟨rfl, rfl⟩
theorem get8_any (A : Option Addr) (n c : Nat) (l : List UInt8) (hn : l.length = n) (hnc : n ≤ c) (hc : c ≤ 9223372036854775807) (p : Int) (B : Nat) (w : World) (hr : Rd w B A (bcl l)) :
    Calls Try.prog 75 #[.slice A n c, .int .i64 p] w fun e w' =>
      e = .returned (.tuple #[.int .u64 (fget 8 l p).1, .int .i64 (fget 8 l p).2.1, .int .i64 (fget 8 l p).2.2]) ∧ w = w' := by
  go_enter Try.func75, Try.ntmps75
  go_wp2_with fail
  refine (read64_any A n c l hn hnc hc p B _ hr).mono ?_
  rintro e w1 ⟨rfl, rfl⟩
  go_wp2
  go_ret3
  exact ⟨rfl, rfl⟩
end Go.Proofs.Ytkanhggmhjldmaa
