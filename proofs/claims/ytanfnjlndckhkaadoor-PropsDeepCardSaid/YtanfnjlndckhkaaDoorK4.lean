/- Several texts in one: words, plain laws and walks that the statement's proof imports. -/
import Derived.Test.YtanfnjlndckhkaaDoorK1
import Derived.OrdersHeld
import Derived.RegionTactic
import Derived.Test.YtanfnjlndckhkaaDoorK3
import Derived.Laws.EntriesVeiled
/- THE SAME over a relation of worlds of the caller's choosing (reflexive, transitive) in the place of 'memory has only grown'. -/
namespace Go.Proofs.YtanfnjlndckhkaaDoor
open Go Go.RowKit

structure Rel where
  G : World → World → Prop
  rf : ∀ w, G w w
  tr : ∀ {a b c}, G a b → G b c → G a c
section
variable {P : Program} {ops : Array Oper} {Q : Exit → Act → World → Prop} {md : Region.Mode} (X : Rel)

/-- Whatever order is picked from here on; memory only grows. -/
def wpAnyMG (P : Program) (md : Region.Mode) (ops : Array Oper) (Q : Exit → Act → World → Prop) : Nat → Array Bool → Act → World → Prop
  | 0, listed, a, w => Region.ready md ops listed = [] ∧ Q .normal a w
  | fuel + 1, listed, a, w =>
    (Region.ready md ops listed = [] → Q .normal a w) ∧
    ∀ i ∈ Region.ready md ops listed, wpOp P ops Q i (fun a' w' => X.G w w' ∧ wpAnyMG P md ops Q fuel (listed.setIfInBounds i true) a' w') a w

theorem wpAny_of_MG : ∀ (fuel : Nat) (listed : Array Bool) (a : Act) (w : World), wpAnyMG X P md ops Q fuel listed a w → wpAny P md ops Q fuel listed a w
  | 0, _, _, _, h => h
  | fuel + 1, _, _, _, h => ⟨h.1, fun i hi => wpOp_mono (fun a' w' h' => wpAny_of_MG fuel _ a' w' h'.2) (h.2 i hi)⟩

theorem yields_growsG {o : Oper} {v : Value} {a : Act} {w w' : World} (h : YieldsIf P ops (X.G w) o v a) (hg : X.G w w') : YieldsIf P ops (X.G w') o v a :=
  h.imp (fun ⟨h1, h2⟩ => ⟨h1, fun u hu => h2 u (X.tr hg hu)⟩) id

theorem wpAnyM_firstG {i : Nat} {oi : Oper} {v : Value} (hi : ops[i]? = some oi) (hsel : ∀ (j : Nat) (o : Oper) cs b, ops[j]? = some o → o.op ≠ .select cs b)
    (hQ : ∀ c a w, Q (.panic c) (a.put oi.dst v) w → Q (.panic c) a w) :
    ∀ (fuel : Nat) (listed : Array Bool) (a : Act) (w : World),
      (∀ j oj, ops[j]? = some oj → j ≠ i → listed.getD j true = false → (∀ e ∈ oj.after, Region.binds md e = true → e.on ≠ i) → oi.apart ops oj = true) →
      i ∈ Region.ready md ops listed → YieldsIf P ops (X.G w) oi v a →
      wpAnyMG X P md ops Q fuel (listed.setIfInBounds i true) (a.put oi.dst v) w → wpAnyMG X P md ops Q (fuel + 1) listed a w := by
  intro fuel
  induction fuel with
  | zero =>
    intro listed a w _ hr hy H
    refine ⟨fun h => (by rw [h] at hr; cases hr), fun j hj => ?_⟩
    by_cases hji : j = i
    · subst hji; exact hy.wpOp hi (X.rf w) ⟨X.rf w, H⟩
    · have := ready_mono hj hji
      rw [H.1] at this
      cases this
  | succ fuel ih =>
    intro listed a w hfree hr hy H
    refine ⟨fun h => (by rw [h] at hr; cases hr), fun j hj => ?_⟩
    by_cases hji : j = i
    · subst hji; exact hy.wpOp hi (X.rf w) ⟨X.rf w, H⟩
    · have h1 := H.2 j (ready_mono hj hji)
      obtain ⟨hjun, oj, hoj, hall⟩ := mem_ready.1 hj
      have hnot : ∀ e ∈ oj.after, Region.binds md e = true → e.on ≠ i := fun e he hb heq => by
        have h1 := hall e he hb
        have h0 := (mem_ready.1 hr).1
        rw [heq] at h1
        rcases Nat.lt_or_ge i listed.size with h' | h'
        · simp [h'] at h0 h1; rw [h0] at h1; cases h1
        · simp [Array.getElem?_eq_none h'] at h1
      have h2 := wpOp_putIf hoj (hfree j oj hoj hji hjun hnot) (fun cs b => hsel i oi cs b hi) (fun cs b => hsel j oj cs b hoj) hQ hy h1
      have hfree' : ∀ k ok, ops[k]? = some ok → k ≠ i → (listed.setIfInBounds j true).getD k true = false →
          (∀ e ∈ ok.after, Region.binds md e = true → e.on ≠ i) → oi.apart ops ok = true := fun k ok hk hki hun hno => by
        refine hfree k ok hk hki ?_ hno
        by_cases hjk : j = k
        · subst hjk; exact hjun
        · rw [getD_set_ne true hjk] at hun; exact hun
      refine wpOp_mono (fun a' w' h3 => ⟨h3.2.1, ih (listed.setIfInBounds j true) a' w' hfree' (ready_mono hr (Ne.symm hji)) (yields_growsG X h3.1 h3.2.1) ?_⟩) h2
      rw [Array.setIfInBounds_comm _ _ hji]
      exact h3.2.2

/-! the walk: the operations that are still to come, each with its number, in whatever order suits -/
def leftG (n : Nat) (rest : List (Nat × Oper)) : Array Bool := ((List.range n).map fun i => !(rest.map (·.1)).contains i).toArray
def wpLG (P : Program) (ops : Array Oper) (Q : Exit → Act → World → Prop) (n m : Nat) (rest : List (Nat × Oper)) (a : Act) (w : World) : Prop :=
  (∀ p ∈ rest, ops[p.1]? = some p.2) → (rest.map (·.1)).Nodup → ops.size = n → wpAnyMG X P .any ops Q m (leftG n rest) a w

theorem left_setG {n k : Nat} {o : Oper} {rest : List (Nat × Oper)} (hn : (((k, o) :: rest).map (·.1)).Nodup) : (leftG n ((k, o) :: rest)).setIfInBounds k true = leftG n rest := by
  apply Array.ext'
  rw [Array.toList_setIfInBounds]
  simp only [leftG]
  apply List.ext_getElem?
  intro j
  have hk : k ∉ rest.map (·.1) := (List.nodup_cons.1 (by rw [List.map_cons] at hn; exact hn)).1
  by_cases hj : j < n
  · by_cases hjk : k = j
    · subst hjk
      rw [List.getElem?_set_self (by simpa using hj), List.getElem?_map, List.getElem?_range hj, Option.map_some]
      have : (rest.map (·.1)).contains k = false := by
        rw [Bool.eq_false_iff]; intro h; exact hk (List.contains_iff_mem.1 h)
      rw [this]; rfl
    · rw [List.getElem?_set_ne hjk]
      simp only [List.getElem?_map, List.getElem?_range hj, Option.map_some, List.map_cons, List.contains_cons]
      have : (j == k) = false := by simp; omega
      rw [this, Bool.false_or]
  · simp [hj]

theorem wp_region_LG {id : Nat} {l : List Oper} {a : Act} {w : World} (n : Nat) (perm : List Nat) (hn : l.length = n) (hp : perm.Nodup) (hall : ((List.range n).all fun i => perm.contains i) = true) (hm : P.follows .mixedOrders = true)
    (h : wpLG X P l.toArray Q n n (perm.filterMap fun i => (l[i]?).map fun o => (i, o)) a w.drew) : (Code.region id l.toArray true).wp P Q a w := by
  subst hn
  refine wp_region_any hm (wpAny_of_MG X _ _ _ _ ?_)
  have hfst : ∀ (q : List Nat), ∀ x ∈ (q.filterMap fun i => (l[i]?).map fun o => (i, o)).map (·.1), x ∈ q := by
    intro q x hx
    simp only [List.mem_map, List.mem_filterMap] at hx
    obtain ⟨p, ⟨i, hi, hip⟩, rfl⟩ := hx
    obtain ⟨o, _, rfl⟩ := Option.map_eq_some_iff.1 hip
    exact hi
  have hnd : ∀ (q : List Nat), q.Nodup → ((q.filterMap fun i => (l[i]?).map fun o => (i, o)).map (·.1)).Nodup := by
    intro q
    induction q with
    | nil => intro _; simp
    | cons x q ih =>
      intro hq
      obtain ⟨h1, h2⟩ := List.nodup_cons.1 hq
      rw [List.filterMap_cons]
      cases hx : (l[x]?).map fun o => (x, o) with
      | none => exact ih h2
      | some p =>
        obtain ⟨o, _, rfl⟩ := Option.map_eq_some_iff.1 hx
        rw [List.map_cons, List.nodup_cons]
        exact ⟨fun hm => h1 (hfst q _ hm), ih h2⟩
  have e : Array.replicate l.toArray.size false = leftG l.length (perm.filterMap fun i => (l[i]?).map fun o => (i, o)) := by
    apply Array.ext'
    simp only [leftG, Array.toList_replicate, List.size_toArray]
    apply List.ext_getElem?
    intro j
    by_cases hj : j < l.length
    · have hjp : j ∈ perm := by
        have := List.all_eq_true.1 hall j (List.mem_range.2 hj)
        simpa using this
      have hmem : j ∈ (perm.filterMap fun i => (l[i]?).map fun o => (i, o)).map (·.1) := by
        simp only [List.mem_map, List.mem_filterMap]
        exact ⟨(j, l[j]), ⟨j, hjp, by rw [List.getElem?_eq_getElem hj]; rfl⟩, rfl⟩
      simp only [List.getElem?_replicate, hj, if_true, List.getElem?_map, List.getElem?_range hj, Option.map_some]
      rw [List.contains_iff_mem.2 hmem]
      rfl
    · simp [hj]
  rw [e]
  have := h ?_ (hnd perm hp) (by simp)
  · simpa using this
  · intro p hp
    obtain ⟨i, _, hip⟩ := List.mem_filterMap.1 hp
    obtain ⟨o, ho, rfl⟩ := Option.map_eq_some_iff.1 hip
    simpa using ho

/-- the next one yields its value and does nothing else, now and whatever grows; it is taken next -/
theorem wpL_takeG {n k m : Nat} {oi : Oper} {rest : List (Nat × Oper)} {v : Value} {a : Act} {w : World}
    (hs : Region.noSelect ops = true) (hf : Region.free .any ops (leftG n ((k, oi) :: rest)) k = true) (hr : (Region.ready .any ops (leftG n ((k, oi) :: rest))).contains k = true)
    (hQ : ∀ c a w, Q (.panic c) (a.put oi.dst v) w → Q (.panic c) a w) (hw : Region.wanted oi (yielded ops a.tmps) = true) (hy : ∀ u, X.G w u → (execOp a.eval oi).run P u = .ok (.value v) u)
    (h : wpLG X P ops Q n m rest (a.put oi.dst v) w) : wpLG X P ops Q n (m + 1) ((k, oi) :: rest) a w := fun hd hnd hn => by
  have hi : ops[k]? = some oi := hd (k, oi) (by simp)
  refine wpAnyM_firstG X hi (Region.noSelect_spec hs) hQ m _ a w (Region.free_spec hi hf) (by simpa using hr) (.inl ⟨hw, hy⟩) ?_
  rw [left_setG hnd]
  exact h (fun p hp => hd p (by simp [hp])) (List.nodup_cons.1 (by rw [List.map_cons] at hnd; exact hnd)).2 hn
/-- it is not wanted -/
theorem wpL_passG {n k m : Nat} {oi : Oper} {rest : List (Nat × Oper)} {a : Act} {w : World}
    (hs : Region.noSelect ops = true) (hf : Region.free .any ops (leftG n ((k, oi) :: rest)) k = true) (hr : (Region.ready .any ops (leftG n ((k, oi) :: rest))).contains k = true)
    (hQ : ∀ c a w, Q (.panic c) (a.put oi.dst undef) w → Q (.panic c) a w) (hw : Region.wanted oi (yielded ops a.tmps) = false)
    (h : wpLG X P ops Q n m rest (a.put oi.dst undef) w) : wpLG X P ops Q n (m + 1) ((k, oi) :: rest) a w := fun hd hnd hn => by
  have hi : ops[k]? = some oi := hd (k, oi) (by simp)
  refine wpAnyM_firstG X hi (Region.noSelect_spec hs) hQ m _ a w (Region.free_spec hi hf) (by simpa using hr) (.inr ⟨hw, rfl⟩) ?_
  rw [left_setG hnd]
  exact h (fun p hp => hd p (by simp [hp])) (List.nodup_cons.1 (by rw [List.map_cons] at hnd; exact hnd)).2 hn
/-- no other may come up: it is carried out -/
theorem wpL_doG {n k m : Nat} {oi : Oper} {rest : List (Nat × Oper)} {a : Act} {w : World} (hr : Region.ready .any ops (leftG n ((k, oi) :: rest)) = [k]) (hw : Region.wanted oi (yielded ops a.tmps) = true)
    (h : ∀ K : Act → World → Prop, (∀ a' w', X.G w w' → wpLG X P ops Q n m rest a' w' → K a' w') → Oper.wp P oi a w K Q) : wpLG X P ops Q n (m + 1) ((k, oi) :: rest) a w := fun hd hnd hn => by
  have hi : ops[k]? = some oi := hd (k, oi) (by simp)
  refine ⟨fun h0 => (by rw [h0] at hr; cases hr), fun j hj => ?_⟩
  rw [hr] at hj
  obtain rfl : j = k := by simpa using hj
  refine wpOp_step hi (fun K' hK => ?_)
  rw [if_pos hw]
  refine h K' (fun a' w' hg hL => hK a' w' ⟨hg, ?_⟩)
  rw [left_setG hnd]
  exact hL (fun p hp => hd p (by simp [hp])) (List.nodup_cons.1 (by rw [List.map_cons] at hnd; exact hnd)).2 hn
theorem left_swapG {n k1 k2 : Nat} {o1 o2 : Oper} {rest : List (Nat × Oper)} : leftG n ((k1, o1) :: (k2, o2) :: rest) = leftG n ((k2, o2) :: (k1, o1) :: rest) := by
  unfold leftG
  congr 1
  apply List.map_congr_left
  intro i _
  simp only [List.map_cons, List.contains_cons]
  cases (i == k1) <;> cases (i == k2) <;> simp
/-- just two may come up -/
theorem wpL_do2G {n k1 k2 m : Nat} {o1 o2 : Oper} {rest : List (Nat × Oper)} {a : Act} {w : World} (hr : Region.ready .any ops (leftG n ((k1, o1) :: (k2, o2) :: rest)) = [k1, k2])
    (hw1 : Region.wanted o1 (yielded ops a.tmps) = true) (hw2 : Region.wanted o2 (yielded ops a.tmps) = true)
    (h1 : ∀ K : Act → World → Prop, (∀ a' w', X.G w w' → wpLG X P ops Q n m ((k2, o2) :: rest) a' w' → K a' w') → Oper.wp P o1 a w K Q)
    (h2 : ∀ K : Act → World → Prop, (∀ a' w', X.G w w' → wpLG X P ops Q n m ((k1, o1) :: rest) a' w' → K a' w') → Oper.wp P o2 a w K Q) :
    wpLG X P ops Q n (m + 1) ((k1, o1) :: (k2, o2) :: rest) a w := fun hd hnd hn => by
  have hi1 : ops[k1]? = some o1 := hd (k1, o1) (by simp)
  have hi2 : ops[k2]? = some o2 := hd (k2, o2) (by simp)
  have hnd1 : (((k2, o2) :: rest).map (·.1)).Nodup := (List.nodup_cons.1 (by rw [List.map_cons] at hnd; exact hnd)).2
  have hnd' : (((k2, o2) :: (k1, o1) :: rest).map (·.1)).Nodup := by
    simp only [List.map_cons, List.nodup_cons, List.mem_cons, not_or] at hnd ⊢
    exact ⟨⟨fun e => hnd.1.1 e.symm, hnd.2.1⟩, hnd.1.2, hnd.2.2⟩
  have hnd2 : (((k1, o1) :: rest).map (·.1)).Nodup := (List.nodup_cons.1 (by rw [List.map_cons] at hnd'; exact hnd')).2
  refine ⟨fun h0 => (by rw [h0] at hr; cases hr), fun j hj => ?_⟩
  rw [hr] at hj
  rcases List.mem_cons.1 hj with rfl | hj
  · refine wpOp_step hi1 (fun K' hK => ?_)
    rw [if_pos hw1]
    refine h1 K' (fun a' w' hg hL => hK a' w' ⟨hg, ?_⟩)
    rw [left_setG hnd]
    exact hL (fun p hp => hd p (by rcases List.mem_cons.1 hp with rfl | hp <;> simp [*])) hnd1 hn
  · obtain rfl : j = k2 := by simpa using hj
    refine wpOp_step hi2 (fun K' hK => ?_)
    rw [if_pos hw2]
    refine h2 K' (fun a' w' hg hL => hK a' w' ⟨hg, ?_⟩)
    rw [left_swapG, left_setG hnd']
    exact hL (fun p hp => hd p (by rcases List.mem_cons.1 hp with rfl | hp <;> simp [*])) hnd2 hn
theorem wpL_doneG {n m : Nat} {a : Act} {w : World} (hr : Region.ready .any ops (leftG n []) = []) (h : Q .normal a w) : wpLG X P ops Q n m [] a w := fun _ _ _ => by
  cases m with
  | zero => exact ⟨hr, h⟩
  | succ m => exact ⟨fun _ => h, by rw [hr]; simp⟩
end
end Go.Proofs.YtanfnjlndckhkaaDoor

/- WALKS: the reader of wire: field. -/
namespace Go.Proofs.YtanfnjlndckhkaaDoor
open Go.RowKit Plain

/-- f's box and the reader, together -/
structure FB (w0 W : World) (R B : Nat) (A : Option Addr) (n c at_ : Nat) (opn : List Nat) (out : List Fld) (num kind val : Nat) (text : ByteArray) (Ao Ax : Option Addr) (co cx : Nat) : Prop where
  hR : W.heap[R]? = some (.cells #[.slice A n c, .int .i64 at_, .slice Ao opn.length co, .slice Ax out.length cx] 118 (0, 0))
  o1 : W.ownsRow w0.heap.size 3 1 (.slice Ao opn.length co) opn.length (icl opn)
  o2 : W.ownsRow w0.heap.size 64 4 (.slice Ax out.length cx) out.length (flc out)
  bel : Below w0.heap.size w0 W
  h4 : w0.heap.size ≤ R
  F : BoxF W B num kind val text
  ne : (Value.slice Ax out.length cx).ownBlock ≠ some B
  hB : w0.heap.size ≤ B
theorem FB.cells {w0 W : World} {R B : Nat} {A : Option Addr} {n c at_ : Nat} {opn : List Nat} {out : List Fld} {num kind val : Nat} {text : ByteArray} {Ao Ax : Option Addr} {co cx : Nat} (h : FB w0 W R B A n c at_ opn out num kind val text Ao Ax co cx) :
    W.cell? ⟨R, 2, none⟩ = some (.slice Ao opn.length co) ∧ W.cell? ⟨R, 3, none⟩ = some (.slice Ax out.length cx) ∧ W.frozen? ⟨R, 3, none⟩ = false ∧
    W.cell? ⟨B, 0, none⟩ = some (.int .i64 num) ∧ W.cell? ⟨B, 1, none⟩ = some (.int .i64 kind) ∧ W.cell? ⟨B, 2, none⟩ = some (.int .u64 val) ∧ W.cell? ⟨B, 3, none⟩ = some (.string text) ∧ W.frozen? ⟨B, 2, none⟩ = false ∧ W.frozen? ⟨B, 3, none⟩ = false := by
  obtain ⟨a, b2, c2, d⟩ := rd_cells h.hR
  obtain ⟨e, f, g, i⟩ := h.F.cells
  refine ⟨a, b2, d, e, f, g, i, ?_, ?_⟩ <;> simp [World.frozen?, show W.heap[B]? = _ from h.F]
theorem FB.rdr {w0 W : World} {R B : Nat} {A : Option Addr} {n c at_ : Nat} {opn : List Nat} {out : List Fld} {num kind val : Nat} {text : ByteArray} {Ao Ax : Option Addr} {co cx : Nat} (h : FB w0 W R B A n c at_ opn out num kind val text Ao Ax co cx) : Rdr w0 W R A n c ⟨at_, opn, out⟩ :=
  ⟨Ao, co, Ax, cx, h.hR, h.o1, h.o2, h.bel, h.h4⟩
theorem own_setB {W : World} {B i base : Nat} {e : TypeId} {size n : Nat} {v : Value} {xs : List Value} (h : W.ownsRow base e size v n xs) (hne : v.ownBlock ≠ some B) (x : Value) : (W.setCell ⟨B, i, none⟩ x).ownsRow base e size v n xs := by
  refine ⟨h.1, ?_⟩
  rcases h.2 with h2 | ⟨g, cap, cur, hv, hg, hh, r⟩
  · exact .inl h2
  · refine .inr ⟨g, cap, cur, hv, hg, ?_, r⟩
    rw [heap_setCell_other W ⟨B, i, none⟩ g x (fun e => hne (by rw [hv, e]; rfl))]
    exact hh
theorem FB.ne_R {w0 W : World} {R B : Nat} {A : Option Addr} {n c at_ : Nat} {opn : List Nat} {out : List Fld} {num kind val : Nat} {text : ByteArray} {Ao Ax : Option Addr} {co cx : Nat} (h : FB w0 W R B A n c at_ opn out num kind val text Ao Ax co cx) : R ≠ B := by
  rintro rfl
  have := h.hR.symm.trans h.F
  simp at this
theorem FB.setV {w0 W : World} {R B : Nat} {A : Option Addr} {n c at_ : Nat} {opn : List Nat} {out : List Fld} {num kind val : Nat} {text : ByteArray} {Ao Ax : Option Addr} {co cx : Nat} (h : FB w0 W R B A n c at_ opn out num kind val text Ao Ax co cx) (v : Nat) :
    FB w0 (W.setCell ⟨B, 2, none⟩ (.int .u64 v)) R B A n c at_ opn out num kind v text Ao Ax co cx :=
  ⟨(heap_setCell_other W ⟨B, 2, none⟩ R _ h.ne_R).trans h.hR, own_set h.o1 h.F (by decide) _, own_setB h.o2 h.ne _, h.bel.setCell (p := ⟨B, 2, none⟩) h.hB _, h.h4, heap_setCell_same W B 2 _ _ _ h.F, h.ne, h.hB⟩
theorem FB.setT {w0 W : World} {R B : Nat} {A : Option Addr} {n c at_ : Nat} {opn : List Nat} {out : List Fld} {num kind val : Nat} {text : ByteArray} {Ao Ax : Option Addr} {co cx : Nat} (h : FB w0 W R B A n c at_ opn out num kind val text Ao Ax co cx) (t : ByteArray) :
    FB w0 (W.setCell ⟨B, 3, none⟩ (.string t)) R B A n c at_ opn out num kind val t Ao Ax co cx :=
  ⟨(heap_setCell_other W ⟨B, 3, none⟩ R _ h.ne_R).trans h.hR, own_set h.o1 h.F (by decide) _, own_setB h.o2 h.ne _, h.bel.setCell (p := ⟨B, 3, none⟩) h.hB _, h.h4, heap_setCell_same W B 3 _ _ _ h.F, h.ne, h.hB⟩
theorem FB.drew {w0 W : World} {R B : Nat} {A : Option Addr} {n c at_ : Nat} {opn : List Nat} {out : List Fld} {num kind val : Nat} {text : ByteArray} {Ao Ax : Option Addr} {co cx : Nat} (h : FB w0 W R B A n c at_ opn out num kind val text Ao Ax co cx) : FB w0 W.drew R B A n c at_ opn out num kind val text Ao Ax co cx :=
  ⟨h.hR, h.o1, h.o2, h.bel.drew, h.h4, h.F, h.ne, h.hB⟩
def keepB (B : Nat) : Rel := ⟨fun w w' => w'.heap[B]? = w.heap[B]?, fun _ => rfl, fun h k => k.trans h⟩
/-- behind a call that only reads on -/
theorem FB.kp {w0 W W' : World} {R B : Nat} {A : Option Addr} {n c at_ : Nat} {s : RSt} {num kind val : Nat} {text : ByteArray} {Ao Ax : Option Addr} {co cx : Nat} (h : FB w0 W R B A n c at_ s.opn s.out num kind val text Ao Ax co cx) (k : Kp W W' R) (k2 : Nat)
    (hr : Rdr w0 W' R A n c ⟨k2, s.opn, s.out⟩) : FB w0 W' R B A n c k2 s.opn s.out num kind val text Ao Ax co cx := by
  obtain ⟨Ao', co', Ax', cx', hR, o1, o2, hb, h4⟩ := hr
  obtain ⟨e2, e3, _, _⟩ := rd_cells hR
  obtain ⟨d2, d3, _⟩ := h.cells
  rw [k.c2, d2] at e2
  rw [k.c3, d3] at e3
  simp at e2 e3
  obtain ⟨rfl, rfl⟩ := e2
  obtain ⟨rfl, rfl⟩ := e3
  exact ⟨hR, o1, o2, hb, h4, (k.g.block B h.F.lt (fun e => h.ne_R (Option.some.inj e).symm)).trans h.F, h.ne, h.hB⟩
section
variable (b : List UInt8) (A : Option Addr) (n c : Nat) (hn : b.length = n) (hnc : n ≤ c) (hcm : c ≤ 9223372036854775807) (hl : b.length ≤ 140737488355328) (w0 : World) (hr0 : Rd w0 w0.heap.size A (bcl b))
include hn hnc hcm hl hr0
set_option maxRecDepth 100000 in
set_option maxHeartbeats 4000000 in
theorem field_any (s : RSt) (R num kind : Nat) (W : World) (h : Rdr w0 W R A n c s) (E : Nat) (hE : (if (wval b s.at_ kind).err = 0 then if s.opn.length = 0 then if 256 ≤ s.out.length then 6 else 0 else 0 else (wval b s.at_ kind).err) = E) :
    Calls Tryd.prog 95 #[.pointer (some ⟨R, 0, none⟩), .int .i64 num, .int .i64 kind] W fun e w' => e = .returned (.int .i64 E) ∧
      (E = 0 → Rdr w0 w' R A n c ⟨(wval b s.at_ kind).to, s.opn, if s.opn.length = 0 then s.out ++ [⟨num, kind, (wval b s.at_ kind).val, (wval b s.at_ kind).text⟩] else s.out⟩) ∧ Below w0.heap.size w0 w' := by
  have hA : Rdr w0 (W.alloc (Obj.cells #[.int .i64 num, .int .i64 kind, .int .u64 0, .string ⟨#[]⟩] 64)) R A n c s := h.step ((Below.refl _ W).alloc (Nat.le_refl _) _)
  obtain ⟨Ao, co, Ax, cx, hB⟩ : ∃ Ao co Ax cx, FB w0 (W.alloc (Obj.cells #[.int .i64 num, .int .i64 kind, .int .u64 0, .string ⟨#[]⟩] 64)) R W.heap.size A n c s.at_ s.opn s.out num kind 0 ⟨#[]⟩ Ao Ax co cx := by
    obtain ⟨Ao, co, Ax, cx, hR, o1, o2, hb, h4⟩ := h
    have hA := (Below.refl _ W).alloc (Nat.le_refl _) (Obj.cells #[.int .i64 num, .int .i64 kind, .int .u64 0, .string ⟨#[]⟩] 64)
    refine ⟨Ao, co, Ax, cx, (hA.block R (Array.getElem?_eq_some_iff.1 hR).1).trans hR, own_kept o1 hA (Nat.le_refl _), own_kept o2 hA (Nat.le_refl _), bel_step' hb (Nat.le_refl _) (hA.mono (Nat.le_refl _)), h4, BoxF.new W num kind 0 ⟨#[]⟩, fun e => ?_, hb.size⟩
    have := (o2.lt _ e).2
    omega
  have hnum := rnum_any b A n c hn hnc hcm hl w0 hr0 s R _ hA
  have htext := rtextr_any b A n c hn hnc hcm hl w0 hr0 s R _ hA
  have hwide := fun (k : Nat) (hk : k = 1 ∨ k = 5) => wide_any b A n c hn hnc hcm hl w0 hr0 s R k hk _ hA
  clear hn hnc hcm hl hr0
  by_cases hk0 : kind = 0
  · subst hk0
    have hw : wval b s.at_ 0 = ⟨(vget b s.at_).1, emptyT, (vget b s.at_).2.1, (vget b s.at_).2.2⟩ := by unfold wval; rw [if_pos rfl]
    rw [hw] at hE ⊢
    have hcall := hnum
    obtain ⟨r, hr⟩ : ∃ r, vget b s.at_ = r := ⟨_, rfl⟩
    rw [hr] at hcall hE ⊢
    obtain ⟨v, to, er⟩ := r
    simp only at hcall hE ⊢
    clear hnum htext hwide
    by_cases he : er = 0
    · subst he
      rw [if_pos rfl] at hE
      by_cases ho : s.opn.length = 0
      · rw [if_pos ho] at hE
        have hbo : decide ((0 : Int) < (s.opn.length : Int)) = false := decide_eq_false (by omega)
        by_cases hf : 256 ≤ s.out.length
        · rw [if_pos hf] at hE
          subst hE
          have HFF := Lib.hid hf
          have hbf : decide ((256 : Int) ≤ (s.out.length : Int)) = true := decide_eq_true (by omega)
          go_enter Tryd.func95, Tryd.ntmps95
          go_wp2_with fail
          refine hcall.mono ?_
          rintro e w1 ⟨rfl, h1, hB1, hk1⟩
          have hF := hB.kp hk1 to (h1 (by first | rfl | trivial))
          have hF2 := hF.setV v
          obtain ⟨a2, a3, a4, a5, a6, a7, a8, a9, a10⟩ := hF.cells
          obtain ⟨b2, b3, b4, b5, b6, b7, b8, b9, b10⟩ := hF2.cells
          have hne := hF.ne_R
          clear hcall hA hB h1 hB1 hk1
          go_wp2_with fail
          go_ret
          first | exact ⟨rfl, fun h => absurd h (by decide), hF2.bel⟩ | exact ⟨rfl, hF2.bel⟩
        · rw [if_neg hf] at hE
          subst hE
          rw [if_pos ho]
          have HFF := Lib.hid hf
          have hbf : decide ((256 : Int) ≤ (s.out.length : Int)) = false := decide_eq_false (by omega)
          go_enter Tryd.func95, Tryd.ntmps95
          go_wp2_with fail
          refine hcall.mono ?_
          rintro e w1 ⟨rfl, h1, hB1, hk1⟩
          have hF := hB.kp hk1 to (h1 (by first | rfl | trivial))
          have hF2 := hF.setV v
          obtain ⟨a2, a3, a4, a5, a6, a7, a8, a9, a10⟩ := hF.cells
          obtain ⟨b2, b3, b4, b5, b6, b7, b8, b9, b10⟩ := hF2.cells
          have hne := hF.ne_R
          clear hcall hA hB h1 hB1 hk1
          go_wp2_with fail
          have hF3 := hF2.drew
          refine wp_region_LG (keepB W.heap.size) 11 [0, 1, 2, 3, 5, 4, 6, 7, 8, 9, 10] rfl (by decide) (by decide) (by kernel_rfl) ?_
          generalize (w1.setCell ⟨W.heap.size, 2, none⟩ (.int .u64 v)).drew = W3 at *
          simp only [List.filterMap_cons, List.filterMap_nil, List.getElem?_cons_zero, List.getElem?_cons_succ, Option.map_some]
          have q0 : ∀ u : World, u.heap[W.heap.size]? = W3.heap[W.heap.size]? → u.cell? ⟨W.heap.size, 0, none⟩ = some (.int .i64 num) := fun u hu => by simp [World.cell?, hu.trans hF3.F]
          have q1 : ∀ u : World, u.heap[W.heap.size]? = W3.heap[W.heap.size]? → u.cell? ⟨W.heap.size, 1, none⟩ = some (.int .i64 ((0 : Nat) : Int)) := fun u hu => by simp [World.cell?, hu.trans hF3.F]
          have q2 : ∀ u : World, u.heap[W.heap.size]? = W3.heap[W.heap.size]? → u.cell? ⟨W.heap.size, 2, none⟩ = some (.int .u64 (v : Nat)) := fun u hu => by simp [World.cell?, hu.trans hF3.F]
          have q3 : ∀ u : World, u.heap[W.heap.size]? = W3.heap[W.heap.size]? → u.cell? ⟨W.heap.size, 3, none⟩ = some (.string ⟨#[]⟩) := fun u hu => by simp [World.cell?, hu.trans hF3.F]
          have x3 : W3.cell? ⟨R, 3, none⟩ = some (.slice Ax s.out.length cx) := (rd_cells hF3.hR).2.1
          have hR' := (Below.heap_alloc W3 (.cells #[.int .i64 num, .int .i64 0, .int .u64 v, .string ⟨#[]⟩] 64) R (Array.getElem?_eq_some_iff.1 hF3.hR).1).trans hF3.hR
          have x3' := (rd_cells hR').2.1
          have o1' := hF3.o1.alloc (.cells #[.int .i64 num, .int .i64 0, .int .u64 v, .string ⟨#[]⟩] 64)
          have o2' := hF3.o2.alloc (.cells #[.int .i64 num, .int .i64 0, .int .u64 v, .string ⟨#[]⟩] 64)
          have hbb2 := hF3.bel.alloc hF3.bel.size (.cells #[.int .i64 num, .int .i64 0, .int .u64 v, .string ⟨#[]⟩] 64)
          have hbb := hbb2.size
          have hkb := Below.heap_alloc W3 (.cells #[.int .i64 num, .int .i64 0, .int .u64 v, .string ⟨#[]⟩] 64) W.heap.size hF3.F.lt
          refine wpL_takeG _ (v := ?_) (by kernel_rfl) (by kernel_rfl) (by kernel_rfl) (fun _ _ _ h => h) (by rfl) (fun u hu => ?_) ?_
          rotate_left
          focus
            replace hu : u.heap[W.heap.size]? = W3.heap[W.heap.size]? := hu
            go_simp
            try with_reducible rfl
          simp only [Act.put, List.setIfInBounds_toArray, List.set_cons_zero, List.set_cons_succ]
          refine wpL_takeG _ (v := ?_) (by kernel_rfl) (by kernel_rfl) (by kernel_rfl) (fun _ _ _ h => h) (by rfl) (fun u hu => ?_) ?_
          rotate_left
          focus
            replace hu : u.heap[W.heap.size]? = W3.heap[W.heap.size]? := hu
            go_simp
            try with_reducible rfl
          simp only [Act.put, List.setIfInBounds_toArray, List.set_cons_zero, List.set_cons_succ]
          refine wpL_takeG _ (v := ?_) (by kernel_rfl) (by kernel_rfl) (by kernel_rfl) (fun _ _ _ h => h) (by rfl) (fun u hu => ?_) ?_
          rotate_left
          focus
            replace hu : u.heap[W.heap.size]? = W3.heap[W.heap.size]? := hu
            go_simp
            try with_reducible rfl
          simp only [Act.put, List.setIfInBounds_toArray, List.set_cons_zero, List.set_cons_succ]
          refine wpL_takeG _ (v := ?_) (by kernel_rfl) (by kernel_rfl) (by kernel_rfl) (fun _ _ _ h => h) (by rfl) (fun u hu => ?_) ?_
          rotate_left
          focus
            replace hu : u.heap[W.heap.size]? = W3.heap[W.heap.size]? := hu
            go_simp
            try with_reducible rfl
          simp only [Act.put, List.setIfInBounds_toArray, List.set_cons_zero, List.set_cons_succ]
          refine wpL_takeG _ (v := ?_) (by kernel_rfl) (by kernel_rfl) (by kernel_rfl) (fun _ _ _ h => h) (by rfl) (fun u hu => ?_) ?_
          rotate_left
          focus
            replace hu : u.heap[W.heap.size]? = W3.heap[W.heap.size]? := hu
            go_simp
            try with_reducible rfl
          simp only [Act.put, List.setIfInBounds_toArray, List.set_cons_zero, List.set_cons_succ]
          refine wpL_do2G _ (by kernel_rfl) (by rfl) (by rfl) (fun K hK => ?_) (fun K hK => ?_)
          · go_simp
            refine hK _ _ rfl ?_
            clear hK K
            refine wpL_doG _ (by kernel_rfl) (by rfl) (fun K hK => ?_)
            go_simp
            refine hK _ _ hkb ?_
            clear hK K
            refine wpL_doG _ (by kernel_rfl) (by rfl) (fun K hK => ?_)
            refine wp_app (.tmp 62) (.tmp 64) 65 rfl elemF rfl o2' rfl (Rd.cells W3 #[.int .i64 num, .int .i64 0, .int .u64 v, .string ⟨#[]⟩] _) rfl (by intro u hu; simp at hu; rcases hu with rfl | rfl | rfl | rfl <;> rfl) (by have := HFF.out; unfold maxLen; omega) (by have := HFF.out; omega) hbb ?_
            intro A5 c5 w5 ho5 hg5 _
            obtain ⟨hR5, hrd⟩ := Rdr.pushF (l := s.out ++ [⟨num, (0 : Nat), v, ⟨#[]⟩⟩]) hR' o1' o2' hbb2 hF3.h4 hg5 (by simpa [flc, Fld.cells] using ho5) (by simp)
            obtain ⟨k2, k3, j2, j3⟩ := rd_cells hR5
            refine hK _ _ (hg5.block W.heap.size (by have := hF3.F.lt; simp; omega) hF3.ne.symm) ?_
            clear hK K
            simp only [Act.put, List.setIfInBounds_toArray, List.set_cons_zero, List.set_cons_succ]
            refine wpL_takeG _ (v := ?_) (by kernel_rfl) (by kernel_rfl) (by kernel_rfl) (fun _ _ _ h => h) (by rfl) (fun u hu => ?_) ?_
            rotate_left
            focus
              go_simp
              try with_reducible rfl
            simp only [Act.put, List.setIfInBounds_toArray, List.set_cons_zero, List.set_cons_succ]
            refine wpL_takeG _ (v := ?_) (by kernel_rfl) (by kernel_rfl) (by kernel_rfl) (fun _ _ _ h => h) (by rfl) (fun u hu => ?_) ?_
            rotate_left
            focus
              go_simp
              try with_reducible rfl
            simp only [Act.put, List.setIfInBounds_toArray, List.set_cons_zero, List.set_cons_succ]
            refine wpL_doG _ (by kernel_rfl) (by rfl) (fun K hK => ?_)
            go_simp
            refine hK _ _ (heap_setCell_other _ ⟨R, 3, none⟩ _ _ (Ne.symm hne)) ?_
            clear hK K
            refine wpL_doneG _ (by kernel_rfl) ?_
            go_wp2_with fail
            go_ret
            exact ⟨rfl, (by first | exact hrd | exact fun _ => hrd), hrd.bel⟩
          · go_simp
            refine hK _ _ hkb ?_
            clear hK K
            refine wpL_doG _ (by kernel_rfl) (by rfl) (fun K hK => ?_)
            go_simp
            refine hK _ _ rfl ?_
            clear hK K
            refine wpL_doG _ (by kernel_rfl) (by rfl) (fun K hK => ?_)
            refine wp_app (.tmp 62) (.tmp 64) 65 rfl elemF rfl o2' rfl (Rd.cells W3 #[.int .i64 num, .int .i64 0, .int .u64 v, .string ⟨#[]⟩] _) rfl (by intro u hu; simp at hu; rcases hu with rfl | rfl | rfl | rfl <;> rfl) (by have := HFF.out; unfold maxLen; omega) (by have := HFF.out; omega) hbb ?_
            intro A5 c5 w5 ho5 hg5 _
            obtain ⟨hR5, hrd⟩ := Rdr.pushF (l := s.out ++ [⟨num, (0 : Nat), v, ⟨#[]⟩⟩]) hR' o1' o2' hbb2 hF3.h4 hg5 (by simpa [flc, Fld.cells] using ho5) (by simp)
            obtain ⟨k2, k3, j2, j3⟩ := rd_cells hR5
            refine hK _ _ (hg5.block W.heap.size (by have := hF3.F.lt; simp; omega) hF3.ne.symm) ?_
            clear hK K
            simp only [Act.put, List.setIfInBounds_toArray, List.set_cons_zero, List.set_cons_succ]
            refine wpL_takeG _ (v := ?_) (by kernel_rfl) (by kernel_rfl) (by kernel_rfl) (fun _ _ _ h => h) (by rfl) (fun u hu => ?_) ?_
            rotate_left
            focus
              go_simp
              try with_reducible rfl
            simp only [Act.put, List.setIfInBounds_toArray, List.set_cons_zero, List.set_cons_succ]
            refine wpL_takeG _ (v := ?_) (by kernel_rfl) (by kernel_rfl) (by kernel_rfl) (fun _ _ _ h => h) (by rfl) (fun u hu => ?_) ?_
            rotate_left
            focus
              go_simp
              try with_reducible rfl
            simp only [Act.put, List.setIfInBounds_toArray, List.set_cons_zero, List.set_cons_succ]
            refine wpL_doG _ (by kernel_rfl) (by rfl) (fun K hK => ?_)
            go_simp
            refine hK _ _ (heap_setCell_other _ ⟨R, 3, none⟩ _ _ (Ne.symm hne)) ?_
            clear hK K
            refine wpL_doneG _ (by kernel_rfl) ?_
            go_wp2_with fail
            go_ret
            exact ⟨rfl, (by first | exact hrd | exact fun _ => hrd), hrd.bel⟩
      · rw [if_neg ho] at hE
        subst hE
        rw [if_neg ho]
        have hpos : 0 < s.opn.length := by omega
        have hbo : decide (0 < s.opn.length) = true := decide_eq_true hpos
        have HO := Lib.hid ho
        clear ho
        go_enter Tryd.func95, Tryd.ntmps95
        go_wp2_with fail
        refine hcall.mono ?_
        rintro e w1 ⟨rfl, h1, hB1, hk1⟩
        have hF := hB.kp hk1 to (h1 (by first | rfl | trivial))
        have hF2 := hF.setV v
        obtain ⟨a2, a3, a4, a5, a6, a7, a8, a9, a10⟩ := hF.cells
        obtain ⟨b2, b3, b4, b5, b6, b7, b8, b9, b10⟩ := hF2.cells
        have hne := hF.ne_R
        clear hcall hA hB h1 hB1 hk1
        go_wp2_with fail
        go_ret
        exact ⟨rfl, (by first | exact hF2.rdr | exact fun _ => hF2.rdr), hF2.bel⟩
    · rw [if_neg he] at hE
      subst hE
      have hbe : ((er : Int) != 0) = true := by simp; omega
      have hv0 := vget_zero (b := b) (p := s.at_) (by rw [hr]; exact he)
      rw [hr] at hv0
      simp only at hv0
      subst hv0
      have HE := Lib.hid he
      clear he
      go_enter Tryd.func95, Tryd.ntmps95
      go_wp2_with fail
      refine hcall.mono ?_
      rintro e w1 ⟨rfl, -, hB1, hk1⟩
      have hF : BoxF w1 W.heap.size num 0 0 ⟨#[]⟩ := (hk1.g.block W.heap.size hB.F.lt (fun e => hB.ne_R (Option.some.inj e).symm)).trans hB.F
      obtain ⟨a4, a5, a6, a7⟩ := hF.cells
      have a8 : w1.frozen? ⟨W.heap.size, 2, none⟩ = false := by simp [World.frozen?, show w1.heap[W.heap.size]? = _ from hF]
      have a9 : w1.frozen? ⟨W.heap.size, 3, none⟩ = false := by simp [World.frozen?, show w1.heap[W.heap.size]? = _ from hF]
      have hbs := hB.hB
      clear hcall hA hB hk1
      go_wp2_with fail
      all_goals go_ret
      all_goals exact ⟨rfl, fun h => absurd h HE.out, hB1.setCell (by exact hbs) _⟩
  by_cases hk2 : kind = 2
  · subst hk2
    have hcall := htext
    have hv0 : (wval b s.at_ 2).val = 0 := by rw [wval2]; split <;> (try split) <;> rfl
    obtain ⟨r, hr⟩ : ∃ r, wval b s.at_ 2 = r := ⟨_, rfl⟩
    rw [hr] at hcall hE hv0 ⊢
    obtain ⟨v, t, to, er⟩ := r
    simp only at hv0
    subst hv0
    simp only at hcall hE ⊢
    clear hnum htext hwide
    by_cases he : er = 0
    · subst he
      rw [if_pos rfl] at hE
      by_cases ho : s.opn.length = 0
      · rw [if_pos ho] at hE
        have hbo : decide ((0 : Int) < (s.opn.length : Int)) = false := decide_eq_false (by omega)
        by_cases hf : 256 ≤ s.out.length
        · rw [if_pos hf] at hE
          subst hE
          have HFF := Lib.hid hf
          have hbf : decide ((256 : Int) ≤ (s.out.length : Int)) = true := decide_eq_true (by omega)
          go_enter Tryd.func95, Tryd.ntmps95
          go_wp2_with fail
          refine hcall.mono ?_
          rintro e w1 ⟨rfl, h1, hB1, hk1⟩
          have hF := hB.kp hk1 to (h1 (by first | rfl | trivial))
          have hF2 := hF.setT t
          obtain ⟨a2, a3, a4, a5, a6, a7, a8, a9, a10⟩ := hF.cells
          obtain ⟨b2, b3, b4, b5, b6, b7, b8, b9, b10⟩ := hF2.cells
          have hne := hF.ne_R
          clear hcall hA hB h1 hB1 hk1
          go_wp2_with fail
          go_ret
          first | exact ⟨rfl, fun h => absurd h (by decide), hF2.bel⟩ | exact ⟨rfl, hF2.bel⟩
        · rw [if_neg hf] at hE
          subst hE
          rw [if_pos ho]
          have HFF := Lib.hid hf
          have hbf : decide ((256 : Int) ≤ (s.out.length : Int)) = false := decide_eq_false (by omega)
          go_enter Tryd.func95, Tryd.ntmps95
          go_wp2_with fail
          refine hcall.mono ?_
          rintro e w1 ⟨rfl, h1, hB1, hk1⟩
          have hF := hB.kp hk1 to (h1 (by first | rfl | trivial))
          have hF2 := hF.setT t
          obtain ⟨a2, a3, a4, a5, a6, a7, a8, a9, a10⟩ := hF.cells
          obtain ⟨b2, b3, b4, b5, b6, b7, b8, b9, b10⟩ := hF2.cells
          have hne := hF.ne_R
          clear hcall hA hB h1 hB1 hk1
          go_wp2_with fail
          have hF3 := hF2.drew
          refine wp_region_LG (keepB W.heap.size) 11 [0, 1, 2, 3, 5, 4, 6, 7, 8, 9, 10] rfl (by decide) (by decide) (by kernel_rfl) ?_
          generalize (w1.setCell ⟨W.heap.size, 3, none⟩ (.string t)).drew = W3 at *
          simp only [List.filterMap_cons, List.filterMap_nil, List.getElem?_cons_zero, List.getElem?_cons_succ, Option.map_some]
          have q0 : ∀ u : World, u.heap[W.heap.size]? = W3.heap[W.heap.size]? → u.cell? ⟨W.heap.size, 0, none⟩ = some (.int .i64 num) := fun u hu => by simp [World.cell?, hu.trans hF3.F]
          have q1 : ∀ u : World, u.heap[W.heap.size]? = W3.heap[W.heap.size]? → u.cell? ⟨W.heap.size, 1, none⟩ = some (.int .i64 ((2 : Nat) : Int)) := fun u hu => by simp [World.cell?, hu.trans hF3.F]
          have q2 : ∀ u : World, u.heap[W.heap.size]? = W3.heap[W.heap.size]? → u.cell? ⟨W.heap.size, 2, none⟩ = some (.int .u64 (0 : Nat)) := fun u hu => by simp [World.cell?, hu.trans hF3.F]
          have q3 : ∀ u : World, u.heap[W.heap.size]? = W3.heap[W.heap.size]? → u.cell? ⟨W.heap.size, 3, none⟩ = some (.string t) := fun u hu => by simp [World.cell?, hu.trans hF3.F]
          have x3 : W3.cell? ⟨R, 3, none⟩ = some (.slice Ax s.out.length cx) := (rd_cells hF3.hR).2.1
          have hR' := (Below.heap_alloc W3 (.cells #[.int .i64 num, .int .i64 2, .int .u64 0, .string t] 64) R (Array.getElem?_eq_some_iff.1 hF3.hR).1).trans hF3.hR
          have x3' := (rd_cells hR').2.1
          have o1' := hF3.o1.alloc (.cells #[.int .i64 num, .int .i64 2, .int .u64 0, .string t] 64)
          have o2' := hF3.o2.alloc (.cells #[.int .i64 num, .int .i64 2, .int .u64 0, .string t] 64)
          have hbb2 := hF3.bel.alloc hF3.bel.size (.cells #[.int .i64 num, .int .i64 2, .int .u64 0, .string t] 64)
          have hbb := hbb2.size
          have hkb := Below.heap_alloc W3 (.cells #[.int .i64 num, .int .i64 2, .int .u64 0, .string t] 64) W.heap.size hF3.F.lt
          refine wpL_takeG _ (v := ?_) (by kernel_rfl) (by kernel_rfl) (by kernel_rfl) (fun _ _ _ h => h) (by rfl) (fun u hu => ?_) ?_
          rotate_left
          focus
            replace hu : u.heap[W.heap.size]? = W3.heap[W.heap.size]? := hu
            go_simp
            try with_reducible rfl
          simp only [Act.put, List.setIfInBounds_toArray, List.set_cons_zero, List.set_cons_succ]
          refine wpL_takeG _ (v := ?_) (by kernel_rfl) (by kernel_rfl) (by kernel_rfl) (fun _ _ _ h => h) (by rfl) (fun u hu => ?_) ?_
          rotate_left
          focus
            replace hu : u.heap[W.heap.size]? = W3.heap[W.heap.size]? := hu
            go_simp
            try with_reducible rfl
          simp only [Act.put, List.setIfInBounds_toArray, List.set_cons_zero, List.set_cons_succ]
          refine wpL_takeG _ (v := ?_) (by kernel_rfl) (by kernel_rfl) (by kernel_rfl) (fun _ _ _ h => h) (by rfl) (fun u hu => ?_) ?_
          rotate_left
          focus
            replace hu : u.heap[W.heap.size]? = W3.heap[W.heap.size]? := hu
            go_simp
            try with_reducible rfl
          simp only [Act.put, List.setIfInBounds_toArray, List.set_cons_zero, List.set_cons_succ]
          refine wpL_takeG _ (v := ?_) (by kernel_rfl) (by kernel_rfl) (by kernel_rfl) (fun _ _ _ h => h) (by rfl) (fun u hu => ?_) ?_
          rotate_left
          focus
            replace hu : u.heap[W.heap.size]? = W3.heap[W.heap.size]? := hu
            go_simp
            try with_reducible rfl
          simp only [Act.put, List.setIfInBounds_toArray, List.set_cons_zero, List.set_cons_succ]
          refine wpL_takeG _ (v := ?_) (by kernel_rfl) (by kernel_rfl) (by kernel_rfl) (fun _ _ _ h => h) (by rfl) (fun u hu => ?_) ?_
          rotate_left
          focus
            replace hu : u.heap[W.heap.size]? = W3.heap[W.heap.size]? := hu
            go_simp
            try with_reducible rfl
          simp only [Act.put, List.setIfInBounds_toArray, List.set_cons_zero, List.set_cons_succ]
          refine wpL_do2G _ (by kernel_rfl) (by rfl) (by rfl) (fun K hK => ?_) (fun K hK => ?_)
          · go_simp
            refine hK _ _ rfl ?_
            clear hK K
            refine wpL_doG _ (by kernel_rfl) (by rfl) (fun K hK => ?_)
            go_simp
            refine hK _ _ hkb ?_
            clear hK K
            refine wpL_doG _ (by kernel_rfl) (by rfl) (fun K hK => ?_)
            refine wp_app (.tmp 62) (.tmp 64) 65 rfl elemF rfl o2' rfl (Rd.cells W3 #[.int .i64 num, .int .i64 2, .int .u64 0, .string t] _) rfl (by intro u hu; simp at hu; rcases hu with rfl | rfl | rfl | rfl <;> rfl) (by have := HFF.out; unfold maxLen; omega) (by have := HFF.out; omega) hbb ?_
            intro A5 c5 w5 ho5 hg5 _
            obtain ⟨hR5, hrd⟩ := Rdr.pushF (l := s.out ++ [⟨num, (2 : Nat), 0, t⟩]) hR' o1' o2' hbb2 hF3.h4 hg5 (by simpa [flc, Fld.cells] using ho5) (by simp)
            obtain ⟨k2, k3, j2, j3⟩ := rd_cells hR5
            refine hK _ _ (hg5.block W.heap.size (by have := hF3.F.lt; simp; omega) hF3.ne.symm) ?_
            clear hK K
            simp only [Act.put, List.setIfInBounds_toArray, List.set_cons_zero, List.set_cons_succ]
            refine wpL_takeG _ (v := ?_) (by kernel_rfl) (by kernel_rfl) (by kernel_rfl) (fun _ _ _ h => h) (by rfl) (fun u hu => ?_) ?_
            rotate_left
            focus
              go_simp
              try with_reducible rfl
            simp only [Act.put, List.setIfInBounds_toArray, List.set_cons_zero, List.set_cons_succ]
            refine wpL_takeG _ (v := ?_) (by kernel_rfl) (by kernel_rfl) (by kernel_rfl) (fun _ _ _ h => h) (by rfl) (fun u hu => ?_) ?_
            rotate_left
            focus
              go_simp
              try with_reducible rfl
            simp only [Act.put, List.setIfInBounds_toArray, List.set_cons_zero, List.set_cons_succ]
            refine wpL_doG _ (by kernel_rfl) (by rfl) (fun K hK => ?_)
            go_simp
            refine hK _ _ (heap_setCell_other _ ⟨R, 3, none⟩ _ _ (Ne.symm hne)) ?_
            clear hK K
            refine wpL_doneG _ (by kernel_rfl) ?_
            go_wp2_with fail
            go_ret
            exact ⟨rfl, (by first | exact hrd | exact fun _ => hrd), hrd.bel⟩
          · go_simp
            refine hK _ _ hkb ?_
            clear hK K
            refine wpL_doG _ (by kernel_rfl) (by rfl) (fun K hK => ?_)
            go_simp
            refine hK _ _ rfl ?_
            clear hK K
            refine wpL_doG _ (by kernel_rfl) (by rfl) (fun K hK => ?_)
            refine wp_app (.tmp 62) (.tmp 64) 65 rfl elemF rfl o2' rfl (Rd.cells W3 #[.int .i64 num, .int .i64 2, .int .u64 0, .string t] _) rfl (by intro u hu; simp at hu; rcases hu with rfl | rfl | rfl | rfl <;> rfl) (by have := HFF.out; unfold maxLen; omega) (by have := HFF.out; omega) hbb ?_
            intro A5 c5 w5 ho5 hg5 _
            obtain ⟨hR5, hrd⟩ := Rdr.pushF (l := s.out ++ [⟨num, (2 : Nat), 0, t⟩]) hR' o1' o2' hbb2 hF3.h4 hg5 (by simpa [flc, Fld.cells] using ho5) (by simp)
            obtain ⟨k2, k3, j2, j3⟩ := rd_cells hR5
            refine hK _ _ (hg5.block W.heap.size (by have := hF3.F.lt; simp; omega) hF3.ne.symm) ?_
            clear hK K
            simp only [Act.put, List.setIfInBounds_toArray, List.set_cons_zero, List.set_cons_succ]
            refine wpL_takeG _ (v := ?_) (by kernel_rfl) (by kernel_rfl) (by kernel_rfl) (fun _ _ _ h => h) (by rfl) (fun u hu => ?_) ?_
            rotate_left
            focus
              go_simp
              try with_reducible rfl
            simp only [Act.put, List.setIfInBounds_toArray, List.set_cons_zero, List.set_cons_succ]
            refine wpL_takeG _ (v := ?_) (by kernel_rfl) (by kernel_rfl) (by kernel_rfl) (fun _ _ _ h => h) (by rfl) (fun u hu => ?_) ?_
            rotate_left
            focus
              go_simp
              try with_reducible rfl
            simp only [Act.put, List.setIfInBounds_toArray, List.set_cons_zero, List.set_cons_succ]
            refine wpL_doG _ (by kernel_rfl) (by rfl) (fun K hK => ?_)
            go_simp
            refine hK _ _ (heap_setCell_other _ ⟨R, 3, none⟩ _ _ (Ne.symm hne)) ?_
            clear hK K
            refine wpL_doneG _ (by kernel_rfl) ?_
            go_wp2_with fail
            go_ret
            exact ⟨rfl, (by first | exact hrd | exact fun _ => hrd), hrd.bel⟩
      · rw [if_neg ho] at hE
        subst hE
        rw [if_neg ho]
        have hpos : 0 < s.opn.length := by omega
        have hbo : decide (0 < s.opn.length) = true := decide_eq_true hpos
        have HO := Lib.hid ho
        clear ho
        go_enter Tryd.func95, Tryd.ntmps95
        go_wp2_with fail
        refine hcall.mono ?_
        rintro e w1 ⟨rfl, h1, hB1, hk1⟩
        have hF := hB.kp hk1 to (h1 (by first | rfl | trivial))
        have hF2 := hF.setT t
        obtain ⟨a2, a3, a4, a5, a6, a7, a8, a9, a10⟩ := hF.cells
        obtain ⟨b2, b3, b4, b5, b6, b7, b8, b9, b10⟩ := hF2.cells
        have hne := hF.ne_R
        clear hcall hA hB h1 hB1 hk1
        go_wp2_with fail
        go_ret
        exact ⟨rfl, (by first | exact hF2.rdr | exact fun _ => hF2.rdr), hF2.bel⟩
    · rw [if_neg he] at hE
      subst hE
      have hbe : ((er : Int) != 0) = true := by simp; omega
      have HE := Lib.hid he
      clear he
      go_enter Tryd.func95, Tryd.ntmps95
      go_wp2_with fail
      refine hcall.mono ?_
      rintro e w1 ⟨rfl, -, hB1, hk1⟩
      have hF : BoxF w1 W.heap.size num 2 0 ⟨#[]⟩ := (hk1.g.block W.heap.size hB.F.lt (fun e => hB.ne_R (Option.some.inj e).symm)).trans hB.F
      obtain ⟨a4, a5, a6, a7⟩ := hF.cells
      have a8 : w1.frozen? ⟨W.heap.size, 2, none⟩ = false := by simp [World.frozen?, show w1.heap[W.heap.size]? = _ from hF]
      have a9 : w1.frozen? ⟨W.heap.size, 3, none⟩ = false := by simp [World.frozen?, show w1.heap[W.heap.size]? = _ from hF]
      have hbs := hB.hB
      clear hcall hA hB hk1
      go_wp2_with fail
      all_goals go_ret
      all_goals exact ⟨rfl, fun h => absurd h HE.out, hB1.setCell (by exact hbs) _⟩
  by_cases hk1 : kind = 1
  · subst hk1
    have hcall := hwide 1 (by omega)
    have hv0 : (wval b s.at_ 1).text = emptyT := by unfold wval; simp
    obtain ⟨r, hr⟩ : ∃ r, wval b s.at_ 1 = r := ⟨_, rfl⟩
    rw [hr] at hcall hE hv0 ⊢
    obtain ⟨v, t, to, er⟩ := r
    simp only at hv0
    subst hv0
    simp only at hcall hE ⊢
    clear hnum htext hwide
    by_cases he : er = 0
    · subst he
      rw [if_pos rfl] at hE
      by_cases ho : s.opn.length = 0
      · rw [if_pos ho] at hE
        have hbo : decide ((0 : Int) < (s.opn.length : Int)) = false := decide_eq_false (by omega)
        by_cases hf : 256 ≤ s.out.length
        · rw [if_pos hf] at hE
          subst hE
          have HFF := Lib.hid hf
          have hbf : decide ((256 : Int) ≤ (s.out.length : Int)) = true := decide_eq_true (by omega)
          go_enter Tryd.func95, Tryd.ntmps95
          go_wp2_with fail
          refine hcall.mono ?_
          rintro e w1 ⟨rfl, h1, hB1, hk1⟩
          have hF := hB.kp hk1 to (h1 (by first | rfl | trivial))
          have hF2 := hF.setV v
          obtain ⟨a2, a3, a4, a5, a6, a7, a8, a9, a10⟩ := hF.cells
          obtain ⟨b2, b3, b4, b5, b6, b7, b8, b9, b10⟩ := hF2.cells
          have hne := hF.ne_R
          clear hcall hA hB h1 hB1 hk1
          go_wp2_with fail
          go_ret
          first | exact ⟨rfl, fun h => absurd h (by decide), hF2.bel⟩ | exact ⟨rfl, hF2.bel⟩
        · rw [if_neg hf] at hE
          subst hE
          rw [if_pos ho]
          have HFF := Lib.hid hf
          have hbf : decide ((256 : Int) ≤ (s.out.length : Int)) = false := decide_eq_false (by omega)
          go_enter Tryd.func95, Tryd.ntmps95
          go_wp2_with fail
          refine hcall.mono ?_
          rintro e w1 ⟨rfl, h1, hB1, hk1⟩
          have hF := hB.kp hk1 to (h1 (by first | rfl | trivial))
          have hF2 := hF.setV v
          obtain ⟨a2, a3, a4, a5, a6, a7, a8, a9, a10⟩ := hF.cells
          obtain ⟨b2, b3, b4, b5, b6, b7, b8, b9, b10⟩ := hF2.cells
          have hne := hF.ne_R
          clear hcall hA hB h1 hB1 hk1
          go_wp2_with fail
          have hF3 := hF2.drew
          refine wp_region_LG (keepB W.heap.size) 11 [0, 1, 2, 3, 5, 4, 6, 7, 8, 9, 10] rfl (by decide) (by decide) (by kernel_rfl) ?_
          generalize (w1.setCell ⟨W.heap.size, 2, none⟩ (.int .u64 v)).drew = W3 at *
          simp only [List.filterMap_cons, List.filterMap_nil, List.getElem?_cons_zero, List.getElem?_cons_succ, Option.map_some]
          have q0 : ∀ u : World, u.heap[W.heap.size]? = W3.heap[W.heap.size]? → u.cell? ⟨W.heap.size, 0, none⟩ = some (.int .i64 num) := fun u hu => by simp [World.cell?, hu.trans hF3.F]
          have q1 : ∀ u : World, u.heap[W.heap.size]? = W3.heap[W.heap.size]? → u.cell? ⟨W.heap.size, 1, none⟩ = some (.int .i64 ((1 : Nat) : Int)) := fun u hu => by simp [World.cell?, hu.trans hF3.F]
          have q2 : ∀ u : World, u.heap[W.heap.size]? = W3.heap[W.heap.size]? → u.cell? ⟨W.heap.size, 2, none⟩ = some (.int .u64 (v : Nat)) := fun u hu => by simp [World.cell?, hu.trans hF3.F]
          have q3 : ∀ u : World, u.heap[W.heap.size]? = W3.heap[W.heap.size]? → u.cell? ⟨W.heap.size, 3, none⟩ = some (.string ⟨#[]⟩) := fun u hu => by simp [World.cell?, hu.trans hF3.F]
          have x3 : W3.cell? ⟨R, 3, none⟩ = some (.slice Ax s.out.length cx) := (rd_cells hF3.hR).2.1
          have hR' := (Below.heap_alloc W3 (.cells #[.int .i64 num, .int .i64 1, .int .u64 v, .string ⟨#[]⟩] 64) R (Array.getElem?_eq_some_iff.1 hF3.hR).1).trans hF3.hR
          have x3' := (rd_cells hR').2.1
          have o1' := hF3.o1.alloc (.cells #[.int .i64 num, .int .i64 1, .int .u64 v, .string ⟨#[]⟩] 64)
          have o2' := hF3.o2.alloc (.cells #[.int .i64 num, .int .i64 1, .int .u64 v, .string ⟨#[]⟩] 64)
          have hbb2 := hF3.bel.alloc hF3.bel.size (.cells #[.int .i64 num, .int .i64 1, .int .u64 v, .string ⟨#[]⟩] 64)
          have hbb := hbb2.size
          have hkb := Below.heap_alloc W3 (.cells #[.int .i64 num, .int .i64 1, .int .u64 v, .string ⟨#[]⟩] 64) W.heap.size hF3.F.lt
          refine wpL_takeG _ (v := ?_) (by kernel_rfl) (by kernel_rfl) (by kernel_rfl) (fun _ _ _ h => h) (by rfl) (fun u hu => ?_) ?_
          rotate_left
          focus
            replace hu : u.heap[W.heap.size]? = W3.heap[W.heap.size]? := hu
            go_simp
            try with_reducible rfl
          simp only [Act.put, List.setIfInBounds_toArray, List.set_cons_zero, List.set_cons_succ]
          refine wpL_takeG _ (v := ?_) (by kernel_rfl) (by kernel_rfl) (by kernel_rfl) (fun _ _ _ h => h) (by rfl) (fun u hu => ?_) ?_
          rotate_left
          focus
            replace hu : u.heap[W.heap.size]? = W3.heap[W.heap.size]? := hu
            go_simp
            try with_reducible rfl
          simp only [Act.put, List.setIfInBounds_toArray, List.set_cons_zero, List.set_cons_succ]
          refine wpL_takeG _ (v := ?_) (by kernel_rfl) (by kernel_rfl) (by kernel_rfl) (fun _ _ _ h => h) (by rfl) (fun u hu => ?_) ?_
          rotate_left
          focus
            replace hu : u.heap[W.heap.size]? = W3.heap[W.heap.size]? := hu
            go_simp
            try with_reducible rfl
          simp only [Act.put, List.setIfInBounds_toArray, List.set_cons_zero, List.set_cons_succ]
          refine wpL_takeG _ (v := ?_) (by kernel_rfl) (by kernel_rfl) (by kernel_rfl) (fun _ _ _ h => h) (by rfl) (fun u hu => ?_) ?_
          rotate_left
          focus
            replace hu : u.heap[W.heap.size]? = W3.heap[W.heap.size]? := hu
            go_simp
            try with_reducible rfl
          simp only [Act.put, List.setIfInBounds_toArray, List.set_cons_zero, List.set_cons_succ]
          refine wpL_takeG _ (v := ?_) (by kernel_rfl) (by kernel_rfl) (by kernel_rfl) (fun _ _ _ h => h) (by rfl) (fun u hu => ?_) ?_
          rotate_left
          focus
            replace hu : u.heap[W.heap.size]? = W3.heap[W.heap.size]? := hu
            go_simp
            try with_reducible rfl
          simp only [Act.put, List.setIfInBounds_toArray, List.set_cons_zero, List.set_cons_succ]
          refine wpL_do2G _ (by kernel_rfl) (by rfl) (by rfl) (fun K hK => ?_) (fun K hK => ?_)
          · go_simp
            refine hK _ _ rfl ?_
            clear hK K
            refine wpL_doG _ (by kernel_rfl) (by rfl) (fun K hK => ?_)
            go_simp
            refine hK _ _ hkb ?_
            clear hK K
            refine wpL_doG _ (by kernel_rfl) (by rfl) (fun K hK => ?_)
            refine wp_app (.tmp 62) (.tmp 64) 65 rfl elemF rfl o2' rfl (Rd.cells W3 #[.int .i64 num, .int .i64 1, .int .u64 v, .string ⟨#[]⟩] _) rfl (by intro u hu; simp at hu; rcases hu with rfl | rfl | rfl | rfl <;> rfl) (by have := HFF.out; unfold maxLen; omega) (by have := HFF.out; omega) hbb ?_
            intro A5 c5 w5 ho5 hg5 _
            obtain ⟨hR5, hrd⟩ := Rdr.pushF (l := s.out ++ [⟨num, (1 : Nat), v, ⟨#[]⟩⟩]) hR' o1' o2' hbb2 hF3.h4 hg5 (by simpa [flc, Fld.cells] using ho5) (by simp)
            obtain ⟨k2, k3, j2, j3⟩ := rd_cells hR5
            refine hK _ _ (hg5.block W.heap.size (by have := hF3.F.lt; simp; omega) hF3.ne.symm) ?_
            clear hK K
            simp only [Act.put, List.setIfInBounds_toArray, List.set_cons_zero, List.set_cons_succ]
            refine wpL_takeG _ (v := ?_) (by kernel_rfl) (by kernel_rfl) (by kernel_rfl) (fun _ _ _ h => h) (by rfl) (fun u hu => ?_) ?_
            rotate_left
            focus
              go_simp
              try with_reducible rfl
            simp only [Act.put, List.setIfInBounds_toArray, List.set_cons_zero, List.set_cons_succ]
            refine wpL_takeG _ (v := ?_) (by kernel_rfl) (by kernel_rfl) (by kernel_rfl) (fun _ _ _ h => h) (by rfl) (fun u hu => ?_) ?_
            rotate_left
            focus
              go_simp
              try with_reducible rfl
            simp only [Act.put, List.setIfInBounds_toArray, List.set_cons_zero, List.set_cons_succ]
            refine wpL_doG _ (by kernel_rfl) (by rfl) (fun K hK => ?_)
            go_simp
            refine hK _ _ (heap_setCell_other _ ⟨R, 3, none⟩ _ _ (Ne.symm hne)) ?_
            clear hK K
            refine wpL_doneG _ (by kernel_rfl) ?_
            go_wp2_with fail
            go_ret
            exact ⟨rfl, (by first | exact hrd | exact fun _ => hrd), hrd.bel⟩
          · go_simp
            refine hK _ _ hkb ?_
            clear hK K
            refine wpL_doG _ (by kernel_rfl) (by rfl) (fun K hK => ?_)
            go_simp
            refine hK _ _ rfl ?_
            clear hK K
            refine wpL_doG _ (by kernel_rfl) (by rfl) (fun K hK => ?_)
            refine wp_app (.tmp 62) (.tmp 64) 65 rfl elemF rfl o2' rfl (Rd.cells W3 #[.int .i64 num, .int .i64 1, .int .u64 v, .string ⟨#[]⟩] _) rfl (by intro u hu; simp at hu; rcases hu with rfl | rfl | rfl | rfl <;> rfl) (by have := HFF.out; unfold maxLen; omega) (by have := HFF.out; omega) hbb ?_
            intro A5 c5 w5 ho5 hg5 _
            obtain ⟨hR5, hrd⟩ := Rdr.pushF (l := s.out ++ [⟨num, (1 : Nat), v, ⟨#[]⟩⟩]) hR' o1' o2' hbb2 hF3.h4 hg5 (by simpa [flc, Fld.cells] using ho5) (by simp)
            obtain ⟨k2, k3, j2, j3⟩ := rd_cells hR5
            refine hK _ _ (hg5.block W.heap.size (by have := hF3.F.lt; simp; omega) hF3.ne.symm) ?_
            clear hK K
            simp only [Act.put, List.setIfInBounds_toArray, List.set_cons_zero, List.set_cons_succ]
            refine wpL_takeG _ (v := ?_) (by kernel_rfl) (by kernel_rfl) (by kernel_rfl) (fun _ _ _ h => h) (by rfl) (fun u hu => ?_) ?_
            rotate_left
            focus
              go_simp
              try with_reducible rfl
            simp only [Act.put, List.setIfInBounds_toArray, List.set_cons_zero, List.set_cons_succ]
            refine wpL_takeG _ (v := ?_) (by kernel_rfl) (by kernel_rfl) (by kernel_rfl) (fun _ _ _ h => h) (by rfl) (fun u hu => ?_) ?_
            rotate_left
            focus
              go_simp
              try with_reducible rfl
            simp only [Act.put, List.setIfInBounds_toArray, List.set_cons_zero, List.set_cons_succ]
            refine wpL_doG _ (by kernel_rfl) (by rfl) (fun K hK => ?_)
            go_simp
            refine hK _ _ (heap_setCell_other _ ⟨R, 3, none⟩ _ _ (Ne.symm hne)) ?_
            clear hK K
            refine wpL_doneG _ (by kernel_rfl) ?_
            go_wp2_with fail
            go_ret
            exact ⟨rfl, (by first | exact hrd | exact fun _ => hrd), hrd.bel⟩
      · rw [if_neg ho] at hE
        subst hE
        rw [if_neg ho]
        have hpos : 0 < s.opn.length := by omega
        have hbo : decide (0 < s.opn.length) = true := decide_eq_true hpos
        have HO := Lib.hid ho
        clear ho
        go_enter Tryd.func95, Tryd.ntmps95
        go_wp2_with fail
        refine hcall.mono ?_
        rintro e w1 ⟨rfl, h1, hB1, hk1⟩
        have hF := hB.kp hk1 to (h1 (by first | rfl | trivial))
        have hF2 := hF.setV v
        obtain ⟨a2, a3, a4, a5, a6, a7, a8, a9, a10⟩ := hF.cells
        obtain ⟨b2, b3, b4, b5, b6, b7, b8, b9, b10⟩ := hF2.cells
        have hne := hF.ne_R
        clear hcall hA hB h1 hB1 hk1
        go_wp2_with fail
        go_ret
        exact ⟨rfl, (by first | exact hF2.rdr | exact fun _ => hF2.rdr), hF2.bel⟩
    · rw [if_neg he] at hE
      subst hE
      have hbe : ((er : Int) != 0) = true := by simp; omega
      have HE := Lib.hid he
      clear he
      go_enter Tryd.func95, Tryd.ntmps95
      go_wp2_with fail
      refine hcall.mono ?_
      rintro e w1 ⟨rfl, -, hB1, hk1⟩
      have hF : BoxF w1 W.heap.size num 1 0 ⟨#[]⟩ := (hk1.g.block W.heap.size hB.F.lt (fun e => hB.ne_R (Option.some.inj e).symm)).trans hB.F
      obtain ⟨a4, a5, a6, a7⟩ := hF.cells
      have a8 : w1.frozen? ⟨W.heap.size, 2, none⟩ = false := by simp [World.frozen?, show w1.heap[W.heap.size]? = _ from hF]
      have a9 : w1.frozen? ⟨W.heap.size, 3, none⟩ = false := by simp [World.frozen?, show w1.heap[W.heap.size]? = _ from hF]
      have hbs := hB.hB
      clear hcall hA hB hk1
      go_wp2_with fail
      all_goals go_ret
      all_goals exact ⟨rfl, fun h => absurd h HE.out, hB1.setCell (by exact hbs) _⟩
  by_cases hk5 : kind = 5
  · subst hk5
    have hcall := hwide 5 (by omega)
    have hv0 : (wval b s.at_ 5).text = emptyT := by unfold wval; simp
    obtain ⟨r, hr⟩ : ∃ r, wval b s.at_ 5 = r := ⟨_, rfl⟩
    rw [hr] at hcall hE hv0 ⊢
    obtain ⟨v, t, to, er⟩ := r
    simp only at hv0
    subst hv0
    simp only at hcall hE ⊢
    clear hnum htext hwide
    by_cases he : er = 0
    · subst he
      rw [if_pos rfl] at hE
      by_cases ho : s.opn.length = 0
      · rw [if_pos ho] at hE
        have hbo : decide ((0 : Int) < (s.opn.length : Int)) = false := decide_eq_false (by omega)
        by_cases hf : 256 ≤ s.out.length
        · rw [if_pos hf] at hE
          subst hE
          have HFF := Lib.hid hf
          have hbf : decide ((256 : Int) ≤ (s.out.length : Int)) = true := decide_eq_true (by omega)
          go_enter Tryd.func95, Tryd.ntmps95
          go_wp2_with fail
          refine hcall.mono ?_
          rintro e w1 ⟨rfl, h1, hB1, hk1⟩
          have hF := hB.kp hk1 to (h1 (by first | rfl | trivial))
          have hF2 := hF.setV v
          obtain ⟨a2, a3, a4, a5, a6, a7, a8, a9, a10⟩ := hF.cells
          obtain ⟨b2, b3, b4, b5, b6, b7, b8, b9, b10⟩ := hF2.cells
          have hne := hF.ne_R
          clear hcall hA hB h1 hB1 hk1
          go_wp2_with fail
          go_ret
          first | exact ⟨rfl, fun h => absurd h (by decide), hF2.bel⟩ | exact ⟨rfl, hF2.bel⟩
        · rw [if_neg hf] at hE
          subst hE
          rw [if_pos ho]
          have HFF := Lib.hid hf
          have hbf : decide ((256 : Int) ≤ (s.out.length : Int)) = false := decide_eq_false (by omega)
          go_enter Tryd.func95, Tryd.ntmps95
          go_wp2_with fail
          refine hcall.mono ?_
          rintro e w1 ⟨rfl, h1, hB1, hk1⟩
          have hF := hB.kp hk1 to (h1 (by first | rfl | trivial))
          have hF2 := hF.setV v
          obtain ⟨a2, a3, a4, a5, a6, a7, a8, a9, a10⟩ := hF.cells
          obtain ⟨b2, b3, b4, b5, b6, b7, b8, b9, b10⟩ := hF2.cells
          have hne := hF.ne_R
          clear hcall hA hB h1 hB1 hk1
          go_wp2_with fail
          have hF3 := hF2.drew
          refine wp_region_LG (keepB W.heap.size) 11 [0, 1, 2, 3, 5, 4, 6, 7, 8, 9, 10] rfl (by decide) (by decide) (by kernel_rfl) ?_
          generalize (w1.setCell ⟨W.heap.size, 2, none⟩ (.int .u64 v)).drew = W3 at *
          simp only [List.filterMap_cons, List.filterMap_nil, List.getElem?_cons_zero, List.getElem?_cons_succ, Option.map_some]
          have q0 : ∀ u : World, u.heap[W.heap.size]? = W3.heap[W.heap.size]? → u.cell? ⟨W.heap.size, 0, none⟩ = some (.int .i64 num) := fun u hu => by simp [World.cell?, hu.trans hF3.F]
          have q1 : ∀ u : World, u.heap[W.heap.size]? = W3.heap[W.heap.size]? → u.cell? ⟨W.heap.size, 1, none⟩ = some (.int .i64 ((5 : Nat) : Int)) := fun u hu => by simp [World.cell?, hu.trans hF3.F]
          have q2 : ∀ u : World, u.heap[W.heap.size]? = W3.heap[W.heap.size]? → u.cell? ⟨W.heap.size, 2, none⟩ = some (.int .u64 (v : Nat)) := fun u hu => by simp [World.cell?, hu.trans hF3.F]
          have q3 : ∀ u : World, u.heap[W.heap.size]? = W3.heap[W.heap.size]? → u.cell? ⟨W.heap.size, 3, none⟩ = some (.string ⟨#[]⟩) := fun u hu => by simp [World.cell?, hu.trans hF3.F]
          have x3 : W3.cell? ⟨R, 3, none⟩ = some (.slice Ax s.out.length cx) := (rd_cells hF3.hR).2.1
          have hR' := (Below.heap_alloc W3 (.cells #[.int .i64 num, .int .i64 5, .int .u64 v, .string ⟨#[]⟩] 64) R (Array.getElem?_eq_some_iff.1 hF3.hR).1).trans hF3.hR
          have x3' := (rd_cells hR').2.1
          have o1' := hF3.o1.alloc (.cells #[.int .i64 num, .int .i64 5, .int .u64 v, .string ⟨#[]⟩] 64)
          have o2' := hF3.o2.alloc (.cells #[.int .i64 num, .int .i64 5, .int .u64 v, .string ⟨#[]⟩] 64)
          have hbb2 := hF3.bel.alloc hF3.bel.size (.cells #[.int .i64 num, .int .i64 5, .int .u64 v, .string ⟨#[]⟩] 64)
          have hbb := hbb2.size
          have hkb := Below.heap_alloc W3 (.cells #[.int .i64 num, .int .i64 5, .int .u64 v, .string ⟨#[]⟩] 64) W.heap.size hF3.F.lt
          refine wpL_takeG _ (v := ?_) (by kernel_rfl) (by kernel_rfl) (by kernel_rfl) (fun _ _ _ h => h) (by rfl) (fun u hu => ?_) ?_
          rotate_left
          focus
            replace hu : u.heap[W.heap.size]? = W3.heap[W.heap.size]? := hu
            go_simp
            try with_reducible rfl
          simp only [Act.put, List.setIfInBounds_toArray, List.set_cons_zero, List.set_cons_succ]
          refine wpL_takeG _ (v := ?_) (by kernel_rfl) (by kernel_rfl) (by kernel_rfl) (fun _ _ _ h => h) (by rfl) (fun u hu => ?_) ?_
          rotate_left
          focus
            replace hu : u.heap[W.heap.size]? = W3.heap[W.heap.size]? := hu
            go_simp
            try with_reducible rfl
          simp only [Act.put, List.setIfInBounds_toArray, List.set_cons_zero, List.set_cons_succ]
          refine wpL_takeG _ (v := ?_) (by kernel_rfl) (by kernel_rfl) (by kernel_rfl) (fun _ _ _ h => h) (by rfl) (fun u hu => ?_) ?_
          rotate_left
          focus
            replace hu : u.heap[W.heap.size]? = W3.heap[W.heap.size]? := hu
            go_simp
            try with_reducible rfl
          simp only [Act.put, List.setIfInBounds_toArray, List.set_cons_zero, List.set_cons_succ]
          refine wpL_takeG _ (v := ?_) (by kernel_rfl) (by kernel_rfl) (by kernel_rfl) (fun _ _ _ h => h) (by rfl) (fun u hu => ?_) ?_
          rotate_left
          focus
            replace hu : u.heap[W.heap.size]? = W3.heap[W.heap.size]? := hu
            go_simp
            try with_reducible rfl
          simp only [Act.put, List.setIfInBounds_toArray, List.set_cons_zero, List.set_cons_succ]
          refine wpL_takeG _ (v := ?_) (by kernel_rfl) (by kernel_rfl) (by kernel_rfl) (fun _ _ _ h => h) (by rfl) (fun u hu => ?_) ?_
          rotate_left
          focus
            replace hu : u.heap[W.heap.size]? = W3.heap[W.heap.size]? := hu
            go_simp
            try with_reducible rfl
          simp only [Act.put, List.setIfInBounds_toArray, List.set_cons_zero, List.set_cons_succ]
          refine wpL_do2G _ (by kernel_rfl) (by rfl) (by rfl) (fun K hK => ?_) (fun K hK => ?_)
          · go_simp
            refine hK _ _ rfl ?_
            clear hK K
            refine wpL_doG _ (by kernel_rfl) (by rfl) (fun K hK => ?_)
            go_simp
            refine hK _ _ hkb ?_
            clear hK K
            refine wpL_doG _ (by kernel_rfl) (by rfl) (fun K hK => ?_)
            refine wp_app (.tmp 62) (.tmp 64) 65 rfl elemF rfl o2' rfl (Rd.cells W3 #[.int .i64 num, .int .i64 5, .int .u64 v, .string ⟨#[]⟩] _) rfl (by intro u hu; simp at hu; rcases hu with rfl | rfl | rfl | rfl <;> rfl) (by have := HFF.out; unfold maxLen; omega) (by have := HFF.out; omega) hbb ?_
            intro A5 c5 w5 ho5 hg5 _
            obtain ⟨hR5, hrd⟩ := Rdr.pushF (l := s.out ++ [⟨num, (5 : Nat), v, ⟨#[]⟩⟩]) hR' o1' o2' hbb2 hF3.h4 hg5 (by simpa [flc, Fld.cells] using ho5) (by simp)
            obtain ⟨k2, k3, j2, j3⟩ := rd_cells hR5
            refine hK _ _ (hg5.block W.heap.size (by have := hF3.F.lt; simp; omega) hF3.ne.symm) ?_
            clear hK K
            simp only [Act.put, List.setIfInBounds_toArray, List.set_cons_zero, List.set_cons_succ]
            refine wpL_takeG _ (v := ?_) (by kernel_rfl) (by kernel_rfl) (by kernel_rfl) (fun _ _ _ h => h) (by rfl) (fun u hu => ?_) ?_
            rotate_left
            focus
              go_simp
              try with_reducible rfl
            simp only [Act.put, List.setIfInBounds_toArray, List.set_cons_zero, List.set_cons_succ]
            refine wpL_takeG _ (v := ?_) (by kernel_rfl) (by kernel_rfl) (by kernel_rfl) (fun _ _ _ h => h) (by rfl) (fun u hu => ?_) ?_
            rotate_left
            focus
              go_simp
              try with_reducible rfl
            simp only [Act.put, List.setIfInBounds_toArray, List.set_cons_zero, List.set_cons_succ]
            refine wpL_doG _ (by kernel_rfl) (by rfl) (fun K hK => ?_)
            go_simp
            refine hK _ _ (heap_setCell_other _ ⟨R, 3, none⟩ _ _ (Ne.symm hne)) ?_
            clear hK K
            refine wpL_doneG _ (by kernel_rfl) ?_
            go_wp2_with fail
            go_ret
            exact ⟨rfl, (by first | exact hrd | exact fun _ => hrd), hrd.bel⟩
          · go_simp
            refine hK _ _ hkb ?_
            clear hK K
            refine wpL_doG _ (by kernel_rfl) (by rfl) (fun K hK => ?_)
            go_simp
            refine hK _ _ rfl ?_
            clear hK K
            refine wpL_doG _ (by kernel_rfl) (by rfl) (fun K hK => ?_)
            refine wp_app (.tmp 62) (.tmp 64) 65 rfl elemF rfl o2' rfl (Rd.cells W3 #[.int .i64 num, .int .i64 5, .int .u64 v, .string ⟨#[]⟩] _) rfl (by intro u hu; simp at hu; rcases hu with rfl | rfl | rfl | rfl <;> rfl) (by have := HFF.out; unfold maxLen; omega) (by have := HFF.out; omega) hbb ?_
            intro A5 c5 w5 ho5 hg5 _
            obtain ⟨hR5, hrd⟩ := Rdr.pushF (l := s.out ++ [⟨num, (5 : Nat), v, ⟨#[]⟩⟩]) hR' o1' o2' hbb2 hF3.h4 hg5 (by simpa [flc, Fld.cells] using ho5) (by simp)
            obtain ⟨k2, k3, j2, j3⟩ := rd_cells hR5
            refine hK _ _ (hg5.block W.heap.size (by have := hF3.F.lt; simp; omega) hF3.ne.symm) ?_
            clear hK K
            simp only [Act.put, List.setIfInBounds_toArray, List.set_cons_zero, List.set_cons_succ]
            refine wpL_takeG _ (v := ?_) (by kernel_rfl) (by kernel_rfl) (by kernel_rfl) (fun _ _ _ h => h) (by rfl) (fun u hu => ?_) ?_
            rotate_left
            focus
              go_simp
              try with_reducible rfl
            simp only [Act.put, List.setIfInBounds_toArray, List.set_cons_zero, List.set_cons_succ]
            refine wpL_takeG _ (v := ?_) (by kernel_rfl) (by kernel_rfl) (by kernel_rfl) (fun _ _ _ h => h) (by rfl) (fun u hu => ?_) ?_
            rotate_left
            focus
              go_simp
              try with_reducible rfl
            simp only [Act.put, List.setIfInBounds_toArray, List.set_cons_zero, List.set_cons_succ]
            refine wpL_doG _ (by kernel_rfl) (by rfl) (fun K hK => ?_)
            go_simp
            refine hK _ _ (heap_setCell_other _ ⟨R, 3, none⟩ _ _ (Ne.symm hne)) ?_
            clear hK K
            refine wpL_doneG _ (by kernel_rfl) ?_
            go_wp2_with fail
            go_ret
            exact ⟨rfl, (by first | exact hrd | exact fun _ => hrd), hrd.bel⟩
      · rw [if_neg ho] at hE
        subst hE
        rw [if_neg ho]
        have hpos : 0 < s.opn.length := by omega
        have hbo : decide (0 < s.opn.length) = true := decide_eq_true hpos
        have HO := Lib.hid ho
        clear ho
        go_enter Tryd.func95, Tryd.ntmps95
        go_wp2_with fail
        refine hcall.mono ?_
        rintro e w1 ⟨rfl, h1, hB1, hk1⟩
        have hF := hB.kp hk1 to (h1 (by first | rfl | trivial))
        have hF2 := hF.setV v
        obtain ⟨a2, a3, a4, a5, a6, a7, a8, a9, a10⟩ := hF.cells
        obtain ⟨b2, b3, b4, b5, b6, b7, b8, b9, b10⟩ := hF2.cells
        have hne := hF.ne_R
        clear hcall hA hB h1 hB1 hk1
        go_wp2_with fail
        go_ret
        exact ⟨rfl, (by first | exact hF2.rdr | exact fun _ => hF2.rdr), hF2.bel⟩
    · rw [if_neg he] at hE
      subst hE
      have hbe : ((er : Int) != 0) = true := by simp; omega
      have HE := Lib.hid he
      clear he
      go_enter Tryd.func95, Tryd.ntmps95
      go_wp2_with fail
      refine hcall.mono ?_
      rintro e w1 ⟨rfl, -, hB1, hk1⟩
      have hF : BoxF w1 W.heap.size num 5 0 ⟨#[]⟩ := (hk1.g.block W.heap.size hB.F.lt (fun e => hB.ne_R (Option.some.inj e).symm)).trans hB.F
      obtain ⟨a4, a5, a6, a7⟩ := hF.cells
      have a8 : w1.frozen? ⟨W.heap.size, 2, none⟩ = false := by simp [World.frozen?, show w1.heap[W.heap.size]? = _ from hF]
      have a9 : w1.frozen? ⟨W.heap.size, 3, none⟩ = false := by simp [World.frozen?, show w1.heap[W.heap.size]? = _ from hF]
      have hbs := hB.hB
      clear hcall hA hB hk1
      go_wp2_with fail
      all_goals go_ret
      all_goals exact ⟨rfl, fun h => absurd h HE.out, hB1.setCell (by exact hbs) _⟩
  have hw : wval b s.at_ kind = ⟨0, emptyT, 0, 11⟩ := by unfold wval; rw [if_neg hk0, if_neg hk1, if_neg hk5, if_neg hk2]
  rw [hw] at hE ⊢
  simp only at hE ⊢
  rw [if_neg (by decide)] at hE
  subst hE
  have q0 : ((kind : Int) == 0) = false := by simp; omega
  have q2 : ((kind : Int) == 2) = false := by simp; omega
  have q1 : ((kind : Int) == 1) = false := by simp; omega
  have q5 : ((kind : Int) == 5) = false := by simp; omega
  have hbl := hB.bel
  clear hk0 hk2 hk1 hk5 hw hnum htext hwide hA
  go_enter Tryd.func95, Tryd.ntmps95
  go_wp2_with fail
  all_goals go_ret
  all_goals first | exact ⟨rfl, fun h => absurd h (by decide), hbl⟩ | exact ⟨rfl, hbl⟩
end
end Go.Proofs.YtanfnjlndckhkaaDoor

/- WALKS: the reader of wire: next. -/
namespace Go.Proofs.YtanfnjlndckhkaaDoor
open Go.RowKit Plain

section
variable (b : List UInt8) (A : Option Addr) (n c : Nat) (hn : b.length = n) (hnc : n ≤ c) (hcm : c ≤ 9223372036854775807) (hl : b.length ≤ 140737488355328) (w0 : World) (hr0 : Rd w0 w0.heap.size A (bcl b))
include hn hnc hcm hl hr0
set_option maxRecDepth 100000 in
set_option maxHeartbeats 4000000 in
theorem next_any (s : RSt) (R : Nat) (W : World) (h : Rdr w0 W R A n c s) (E : Nat) (s2 : RSt) (hE : wnext b s = (E, s2)) :
    Calls Tryd.prog 68 #[.pointer (some ⟨R, 0, none⟩)] W fun e w' => e = .returned (.int .i64 E) ∧ (E = 0 → Rdr w0 w' R A n c s2) ∧ Below w0.heap.size w0 w' := by
  have hnum := rnum_any b A n c hn hnc hcm hl w0 hr0 s R W h
  have hvl := vget_lt b s.at_
  have hfield := fun (p num kind : Nat) (W' : World) (h' : Rdr w0 W' R A n c ⟨p, s.opn, s.out⟩) => field_any b A n c hn hnc hcm hl w0 hr0 ⟨p, s.opn, s.out⟩ R num kind W' h' _ rfl
  have hbegin := fun (p num : Nat) (W' : World) (h' : Rdr w0 W' R A n c ⟨p, s.opn, s.out⟩) => begin_any A n c w0 ⟨p, s.opn, s.out⟩ R num W' h'
  have hend := fun (p num : Nat) (W' : World) (h' : Rdr w0 W' R A n c ⟨p, s.opn, s.out⟩) => end_any A n c w0 ⟨p, s.opn, s.out⟩ R num W' h'
  clear hn hnc hcm hl hr0
  unfold wnext at hE
  obtain ⟨r, hr⟩ : ∃ r, vget b s.at_ = r := ⟨_, rfl⟩
  rw [hr] at hnum hvl hE
  obtain ⟨v, to, er⟩ := r
  simp only at hnum hvl hE hfield hbegin hend
  clear hr
  by_cases he : er = 0
  · subst he
    rw [if_pos rfl] at hE
    obtain ⟨num, hnm⟩ : ∃ num, v / 8 = num := ⟨_, rfl⟩
    obtain ⟨kind, hkd⟩ : ∃ kind, v % 8 = kind := ⟨_, rfl⟩
    rw [hnm, hkd] at hE
    have hnlt : num < 2305843009213693952 := by omega
    have hsh : (v : Int) / 8 = (num : Int) := by omega
    have hmd : bits BinOp.and IntKind.u64 (v : Int) 7 = (kind : Int) := by
      rw [show (7 : Int) = ((7 : Nat) : Int) by rfl, u64_and_nat _ _ (by omega) (by omega)]
      rw [show v &&& 7 = v % 8 from Nat.and_two_pow_sub_one_eq_mod v 3, hkd]
    go_enter Tryd.func68, Tryd.ntmps68
    go_wp2_with fail
    refine hnum.mono ?_
    rintro e w1 ⟨rfl, h1, hB1, _⟩
    replace h1 := h1 (by first | rfl | trivial)
    go_wp2_with fail
    · have hg : (num : Int) < 1 ∨ 536870912 ≤ (num : Int) := by assumption
      rw [if_pos (by omega)] at hE
      obtain ⟨rfl, rfl⟩ := Prod.mk.inj hE
      go_ret
      exact ⟨rfl, fun h => absurd h (by decide), hB1⟩
    · have hg : 1 ≤ (num : Int) ∧ (num : Int) < 536870912 := by assumption
      have hk3 : kind = 3 := by have := eq_of_beq (by assumption : ((kind : Int) == 3) = true); omega
      rw [if_neg (by omega), if_pos hk3] at hE
      refine (hbegin to num w1 h1).mono ?_
      rintro e w2 ⟨rfl, h2, hB2⟩
      by_cases h8 : 8 ≤ s.opn.length
      · rw [if_pos h8] at hE ⊢
        obtain ⟨rfl, rfl⟩ := Prod.mk.inj hE
        clear h2 h8 hfield hbegin hend hE
        go_wp2_with fail
        go_ret
        first | exact ⟨rfl, fun h => absurd h (by decide), hB2⟩ | exact ⟨rfl, hB2⟩
      · rw [if_neg h8] at hE ⊢
        obtain ⟨rfl, rfl⟩ := Prod.mk.inj hE
        have h3 := h2 h8
        clear h2 h8 hfield hbegin hend hE
        go_wp2_with fail
        go_ret
        exact ⟨rfl, (by first | exact h3 | exact fun _ => h3), hB2⟩
    · have hg : 1 ≤ (num : Int) ∧ (num : Int) < 536870912 := by assumption
      have hk3 : ¬ kind = 3 := by have a : ¬ (kind : Int) = 3 := (by simpa using (by assumption : ((kind : Int) == 3) = false)); omega
      have hk4 : kind = 4 := by have := eq_of_beq (by assumption : ((kind : Int) == 4) = true); omega
      rw [if_neg (by omega), if_neg hk3, if_pos hk4] at hE
      refine (hend to num w1 h1).mono ?_
      rintro e w2 ⟨rfl, h2, hB2⟩
      by_cases h8 : s.opn.getLast? = some num
      · rw [if_pos h8] at hE ⊢
        obtain ⟨rfl, rfl⟩ := Prod.mk.inj hE
        have h3 := h2 h8
        clear h2 h8 hfield hbegin hend hE
        go_wp2_with fail
        go_ret
        exact ⟨rfl, (by first | exact h3 | exact fun _ => h3), hB2⟩
      · rw [if_neg h8] at hE ⊢
        obtain ⟨rfl, rfl⟩ := Prod.mk.inj hE
        clear h2 h8 hfield hbegin hend hE
        go_wp2_with fail
        go_ret
        first | exact ⟨rfl, fun h => absurd h (by decide), hB2⟩ | exact ⟨rfl, hB2⟩
    · have hg : 1 ≤ (num : Int) ∧ (num : Int) < 536870912 := by assumption
      have hk3 : ¬ kind = 3 := by have a : ¬ (kind : Int) = 3 := (by simpa using (by assumption : ((kind : Int) == 3) = false)); omega
      have hk4 : ¬ kind = 4 := by have a : ¬ (kind : Int) = 4 := (by simpa using (by assumption : ((kind : Int) == 4) = false)); omega
      rw [if_neg (by omega), if_neg hk3, if_neg hk4] at hE
      have hf := hfield to num kind w1 h1
      obtain ⟨V, hV⟩ : ∃ V, wval b to kind = V := ⟨_, rfl⟩
      rw [hV] at hE hf
      have hE1 : (if V.err = 0 then if s.opn.length = 0 then if 256 ≤ s.out.length then 6 else 0 else 0 else V.err) = E := by
        split at hE
        · rename_i h1; rw [if_pos h1]
          split at hE
          · rename_i h2; rw [if_pos h2]
            split at hE
            · rename_i h3; rw [if_pos h3]; exact (Prod.mk.inj hE).1
            · rename_i h3; rw [if_neg h3]; exact (Prod.mk.inj hE).1
          · rename_i h2; rw [if_neg h2]; exact (Prod.mk.inj hE).1
        · rename_i h1; rw [if_neg h1]; exact (Prod.mk.inj hE).1
      have hE2 : E = 0 → s2 = ⟨V.to, s.opn, if s.opn.length = 0 then s.out ++ [⟨num, kind, V.val, V.text⟩] else s.out⟩ := by
        intro h0
        split at hE
        · split at hE
          · rename_i h2; rw [if_pos h2]
            split at hE
            · have := (Prod.mk.inj hE).1; omega
            · exact (Prod.mk.inj hE).2.symm
          · rename_i h2; rw [if_neg h2]; exact (Prod.mk.inj hE).2.symm
        · rename_i h1; have := (Prod.mk.inj hE).1; omega
      rw [hE1] at hf
      refine hf.mono ?_
      rintro e w2 ⟨rfl, h2, hB2⟩
      have h3 : E = 0 → Rdr w0 w2 R A n c s2 := fun h0 => by rw [hE2 h0]; exact h2 h0
      clear h2 hfield hbegin hend hE hf hE1 hE2 hV
      have H3 := Lib.hid h3
      clear h3
      go_wp2_with fail
      go_ret
      exact ⟨rfl, H3.out, hB2⟩
    · have hg : (num : Int) < 1 := by assumption
      rw [if_pos (by omega)] at hE
      obtain ⟨rfl, rfl⟩ := Prod.mk.inj hE
      go_ret
      exact ⟨rfl, fun h => absurd h (by decide), hB1⟩
  · rw [if_neg he] at hE
    obtain ⟨rfl, rfl⟩ := Prod.mk.inj hE
    have hb : ((er : Int) != 0) = true := by simp; omega
    have HE := Lib.hid he
    clear he hE hfield hbegin hend hvl
    go_enter Tryd.func68, Tryd.ntmps68
    go_wp2_with fail
    refine hnum.mono ?_
    rintro e w1 ⟨rfl, -, hB1, _⟩
    go_wp2_with fail
    go_ret
    exact ⟨rfl, fun h => absurd h HE.out, hB1⟩
end
end Go.Proofs.YtanfnjlndckhkaaDoor

/- WALK: wire.Of -/
namespace Go.Proofs.YtanfnjlndckhkaaDoor
open Go.RowKit Plain

def atOf (W : World) (R : Nat) : Nat := match W.cell? ⟨R, 1, none⟩ with
  | some v => (intOf v).toNat
  | none => 0
theorem Rdr.atOf {w0 W : World} {R n c : Nat} {A : Option Addr} {s : RSt} (h : Rdr w0 W R A n c s) : atOf W R = s.at_ := by
  obtain ⟨_, _, _, _, _, h1, _⟩ := h.cells
  unfold Go.Proofs.YtanfnjlndckhkaaDoor.atOf
  rw [h1]
  simp [intOf]
theorem wrun_stop {b : List UInt8} {f : Nat} {s : RSt} (h : ¬ s.at_ < b.length) : wrun b f s = if s.opn.length = 0 then (s.out, 0) else ([], 2) := by
  cases f with
  | zero => rfl
  | succ f => rw [wrun, if_neg h]
def OfPost (b : List UInt8) (w : World) (e : Ending) (w' : World) : Prop :=
  ∃ A c, e = .returned (.tuple #[.slice A (wof b).1.length c, .int .i64 (wof b).2]) ∧ w'.ownsRow w.heap.size 64 4 (.slice A (wof b).1.length c) (wof b).1.length (flc (wof b).1) ∧ Below w.heap.size w w'
theorem of_err {b : List UInt8} {w w' : World} {e : Nat} (h : wof b = ([], e)) (hB : Below w.heap.size w w') : OfPost b w (.returned (.tuple #[.slice none 0 0, .int .i64 e])) w' :=
  ⟨none, 0, by rw [h]; rfl, by rw [h]; exact World.ownsRow_nil w' _ _ _, hB⟩
set_option maxRecDepth 100000 in
set_option maxHeartbeats 2000000 in
theorem of_any (b : List UInt8) (A : Option Addr) (n c : Nat) (hn : b.length = n) (hnc : n ≤ c) (hcm : c ≤ 9223372036854775807) (w : World) (hr0 : Rd w w.heap.size A (bcl b)) :
    Calls Tryd.prog 48 #[.slice A n c] w (OfPost b w) := by
  by_cases hlong : 4096 < b.length
  · have hb : decide ((4096 : Int) < (n : Int)) = true := decide_eq_true (by omega)
    have hw : wof b = ([], 3) := by unfold wof; rw [if_pos hlong]
    have HW := Lib.hid hw
    clear hlong hw hr0 hn
    go_enter Tryd.func48, Tryd.ntmps48
    go_wp2_with fail
    go_ret2
    exact of_err (e := 3) HW.out (Below.refl _ _)
  · have hb : decide ((4096 : Int) < (n : Int)) = false := decide_eq_false (by omega)
    have hl : b.length ≤ 140737488355328 := by omega
    have hw : wof b = wrun b b.length ⟨0, [], []⟩ := by unfold wof; rw [if_neg hlong]
    have hnext := fun (s : RSt) (R : Nat) (W : World) (h : Rdr w W R A n c s) => next_any b A n c hn hnc hcm hl w hr0 s R W h (wnext b s).1 (wnext b s).2 rfl
    have HW := Lib.hid hw
    have HN := Lib.hid hn
    clear hlong hw hl hr0 hn
    go_enter Tryd.func48, Tryd.ntmps48
    go_wp2_with fail
    have hR0 : Rdr w (w.alloc (Obj.cells #[.slice A n c, .int .i64 0, .slice none 0 0, .slice none 0 0] 118)) w.heap.size A n c ⟨0, [], []⟩ :=
      ⟨none, 0, none, 0, World.alloc_heap_new w _, World.ownsRow_nil _ _ _ _, World.ownsRow_nil _ _ _ _, (Below.refl _ w).alloc (Nat.le_refl _) _, Nat.le_refl _⟩
    go_loopw [5] (fun _ wr => ∃ (s : RSt) (f : Nat), Rdr w wr w.heap.size A n c s ∧ wof b = wrun b f s ∧ b.length ≤ f + s.at_) (fun _ wr => b.length - atOf wr w.heap.size)
    case atStart => exact ⟨_, b.length, hR0, HW.out, by simp⟩
    case round =>
      clear hR0
      obtain ⟨s, f, h, hw, hf⟩ := hrel
      obtain ⟨Ao, co, Ax, cx, c0, c1, c2, c3, f1, f2, f3, o1, o2⟩ := h.cells
      have hbel := h.bel
      have HWW := Lib.hid hw
      have HF := Lib.hid hf
      clear hw hf
      by_cases hlt : s.at_ < b.length
      · have hlt2 : s.at_ < n := by rw [← HN.out]; exact hlt
        have hb2 : decide ((s.at_ : Int) < (n : Int)) = true := decide_eq_true (by omega)
        have hto := @wnext_to b s
        have hcall := hnext s w.heap.size wr h
        obtain ⟨E, s2, hE⟩ : ∃ E s2, wnext b s = (E, s2) := ⟨_, _, rfl⟩
        rw [hE] at hto hcall
        simp only at hto hcall
        have hstep : ∃ f2, f = f2 + 1 ∧ wof b = if E = 0 then wrun b f2 s2 else ([], E) := by
          cases f with
          | zero => have := HF.out; omega
          | succ f2 => exact ⟨f2, rfl, by rw [HWW.out, wrun, if_pos hlt, hE]⟩
        obtain ⟨f2, hf2, hw2⟩ := hstep
        have HW2 := Lib.hid hw2
        have HT := Lib.hid hto
        have HLT := Lib.hid hlt
        have HAT := Lib.hid h.atOf
        clear hto hw2 hE hnext hlt o1 o2 h
        by_cases hE0 : E = 0
        · subst hE0
          go_wp2_with fail
          refine hcall.mono ?_
          rintro e w2 ⟨rfl, h2, hB2⟩
          have h3 := h2 (by first | rfl | trivial)
          go_wp2_with fail
          go_roundw
          case rel => exact ⟨s2, f2, h3, by rw [HW2.out, if_pos (by first | rfl | trivial)], by have := HT.out (by first | rfl | trivial); have := HF.out; omega⟩
          case measure => rw [h3.atOf, HAT.out]; have := HT.out (by first | rfl | trivial); have := HLT.out; omega
        · have hbe : ((E : Int) != 0) = true := by simp; omega
          have HE := Lib.hid hE0
          clear hE0
          go_wp2_with fail
          refine hcall.mono ?_
          rintro e w2 ⟨rfl, -, hB2⟩
          go_wp2_with fail
          go_ret2
          exact of_err (by rw [HW2.out, if_neg HE.out]) hB2
      · have hlt2 : ¬ s.at_ < n := by rw [← HN.out]; exact hlt
        have hb2 : decide ((s.at_ : Int) < (n : Int)) = false := decide_eq_false (by omega)
        have hw2 := HWW.out
        rw [wrun_stop hlt] at hw2
        have HW2 := Lib.hid hw2
        clear hw2 hlt hnext
        by_cases ho : s.opn.length = 0
        · go_wp2_with fail
          go_ret2
          have hw3 : wof b = (s.out, 0) := by rw [HW2.out, if_pos ho]
          exact ⟨Ax, cx, by rw [hw3]; rfl, by rw [hw3]; exact o2, hbel⟩
        · have hpos : 0 < s.opn.length := by omega
          have HO := Lib.hid ho
          clear ho
          go_wp2_with fail
          go_ret2
          exact of_err (e := 2) (by rw [HW2.out, if_neg HO.out]) hbel
end Go.Proofs.YtanfnjlndckhkaaDoor

/- WALKS: wire.All, wire.Last -/
namespace Go.Proofs.YtanfnjlndckhkaaDoor
open Go.RowKit Plain

def wall (num : Int) (l : List Fld) : List Fld := l.filter fun f => f.num == num
theorem wall_step {num : Int} {l : List Fld} {j : Nat} {f : Fld} (h : l[j]? = some f) : wall num (l.take (j + 1)) = if (f.num == num) = true then wall num (l.take j) ++ [f] else wall num (l.take j) := by
  unfold wall
  rw [List.take_add_one, h]
  cases hf : (f.num == num) <;> simp [hf]
theorem allw_any (B : Nat) (num : Int) (f : Fld) (W : World) (hb : W.cell? ⟨B, 0, none⟩ = some (.int .i64 num)) :
    Calls Tryd.prog 97 #[.agg #[.int .i64 f.num, .int .i64 f.kind, .int .u64 f.val, .string f.text], .pointer (some ⟨B, 0, none⟩)] W fun e w' => e = .returned (.bool (f.num == num)) ∧ Below W.heap.size W w' := by
  have hlb := World.block_lt_of_cell? W _ hb
  have hB := (Below.refl W.heap.size W).alloc (Nat.le_refl _) (Obj.cells #[.int .i64 f.num, .int .i64 f.kind, .int .u64 f.val, .string f.text] 64)
  have hb1 := (hB.cell hlb).trans hb
  go_enter Tryd.func97, Tryd.ntmps97
  go_wp2_with fail
  go_ret
  exact ⟨rfl, hB⟩
set_option maxRecDepth 100000 in
set_option maxHeartbeats 2000000 in
theorem pick_any (B : Nat) (num : Int) (l : List Fld) (A : Option Addr) (c : Nat) (hl : l.length ≤ 1000) (w : World) (hr : Rd w w.heap.size A (flc l)) (hb : w.cell? ⟨B, 0, none⟩ = some (.int .i64 num)) :
    Calls Tryd.prog 96 #[.slice A l.length c, .func (.func 97) #[] #[.pointer (some ⟨B, 0, none⟩)]] w fun e w' => ∃ A' c', e = .returned (.slice A' (wall num l).length c') ∧ w'.ownsRow w.heap.size 64 4 (.slice A' (wall num l).length c') (wall num l).length (flc (wall num l)) ∧ Below w.heap.size w w' := by
  have HR := Lib.hid hr
  have HB := Lib.hid hb
  have hlb := World.block_lt_of_cell? w _ hb
  clear hr hb
  go_enter Tryd.func96, Tryd.ntmps96
  go_wp2_with fail
  go_loopw [5, 10] (fun o i wr => ∃ (j N : Nat) (A2 : Option Addr) (c2 : Nat), i = .int .i64 j ∧ o = .slice A2 N c2 ∧ j ≤ l.length ∧ (wall num (l.take j)).length = N ∧ wr.ownsRow w.heap.size 64 4 (.slice A2 N c2) N (flc (wall num (l.take j))) ∧ Below w.heap.size w wr) (fun _ i _ => l.length - (intOf i).toNat)
  case atStart => exact ⟨0, 0, none, 0, rfl, rfl, Nat.zero_le _, rfl, World.ownsRow_nil _ _ _ _, Below.refl _ _⟩
  case round =>
    obtain ⟨j, N, A2, c2, rfl, rfl, hj, hN, hown, hB⟩ := hrel
    by_cases hlt : j < l.length
    · obtain ⟨f, hf⟩ : ∃ f, l[j]? = some f := ⟨_, List.getElem?_eq_getElem hlt⟩
      obtain ⟨b1, o1, rfl, hb1, g0, g1, g2, g3⟩ := fld_at (HR.out.below hB (Nat.le_refl _)) hf
      have HST := Lib.hid (wall_step (num := num) hf)
      have hNle : N ≤ 1000 := by rw [← hN]; unfold wall; exact Nat.le_trans (List.length_filter_le _ _) (by simp; omega)
      have HNN := Lib.hid hN
      have HNL := Lib.hid hNle
      obtain ⟨fn, fk, fv, ft⟩ := f
      have hal := (Below.refl wr.heap.size wr).alloc (Nat.le_refl _) (Obj.cells #[.int .i64 fn, .int .i64 fk, .int .u64 fv, .string ft] 64)
      have hcall := allw_any B num ⟨fn, fk, fv, ft⟩ (wr.alloc (Obj.cells #[.int .i64 fn, .int .i64 fk, .int .u64 fv, .string ft] 64)) ((hal.cell (Nat.lt_of_lt_of_le hlb hB.size)).trans ((hB.cell hlb).trans HB.out))
      have hF0 := BoxF.new wr fn fk fv ft
      clear hf hN hNle
      go_wp2_with fail
      refine hcall.mono ?_
      rintro e w2 ⟨rfl, hB2⟩
      have hF := hF0.below hB2 hF0.lt
      obtain ⟨d0, d1, d2, d3⟩ := hF.cells
      have hown2 := own_kept hown (hal.trans (hB2.mono hal.size)) (Nat.le_refl _)
      have hB3 := bel_step hB (hal.trans (hB2.mono hal.size))
      have hs3 := hB3.size
      clear hcall hal hF0 hF hB2 hown hB g0 g1 g2 g3
      cases hq : (fn == num)
      · have hst := HST.out
        simp only [hq] at hst
        have HS2 := Lib.hid hst
        clear hst
        go_wp2_with fail
        go_roundw
        case rel => exact ⟨j + 1, N, A2, c2, by go_num, rfl, by omega, by rw [HS2.out]; exact HNN.out, by rw [HS2.out]; exact hown2, hB3⟩
        case measure => simp [intOf]; omega
      · have hst := HST.out
        simp only [hq] at hst
        have HS2 := Lib.hid hst
        clear hst
        go_wp2_with (at_builtin; refine wpList_appF1 rfl _ _ rfl rfl hown2 ⟨fn, fk, fv, ft⟩ rfl (by simp) (by have := HNL.out; omega) hs3 ?_; intro A5 c5 w5 ho5 hg5)
        go_roundw
        case rel => exact ⟨j + 1, N + 1, A5, c5, by go_num, rfl, by omega, by rw [HS2.out]; simp [HNN.out], by rw [HS2.out]; exact ho5, own_grown hB3 hown2 hs3 hg5⟩
        case measure => simp [intOf]; omega
    · have e : l.take j = l := List.take_of_length_le (by omega)
      rw [e] at hN hown
      subst hN
      go_wp2_with fail
      go_ret
      exact ⟨A2, c2, rfl, hown, hB⟩
set_option maxRecDepth 100000 in
theorem all_any (num : Int) (l : List Fld) (A : Option Addr) (c : Nat) (hl : l.length ≤ 1000) (w : World) (hr : Rd w w.heap.size A (flc l)) :
    Calls Tryd.prog 70 #[.slice A l.length c, .int .i64 num] w fun e w' => ∃ A' c', e = .returned (.slice A' (wall num l).length c') ∧ w'.ownsRow w.heap.size 64 4 (.slice A' (wall num l).length c') (wall num l).length (flc (wall num l)) ∧ Below w.heap.size w w' := by
  go_enter Tryd.func70, Tryd.ntmps70
  go_wp2_with fail
  have hB0 := (Below.refl w.heap.size w).alloc (Nat.le_refl _) (Obj.cells #[.int .i64 num] 3)
  refine (pick_any w.heap.size num l A c hl _ ((hr.below hB0 (Nat.le_refl _)).more hB0.size) (by rw [World.cell?_alloc_at _ _ _ _ rfl]; rfl)).mono ?_
  rintro e w1 ⟨A1, c1, rfl, ho, hB⟩
  go_wp2_with fail
  go_ret
  exact ⟨A1, c1, rfl, own_base ho hB0.size, bel_step' hB0 (Nat.le_refl _) hB⟩
end Go.Proofs.YtanfnjlndckhkaaDoor
