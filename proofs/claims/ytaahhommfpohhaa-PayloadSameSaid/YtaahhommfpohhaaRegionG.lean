/- THE SAME over a relation of worlds of the caller's choosing (reflexive, transitive) in the place of 'memory has only grown'. -/
import Derived.Test.YtaahhommfpohhaaBase
import Derived.OrdersHeld
import Derived.RegionTactic
namespace Go.Proofs.Ytaahhommfpohhaa
open Go Go.RowKit

structure Rel where
  G : World → World → Prop
  rf : ∀ w, G w w
  tr : ∀ {a b c}, G a b → G b c → G a c
section
variable {P : Program} {ops : Array Oper} {Q : Exit → Act → World → Prop} {md : Region.Mode} (X : Rel)

/-- Whatever order is picked from here on; memory only grows. -/
def wpAnyMG (P : Program) (md : Region.Mode) (ops : Array Oper) (Q : Exit → Act → World → Prop) : Nat → Array Bool → Act → World → Prop
  | 0, listed, a, w => Region.ready md ops listed = [] ∧ Q .normal a w
  | fuel + 1, listed, a, w =>
    (Region.ready md ops listed = [] → Q .normal a w) ∧
    ∀ i ∈ Region.ready md ops listed, wpOp P ops Q i (fun a' w' => X.G w w' ∧ wpAnyMG P md ops Q fuel (listed.setIfInBounds i true) a' w') a w

theorem wpAny_of_MG : ∀ (fuel : Nat) (listed : Array Bool) (a : Act) (w : World), wpAnyMG X P md ops Q fuel listed a w → wpAny P md ops Q fuel listed a w
  | 0, _, _, _, h => h
  | fuel + 1, _, _, _, h => ⟨h.1, fun i hi => wpOp_mono (fun a' w' h' => wpAny_of_MG fuel _ a' w' h'.2) (h.2 i hi)⟩

theorem yields_growsG {o : Oper} {v : Value} {a : Act} {w w' : World} (h : YieldsIf P ops (X.G w) o v a) (hg : X.G w w') : YieldsIf P ops (X.G w') o v a :=
  h.imp (fun ⟨h1, h2⟩ => ⟨h1, fun u hu => h2 u (X.tr hg hu)⟩) id

theorem wpAnyM_firstG {i : Nat} {oi : Oper} {v : Value} (hi : ops[i]? = some oi) (hsel : ∀ (j : Nat) (o : Oper) cs b, ops[j]? = some o → o.op ≠ .select cs b)
    (hQ : ∀ c a w, Q (.panic c) (a.put oi.dst v) w → Q (.panic c) a w) :
    ∀ (fuel : Nat) (listed : Array Bool) (a : Act) (w : World),
      (∀ j oj, ops[j]? = some oj → j ≠ i → listed.getD j true = false → (∀ e ∈ oj.after, Region.binds md e = true → e.on ≠ i) → oi.apart ops oj = true) →
      i ∈ Region.ready md ops listed → YieldsIf P ops (X.G w) oi v a →
      wpAnyMG X P md ops Q fuel (listed.setIfInBounds i true) (a.put oi.dst v) w → wpAnyMG X P md ops Q (fuel + 1) listed a w := by
  intro fuel
  induction fuel with
  | zero =>
    intro listed a w _ hr hy H
    refine ⟨fun h => (by rw [h] at hr; cases hr), fun j hj => ?_⟩
    by_cases hji : j = i
    · subst hji; exact hy.wpOp hi (X.rf w) ⟨X.rf w, H⟩
    · have := ready_mono hj hji
      rw [H.1] at this
      cases this
  | succ fuel ih =>
    intro listed a w hfree hr hy H
    refine ⟨fun h => (by rw [h] at hr; cases hr), fun j hj => ?_⟩
    by_cases hji : j = i
    · subst hji; exact hy.wpOp hi (X.rf w) ⟨X.rf w, H⟩
    · have h1 := H.2 j (ready_mono hj hji)
      obtain ⟨hjun, oj, hoj, hall⟩ := mem_ready.1 hj
      have hnot : ∀ e ∈ oj.after, Region.binds md e = true → e.on ≠ i := fun e he hb heq => by
        have h1 := hall e he hb
        have h0 := (mem_ready.1 hr).1
        rw [heq] at h1
        rcases Nat.lt_or_ge i listed.size with h' | h'
        · simp [h'] at h0 h1; rw [h0] at h1; cases h1
        · simp [Array.getElem?_eq_none h'] at h1
      have h2 := wpOp_putIf hoj (hfree j oj hoj hji hjun hnot) (fun cs b => hsel i oi cs b hi) (fun cs b => hsel j oj cs b hoj) hQ hy h1
      have hfree' : ∀ k ok, ops[k]? = some ok → k ≠ i → (listed.setIfInBounds j true).getD k true = false →
          (∀ e ∈ ok.after, Region.binds md e = true → e.on ≠ i) → oi.apart ops ok = true := fun k ok hk hki hun hno => by
        refine hfree k ok hk hki ?_ hno
        by_cases hjk : j = k
        · subst hjk; exact hjun
        · rw [getD_set_ne true hjk] at hun; exact hun
      refine wpOp_mono (fun a' w' h3 => ⟨h3.2.1, ih (listed.setIfInBounds j true) a' w' hfree' (ready_mono hr (Ne.symm hji)) (yields_growsG X h3.1 h3.2.1) ?_⟩) h2
      rw [Array.setIfInBounds_comm _ _ hji]
      exact h3.2.2

/-! the walk: the operations that are still to come, each with its number, in whatever order suits -/
def leftG (n : Nat) (rest : List (Nat × Oper)) : Array Bool := ((List.range n).map fun i => !(rest.map (·.1)).contains i).toArray
def wpLG (P : Program) (ops : Array Oper) (Q : Exit → Act → World → Prop) (n m : Nat) (rest : List (Nat × Oper)) (a : Act) (w : World) : Prop :=
  (∀ p ∈ rest, ops[p.1]? = some p.2) → (rest.map (·.1)).Nodup → ops.size = n → wpAnyMG X P .any ops Q m (leftG n rest) a w

theorem left_setG {n k : Nat} {o : Oper} {rest : List (Nat × Oper)} (hn : (((k, o) :: rest).map (·.1)).Nodup) : (leftG n ((k, o) :: rest)).setIfInBounds k true = leftG n rest := by
  apply Array.ext'
  rw [Array.toList_setIfInBounds]
  simp only [leftG]
  apply List.ext_getElem?
  intro j
  have hk : k ∉ rest.map (·.1) := (List.nodup_cons.1 (by rw [List.map_cons] at hn; exact hn)).1
  by_cases hj : j < n
  · by_cases hjk : k = j
    · subst hjk
      rw [List.getElem?_set_self (by simpa using hj), List.getElem?_map, List.getElem?_range hj, Option.map_some]
      have : (rest.map (·.1)).contains k = false := by
        rw [Bool.eq_false_iff]; intro h; exact hk (List.contains_iff_mem.1 h)
      rw [this]; rfl
    · rw [List.getElem?_set_ne hjk]
      simp only [List.getElem?_map, List.getElem?_range hj, Option.map_some, List.map_cons, List.contains_cons]
      have : (j == k) = false := by simp; omega
      rw [this, Bool.false_or]
  · simp [hj]

theorem wp_region_LG {id : Nat} {l : List Oper} {a : Act} {w : World} (n : Nat) (perm : List Nat) (hn : l.length = n) (hp : perm.Nodup) (hall : ((List.range n).all fun i => perm.contains i) = true) (hm : P.follows .mixedOrders = true)
    (h : wpLG X P l.toArray Q n n (perm.filterMap fun i => (l[i]?).map fun o => (i, o)) a w.drew) : (Code.region id l.toArray true).wp P Q a w := by
  subst hn
  refine wp_region_any hm (wpAny_of_MG X _ _ _ _ ?_)
  have hfst : ∀ (q : List Nat), ∀ x ∈ (q.filterMap fun i => (l[i]?).map fun o => (i, o)).map (·.1), x ∈ q := by
    intro q x hx
    simp only [List.mem_map, List.mem_filterMap] at hx
    obtain ⟨p, ⟨i, hi, hip⟩, rfl⟩ := hx
    obtain ⟨o, _, rfl⟩ := Option.map_eq_some_iff.1 hip
    exact hi
  have hnd : ∀ (q : List Nat), q.Nodup → ((q.filterMap fun i => (l[i]?).map fun o => (i, o)).map (·.1)).Nodup := by
    intro q
    induction q with
    | nil => intro _; simp
    | cons x q ih =>
      intro hq
      obtain ⟨h1, h2⟩ := List.nodup_cons.1 hq
      rw [List.filterMap_cons]
      cases hx : (l[x]?).map fun o => (x, o) with
      | none => exact ih h2
      | some p =>
        obtain ⟨o, _, rfl⟩ := Option.map_eq_some_iff.1 hx
        rw [List.map_cons, List.nodup_cons]
        exact ⟨fun hm => h1 (hfst q _ hm), ih h2⟩
  have e : Array.replicate l.toArray.size false = leftG l.length (perm.filterMap fun i => (l[i]?).map fun o => (i, o)) := by
    apply Array.ext'
    simp only [leftG, Array.toList_replicate, List.size_toArray]
    apply List.ext_getElem?
    intro j
    by_cases hj : j < l.length
    · have hjp : j ∈ perm := by
        have := List.all_eq_true.1 hall j (List.mem_range.2 hj)
        simpa using this
      have hmem : j ∈ (perm.filterMap fun i => (l[i]?).map fun o => (i, o)).map (·.1) := by
        simp only [List.mem_map, List.mem_filterMap]
        exact ⟨(j, l[j]), ⟨j, hjp, by rw [List.getElem?_eq_getElem hj]; rfl⟩, rfl⟩
      simp only [List.getElem?_replicate, hj, if_true, List.getElem?_map, List.getElem?_range hj, Option.map_some]
      rw [List.contains_iff_mem.2 hmem]
      rfl
    · simp [hj]
  rw [e]
  have := h ?_ (hnd perm hp) (by simp)
  · simpa using this
  · intro p hp
    obtain ⟨i, _, hip⟩ := List.mem_filterMap.1 hp
    obtain ⟨o, ho, rfl⟩ := Option.map_eq_some_iff.1 hip
    simpa using ho

/-- the next one yields its value and does nothing else, now and whatever grows; it is taken next -/
theorem wpL_takeG {n k m : Nat} {oi : Oper} {rest : List (Nat × Oper)} {v : Value} {a : Act} {w : World}
    (hs : Region.noSelect ops = true) (hf : Region.free .any ops (leftG n ((k, oi) :: rest)) k = true) (hr : (Region.ready .any ops (leftG n ((k, oi) :: rest))).contains k = true)
    (hQ : ∀ c a w, Q (.panic c) (a.put oi.dst v) w → Q (.panic c) a w) (hw : Region.wanted oi (yielded ops a.tmps) = true) (hy : ∀ u, X.G w u → (execOp a.eval oi).run P u = .ok (.value v) u)
    (h : wpLG X P ops Q n m rest (a.put oi.dst v) w) : wpLG X P ops Q n (m + 1) ((k, oi) :: rest) a w := fun hd hnd hn => by
  have hi : ops[k]? = some oi := hd (k, oi) (by simp)
  refine wpAnyM_firstG X hi (Region.noSelect_spec hs) hQ m _ a w (Region.free_spec hi hf) (by simpa using hr) (.inl ⟨hw, hy⟩) ?_
  rw [left_setG hnd]
  exact h (fun p hp => hd p (by simp [hp])) (List.nodup_cons.1 (by rw [List.map_cons] at hnd; exact hnd)).2 hn
/-- it is not wanted -/
theorem wpL_passG {n k m : Nat} {oi : Oper} {rest : List (Nat × Oper)} {a : Act} {w : World}
    (hs : Region.noSelect ops = true) (hf : Region.free .any ops (leftG n ((k, oi) :: rest)) k = true) (hr : (Region.ready .any ops (leftG n ((k, oi) :: rest))).contains k = true)
    (hQ : ∀ c a w, Q (.panic c) (a.put oi.dst undef) w → Q (.panic c) a w) (hw : Region.wanted oi (yielded ops a.tmps) = false)
    (h : wpLG X P ops Q n m rest (a.put oi.dst undef) w) : wpLG X P ops Q n (m + 1) ((k, oi) :: rest) a w := fun hd hnd hn => by
  have hi : ops[k]? = some oi := hd (k, oi) (by simp)
  refine wpAnyM_firstG X hi (Region.noSelect_spec hs) hQ m _ a w (Region.free_spec hi hf) (by simpa using hr) (.inr ⟨hw, rfl⟩) ?_
  rw [left_setG hnd]
  exact h (fun p hp => hd p (by simp [hp])) (List.nodup_cons.1 (by rw [List.map_cons] at hnd; exact hnd)).2 hn
/-- no other may come up: it is carried out -/
theorem wpL_doG {n k m : Nat} {oi : Oper} {rest : List (Nat × Oper)} {a : Act} {w : World} (hr : Region.ready .any ops (leftG n ((k, oi) :: rest)) = [k]) (hw : Region.wanted oi (yielded ops a.tmps) = true)
    (h : ∀ K : Act → World → Prop, (∀ a' w', X.G w w' → wpLG X P ops Q n m rest a' w' → K a' w') → Oper.wp P oi a w K Q) : wpLG X P ops Q n (m + 1) ((k, oi) :: rest) a w := fun hd hnd hn => by
  have hi : ops[k]? = some oi := hd (k, oi) (by simp)
  refine ⟨fun h0 => (by rw [h0] at hr; cases hr), fun j hj => ?_⟩
  rw [hr] at hj
  obtain rfl : j = k := by simpa using hj
  refine wpOp_step hi (fun K' hK => ?_)
  rw [if_pos hw]
  refine h K' (fun a' w' hg hL => hK a' w' ⟨hg, ?_⟩)
  rw [left_setG hnd]
  exact hL (fun p hp => hd p (by simp [hp])) (List.nodup_cons.1 (by rw [List.map_cons] at hnd; exact hnd)).2 hn
theorem left_swapG {n k1 k2 : Nat} {o1 o2 : Oper} {rest : List (Nat × Oper)} : leftG n ((k1, o1) :: (k2, o2) :: rest) = leftG n ((k2, o2) :: (k1, o1) :: rest) := by
  unfold leftG
  congr 1
  apply List.map_congr_left
  intro i _
  simp only [List.map_cons, List.contains_cons]
  cases (i == k1) <;> cases (i == k2) <;> simp
/-- just two may come up -/
theorem wpL_do2G {n k1 k2 m : Nat} {o1 o2 : Oper} {rest : List (Nat × Oper)} {a : Act} {w : World} (hr : Region.ready .any ops (leftG n ((k1, o1) :: (k2, o2) :: rest)) = [k1, k2])
    (hw1 : Region.wanted o1 (yielded ops a.tmps) = true) (hw2 : Region.wanted o2 (yielded ops a.tmps) = true)
    (h1 : ∀ K : Act → World → Prop, (∀ a' w', X.G w w' → wpLG X P ops Q n m ((k2, o2) :: rest) a' w' → K a' w') → Oper.wp P o1 a w K Q)
    (h2 : ∀ K : Act → World → Prop, (∀ a' w', X.G w w' → wpLG X P ops Q n m ((k1, o1) :: rest) a' w' → K a' w') → Oper.wp P o2 a w K Q) :
    wpLG X P ops Q n (m + 1) ((k1, o1) :: (k2, o2) :: rest) a w := fun hd hnd hn => by
  have hi1 : ops[k1]? = some o1 := hd (k1, o1) (by simp)
  have hi2 : ops[k2]? = some o2 := hd (k2, o2) (by simp)
  have hnd1 : (((k2, o2) :: rest).map (·.1)).Nodup := (List.nodup_cons.1 (by rw [List.map_cons] at hnd; exact hnd)).2
  have hnd' : (((k2, o2) :: (k1, o1) :: rest).map (·.1)).Nodup := by
    simp only [List.map_cons, List.nodup_cons, List.mem_cons, not_or] at hnd ⊢
    exact ⟨⟨fun e => hnd.1.1 e.symm, hnd.2.1⟩, hnd.1.2, hnd.2.2⟩
  have hnd2 : (((k1, o1) :: rest).map (·.1)).Nodup := (List.nodup_cons.1 (by rw [List.map_cons] at hnd'; exact hnd')).2
  refine ⟨fun h0 => (by rw [h0] at hr; cases hr), fun j hj => ?_⟩
  rw [hr] at hj
  rcases List.mem_cons.1 hj with rfl | hj
  · refine wpOp_step hi1 (fun K' hK => ?_)
    rw [if_pos hw1]
    refine h1 K' (fun a' w' hg hL => hK a' w' ⟨hg, ?_⟩)
    rw [left_setG hnd]
    exact hL (fun p hp => hd p (by rcases List.mem_cons.1 hp with rfl | hp <;> simp [*])) hnd1 hn
  · obtain rfl : j = k2 := by simpa using hj
    refine wpOp_step hi2 (fun K' hK => ?_)
    rw [if_pos hw2]
    refine h2 K' (fun a' w' hg hL => hK a' w' ⟨hg, ?_⟩)
    rw [left_swapG, left_setG hnd']
    exact hL (fun p hp => hd p (by rcases List.mem_cons.1 hp with rfl | hp <;> simp [*])) hnd2 hn
theorem wpL_doneG {n m : Nat} {a : Act} {w : World} (hr : Region.ready .any ops (leftG n []) = []) (h : Q .normal a w) : wpLG X P ops Q n m [] a w := fun _ _ _ => by
  cases m with
  | zero => exact ⟨hr, h⟩
  | succ m => exact ⟨fun _ => h, by rw [hr]; simp⟩
end
end Go.Proofs.Ytaahhommfpohhaa
