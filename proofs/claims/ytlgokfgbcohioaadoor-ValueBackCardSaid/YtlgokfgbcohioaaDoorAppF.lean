/- append onto a row of fields of the call's own -/
import Derived.Test.YtlgokfgbcohioaaDoorFlds
import Derived.Test.YtlgokfgbcohioaaDoorAppB
namespace Go.Proofs.YtlgokfgbcohioaaDoor
open Go.RowKit

theorem elemF : Elem Tryd.prog 51 73 (.agg #[.int .i64 0, .int .i64 0, .int .u64 0, .string ⟨#[]⟩]) 4 40 :=
  ⟨Tryd.underlying51, info_parts (show (Tryd.prog.info? 73).map (fun i => (i.zero, i.size, i.bytes)) = some (some (.agg #[.int .i64 0, .int .i64 0, .int .u64 0, .string ⟨#[]⟩]), 4, 40) by kernel_rfl), rfl, by omega⟩
theorem fld_one (L : List Fld) : ∀ u ∈ flc L, u.oneCell' = true := by
  intro u hu
  obtain ⟨f, _, hf⟩ := List.mem_flatMap.1 hu
  simp [Fld.cells] at hf
  rcases hf with rfl | rfl | rfl | rfl <;> rfl
section
variable {w : World} {ops : Array Oper} {rest : List Oper} {o : Oper} {a : Act} {Q : Exit → Act → World → Prop}
theorem wpList_appF (hgd : o.guard = none) (s x : Operand)
    (ho : o.op = .call { callee := .builtin .append, args := #[s, x], argTypes := #[51, 51] })
    {base n c : Nat} {A : Option Addr} {l : List Fld} (hs : a.eval s = .slice A n c)
    (hown : w.ownsRow base 73 4 (.slice A n c) n (flc l)) {B m c2 : Nat} {A2 : Option Addr} {l2 : List Fld} (hx : a.eval x = .slice A2 m c2) (hr : Rd w B A2 (flc l2)) (hl : l2.length = m)
    (N : Nat) (hN : n + m = N) (hbd : N ≤ 1000000) (hbase : base ≤ w.heap.size)
    (h : ∀ A' c' w', w'.ownsRow base 73 4 (.slice A' N c') N (flc (l ++ l2)) → w.grownBy w' (Value.slice A n c).ownBlock → wpList Tryd.prog ops Q rest (a.put o.dst (.slice A' N c')) w') :
    wpList Tryd.prog ops Q (o :: rest) a w := by
  subst hN
  refine wpList_app hgd s x _ ho elemF hs hown hx hr (by rw [flc_len]; omega) (fld_one l2) (by unfold maxLen; omega) (by omega) hbase fun A' c' w' h1 h2 _ => h A' c' w' ?_ h2
  rw [show flc (l ++ l2) = flc l ++ flc l2 by simp [flc]]
  exact h1
theorem wpList_appF1 (hgd : o.guard = none) (s x : Operand)
    (ho : o.op = .call { callee := .builtin .append, args := #[s, x], argTypes := #[51, 51] })
    {base n c : Nat} {A : Option Addr} {l : List Fld} (hs : a.eval s = .slice A n c)
    (hown : w.ownsRow base 73 4 (.slice A n c) n (flc l)) {c2 : Nat} (f : Fld) {k : Nat} (hx : a.eval x = .slice (some ⟨k, 0, none⟩) 1 c2) (hk : k = w.heap.size)
    (hbd : n ≤ 1000000) (hbase : base ≤ w.heap.size)
    (h : ∀ A' c' w', w'.ownsRow base 73 4 (.slice A' (n + 1) c') (n + 1) (flc (l ++ [f])) → w.grownBy w' (Value.slice A n c).ownBlock → wpList Tryd.prog ops Q rest (a.put o.dst (.slice A' (n + 1) c')) w') :
    wpList Tryd.prog ops Q (o :: rest) a (w.alloc (.cells #[.int .i64 f.num, .int .i64 f.kind, .int .u64 f.val, .string f.text] 73)) := by
  subst hk
  refine wpList_app1 hgd s x _ ho elemF hs hown hx rfl (by intro u hu; simp at hu; rcases hu with rfl | rfl | rfl | rfl <;> rfl) (by unfold maxLen; omega) (by omega) hbase fun A' c' w' h1 h2 _ => h A' c' w' ?_ h2
  rw [show flc (l ++ [f]) = flc l ++ f.cells by simp [flc]]
  exact h1
end
theorem elemI : Elem Tryd.prog 95 3 (.int .i64 0) 1 8 :=
  ⟨Tryd.underlying95, info_parts (show (Tryd.prog.info? 3).map (fun i => (i.zero, i.size, i.bytes)) = some (some (.int .i64 0), 1, 8) by kernel_rfl), rfl, by omega⟩
/-- the object of a row of the call's own -/
theorem own_obj {W : World} {base : Nat} {e : TypeId} {size n : Nat} {v : Value} {xs : List Value} {g : Nat} (h : W.ownsRow base e size v n xs) (hg : v.ownBlock = some g) : ∃ cur, W.heap[g]? = some (.cells cur e (0, 0)) := by
  rcases h.2 with ⟨hv, _⟩ | ⟨g2, cap, cur, hv, _, hh, _⟩
  · rw [hv] at hg; simp [Value.ownBlock] at hg
  · rw [hv] at hg
    obtain rfl : g2 = g := by simpa [Value.ownBlock] using hg
    exact ⟨cur, hh⟩
theorem own_other {W W' : World} {base : Nat} {e : TypeId} {size n : Nat} {v : Value} {xs : List Value} {row : Option Nat} (h : W.ownsRow base e size v n xs) (hg : W.grownBy W' row) (hne : ∀ g cur, W.heap[g]? = some (.cells cur e (0, 0)) → row ≠ some g) : W'.ownsRow base e size v n xs := by
  refine ⟨h.1, ?_⟩
  rcases h.2 with h2 | ⟨g, cap, cur, hv, hgb, hh, r⟩
  · exact .inl h2
  · exact .inr ⟨g, cap, cur, hv, hgb, (hg.block g (Array.getElem?_eq_some_iff.1 hh).1 (fun e => hne g cur hh e.symm)).trans hh, r⟩
theorem own_ne {W : World} {base : Nat} {e e2 : TypeId} {size n : Nat} {v : Value} {xs : List Value} (h : W.ownsRow base e size v n xs) (he : e ≠ e2) {g : Nat} {cur : Array Value} {fr : Nat × Nat} (hg : W.heap[g]? = some (.cells cur e2 fr)) : v.ownBlock ≠ some g := fun h2 => by
  obtain ⟨c2, h3⟩ := own_obj h h2
  rw [hg] at h3
  simp at h3
  exact he h3.2.1.symm
end Go.Proofs.YtlgokfgbcohioaaDoor
