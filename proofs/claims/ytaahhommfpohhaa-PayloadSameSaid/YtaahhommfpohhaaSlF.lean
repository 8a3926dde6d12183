/- append onto a row of fields of the call's own -/
import Derived.Test.YtaahhommfpohhaaFlds
import Derived.Test.YtaahhommfpohhaaAppB
namespace Go.Proofs.Ytaahhommfpohhaa
open Go.RowKit

theorem elemF : Elem Try.prog 63 65 (.agg #[.int .i64 0, .int .i64 0, .int .u64 0, .string ⟨#[]⟩]) 4 40 :=
  ⟨Try.underlying63, info_parts (show (Try.prog.info? 65).map (fun i => (i.zero, i.size, i.bytes)) = some (some (.agg #[.int .i64 0, .int .i64 0, .int .u64 0, .string ⟨#[]⟩]), 4, 40) by kernel_rfl), rfl, by omega⟩
theorem fld_one (L : List Fld) : ∀ u ∈ flc L, u.oneCell' = true := by
  intro u hu
  obtain ⟨f, _, hf⟩ := List.mem_flatMap.1 hu
  simp [Fld.cells] at hf
  rcases hf with rfl | rfl | rfl | rfl <;> rfl
section
variable {w : World} {ops : Array Oper} {rest : List Oper} {o : Oper} {a : Act} {Q : Exit → Act → World → Prop}
theorem wpList_appF (hgd : o.guard = none) (s x : Operand)
    (ho : o.op = .call { callee := .builtin .append, args := #[s, x], argTypes := #[63, 63] })
    {base n c : Nat} {A : Option Addr} {l : List Fld} (hs : a.eval s = .slice A n c)
    (hown : w.ownsRow base 65 4 (.slice A n c) n (flc l)) {B m c2 : Nat} {A2 : Option Addr} {l2 : List Fld} (hx : a.eval x = .slice A2 m c2) (hr : Rd w B A2 (flc l2)) (hl : l2.length = m)
    (N : Nat) (hN : n + m = N) (hbd : N ≤ 1000000) (hbase : base ≤ w.heap.size)
    (h : ∀ A' c' w', w'.ownsRow base 65 4 (.slice A' N c') N (flc (l ++ l2)) → w.grownBy w' (Value.slice A n c).ownBlock → wpList Try.prog ops Q rest (a.put o.dst (.slice A' N c')) w') :
    wpList Try.prog ops Q (o :: rest) a w := by
  subst hN
  refine wpList_app hgd s x _ ho elemF hs hown hx hr (by rw [flc_len]; omega) (fld_one l2) (by unfold maxLen; omega) (by omega) hbase fun A' c' w' h1 h2 _ => h A' c' w' ?_ h2
  rw [show flc (l ++ l2) = flc l ++ flc l2 by simp [flc]]
  exact h1
theorem wpList_appF1 (hgd : o.guard = none) (s x : Operand)
    (ho : o.op = .call { callee := .builtin .append, args := #[s, x], argTypes := #[63, 63] })
    {base n c : Nat} {A : Option Addr} {l : List Fld} (hs : a.eval s = .slice A n c)
    (hown : w.ownsRow base 65 4 (.slice A n c) n (flc l)) {c2 : Nat} (f : Fld) {k : Nat} (hx : a.eval x = .slice (some ⟨k, 0, none⟩) 1 c2) (hk : k = w.heap.size)
    (hbd : n ≤ 1000000) (hbase : base ≤ w.heap.size)
    (h : ∀ A' c' w', w'.ownsRow base 65 4 (.slice A' (n + 1) c') (n + 1) (flc (l ++ [f])) → w.grownBy w' (Value.slice A n c).ownBlock → wpList Try.prog ops Q rest (a.put o.dst (.slice A' (n + 1) c')) w') :
    wpList Try.prog ops Q (o :: rest) a (w.alloc (.cells #[.int .i64 f.num, .int .i64 f.kind, .int .u64 f.val, .string f.text] 65)) := by
  subst hk
  refine wpList_app1 hgd s x _ ho elemF hs hown hx rfl (by intro u hu; simp at hu; rcases hu with rfl | rfl | rfl | rfl <;> rfl) (by unfold maxLen; omega) (by omega) hbase fun A' c' w' h1 h2 _ => h A' c' w' ?_ h2
  rw [show flc (l ++ [f]) = flc l ++ f.cells by simp [flc]]
  exact h1
end
end Go.Proofs.Ytaahhommfpohhaa
