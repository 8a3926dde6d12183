/- append onto a row of bytes of the call's own -/
import Derived.Test.YtaahhommfpohhaaPut
namespace Go.Proofs.Ytaahhommfpohhaa
open Go.RowKit

theorem own_empty (w : World) {base : Nat} (e : TypeId) {size : Nat} (hb : base ≤ w.heap.size) : (w.alloc (.cells #[] e)).ownsRow base e size (.slice (some ⟨w.heap.size, 0, none⟩) 0 0) 0 [] :=
  World.ownsRow_lit w #[] 0 hb (by simp [maxLen]) (by simp)

theorem own_emptyB (w : World) {base : Nat} (hb : base ≤ w.heap.size) : (w.alloc (.cells #[] 5)).ownsRow base 5 1 (.slice (some ⟨w.heap.size, 0, none⟩) 0 0) 0 (bcl []) := own_empty w _ hb
section
variable {w : World} {ops : Array Oper} {rest : List Oper} {o : Oper} {a : Act} {Q : Exit → Act → World → Prop}
theorem wpList_appB (hgd : o.guard = none) (s x : Operand)
    (ho : o.op = .call { callee := .builtin .append, args := #[s, x], argTypes := #[32, 32] })
    {base n c : Nat} {A : Option Addr} {l : List UInt8} (hs : a.eval s = .slice A n c)
    (hown : w.ownsRow base 5 1 (.slice A n c) n (bcl l)) {B m c2 : Nat} {A2 : Option Addr} {l2 : List UInt8} (hx : a.eval x = .slice A2 m c2) (hr : Rd w B A2 (bcl l2)) (hl : l2.length = m)
    (N : Nat) (hN : n + m = N) (hbd : N ≤ 140737488355328) (hbase : base ≤ w.heap.size)
    (h : ∀ A' c' w', w'.ownsRow base 5 1 (.slice A' N c') N (bcl (l ++ l2)) → w.grownBy w' (Value.slice A n c).ownBlock → wpList Try.prog ops Q rest (a.put o.dst (.slice A' N c')) w') :
    wpList Try.prog ops Q (o :: rest) a w := by
  subst hN
  refine wpList_app hgd s x _ ho elemB hs hown hx hr (by simp [bcl, hl]) (byte_one l2) (by unfold maxLen; omega) (by omega) hbase fun A' c' w' h1 h2 _ => h A' c' w' ?_ h2
  rw [byte_app]
  exact h1
end
end Go.Proofs.Ytaahhommfpohhaa
