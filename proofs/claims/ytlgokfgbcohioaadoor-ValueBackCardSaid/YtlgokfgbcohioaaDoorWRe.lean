/- WALKS: the reader of wire: end. -/
import Derived.Test.YtlgokfgbcohioaaDoorWRf
namespace Go.Proofs.YtlgokfgbcohioaaDoor
open Go.RowKit Plain

theorem own_prefix {W : World} {base : Nat} {e : TypeId} {N m co g : Nat} {xs : List Value} (h : W.ownsRow base e 1 (.slice (some ⟨g, 0, none⟩) N co) N xs) (hm : m ≤ N) : W.ownsRow base e 1 (.slice (some ⟨g, 0, none⟩) m co) m (xs.take m) := by
  have hx : xs.length = N := by simpa using h.1
  rcases h.2 with ⟨hv, _⟩ | ⟨g2, cap, cur, hv, hgb, hh, hnc, hcm, hcs, ht⟩
  · cases hv
  · cases hv
    refine ⟨by simp [hx]; omega, .inr ⟨g, co, cur, rfl, hgb, hh, by omega, hcm, hcs, ?_⟩⟩
    rw [← ht, List.take_take]
    congr 1
    omega
theorem Rdr.popO {w0 W : World} {R n c : Nat} {A : Option Addr} {at_ : Nat} {opn : List Nat} {out : List Fld} {Ao Ax Ap : Option Addr} {co cx cp : Nat} {l : List Nat} {N : Nat}
    (hR : W.heap[R]? = some (.cells #[.slice A n c, .int .i64 at_, .slice Ao opn.length co, .slice Ax out.length cx] 97 (0, 0)))
    (h2 : W.ownsRow w0.heap.size 73 4 (.slice Ax out.length cx) out.length (flc out)) (h3 : Below w0.heap.size w0 W) (h4 : w0.heap.size ≤ R)
    (hn : W.ownsRow w0.heap.size 3 1 (.slice Ap N cp) N (icl l)) (hl : l.length = N) :
    Rdr w0 (W.setCell ⟨R, 2, none⟩ (.slice Ap N cp)) R A n c ⟨at_, l, out⟩ := by
  subst hl
  exact ⟨Ap, cp, Ax, cx, heap_setCell_same W R 2 _ _ _ hR, own_set hn hR (by decide) _, own_set h2 hR (by decide) _, h3.setCell (p := ⟨R, 2, none⟩) h4 _, h4⟩
section
variable (A : Option Addr) (n c : Nat) (w0 : World)
set_option maxRecDepth 100000 in
set_option maxHeartbeats 2000000 in
theorem end_any (s : RSt) (R num : Nat) (W : World) (h : Rdr w0 W R A n c s) :
    Calls Tryd.prog 81 #[.pointer (some ⟨R, 0, none⟩), .int .i64 num] W fun e w' => e = .returned (.int .i64 (if s.opn.getLast? = some num then 0 else 4)) ∧ (s.opn.getLast? = some num → Rdr w0 w' R A n c ⟨s.at_, s.opn.dropLast, s.out⟩) ∧ Below w0.heap.size w0 w' := by
  obtain ⟨Ao, co, Ax, cx, hR, o1, o2, hbel, h4⟩ := h
  obtain ⟨at_, opn, out⟩ := s
  simp only at hR o1 o2 ⊢
  obtain ⟨c2, c3, f2, f3⟩ := rd_cells hR
  rcases List.eq_nil_or_concat opn with rfl | ⟨l, x, rfl⟩
  · rw [if_neg (by simp)]
    clear o1 o2
    simp only [List.length_nil] at c2
    go_enter Tryd.func81, Tryd.ntmps81
    go_wp2_with fail
    go_ret
    exact ⟨rfl, fun h => by simp at h, hbel⟩
  · obtain ⟨g, rfl⟩ : ∃ g, Ao = some ⟨g, 0, none⟩ := by
      rcases o1.2 with ⟨_, h0⟩ | ⟨g, cap, cur, hv, _⟩
      · simp at h0
      · injection hv with hA
        exact ⟨g, hA⟩
    obtain ⟨m, hm⟩ : ∃ m, l.length = m := ⟨_, rfl⟩
    have hN : (l ++ [x]).length = m + 1 := by simp [hm]
    have hN2 : (l.concat x).length = m + 1 := by simp [hm]
    have hcap := own_cap o1
    have hx : W.cell? ⟨g, m, none⟩ = some (.int .i64 x) := by
      have := o1.cellAt m (by omega)
      rw [this]
      simp [icl, ← hm]
    have o3 : W.ownsRow w0.heap.size 3 1 (.slice (some ⟨g, 0, none⟩) m co) m (icl l) := by
      have := own_prefix o1 (m := m) (by omega)
      rwa [show (icl (l.concat x)).take m = icl l by simp [icl, ← hm]] at this
    have hrd := Rdr.popO hR o2 hbel h4 o3 hm
    obtain ⟨N, hNN⟩ : ∃ N, m + 1 = N := ⟨_, rfl⟩
    rw [hN2, hNN] at c2
    rw [hN2, hNN] at hcap
    have hw1 : wrap64 ((N : Int) - 1) = (m : Int) := by unfold wrap64; omega
    have hw2 : IntKind.i64.wrap ((N : Int) - 1) = (m : Int) := by rw [show (N : Int) - 1 = (m : Int) by omega]; exact wrap_small m (by omega)
    have hlt1 : (m : Int) < (N : Int) := by omega
    have hlt2 : m < N := by omega
    have hle3 : (m : Int) ≤ (co : Int) := by omega
    have hle4 : m ≤ co := by omega
    have hlast : (l.concat x).getLast? = some num ↔ x = num := by simp
    have hdrop : (l.concat x).dropLast = l := by simp
    rw [hdrop]
    simp only [hlast]
    clear o1 o2 o3 hN hN2 hlast hdrop hNN hcap hR hm
    by_cases hxn : x = num
    · rw [if_pos hxn]
      have hb : ((x : Int) != (num : Int)) = false := by simp; omega
      go_enter Tryd.func81, Tryd.ntmps81
      go_wp2_with fail
      go_ret
      exact ⟨rfl, fun _ => hrd, hrd.bel⟩
    · rw [if_neg hxn]
      have hb : ((x : Int) != (num : Int)) = true := by simp; omega
      go_enter Tryd.func81, Tryd.ntmps81
      go_wp2_with fail
      go_ret
      exact ⟨rfl, fun h => absurd h hxn, hbel⟩
end
end Go.Proofs.YtlgokfgbcohioaaDoor
