/- WALKS: the reader of wire: begin. -/
import Derived.Test.YtlgokfgbcohioaaDoorWRt
import Derived.Test.YtlgokfgbcohioaaDoorAppF
namespace Go.Proofs.YtlgokfgbcohioaaDoor
open Go.RowKit Plain

theorem Rdr.pushO {w0 W W' : World} {R n c : Nat} {A : Option Addr} {at_ : Nat} {opn : List Nat} {out : List Fld} {Ao Ax Ap : Option Addr} {co cx cp : Nat} {l : List Nat} {N : Nat}
    (hR : W.heap[R]? = some (.cells #[.slice A n c, .int .i64 at_, .slice Ao opn.length co, .slice Ax out.length cx] 97 (0, 0))) (h1 : W.ownsRow w0.heap.size 3 1 (.slice Ao opn.length co) opn.length (icl opn))
    (h2 : W.ownsRow w0.heap.size 73 4 (.slice Ax out.length cx) out.length (flc out)) (h3 : Below w0.heap.size w0 W) (h4 : w0.heap.size ≤ R)
    (hg : W.grownBy W' (Value.slice Ao opn.length co).ownBlock) (hn : W'.ownsRow w0.heap.size 3 1 (.slice Ap N cp) N (icl l)) (hl : l.length = N) :
    W'.heap[R]? = some (.cells #[.slice A n c, .int .i64 at_, .slice Ao opn.length co, .slice Ax out.length cx] 97 (0, 0)) ∧
    Rdr w0 (W'.setCell ⟨R, 2, none⟩ (.slice Ap N cp)) R A n c ⟨at_, l, out⟩ := by
  subst hl
  have hR' := (hg.block R (Array.getElem?_eq_some_iff.1 hR).1 (own_ne h1 (by decide) hR).symm).trans hR
  have h2' := own_other h2 hg (fun g cur hh => own_ne h1 (by decide) hh)
  refine ⟨hR', Ap, cp, Ax, cx, heap_setCell_same W' R 2 _ _ _ hR', own_set hn hR' (by decide) _, own_set h2' hR' (by decide) _, ?_, h4⟩
  exact (own_grown h3 h1 h3.size hg).setCell (p := ⟨R, 2, none⟩) h4 _
theorem Rdr.pushF {w0 W W' : World} {R n c : Nat} {A : Option Addr} {at_ : Nat} {opn : List Nat} {out : List Fld} {Ao Ax Ap : Option Addr} {co cx cp : Nat} {l : List Fld} {N : Nat}
    (hR : W.heap[R]? = some (.cells #[.slice A n c, .int .i64 at_, .slice Ao opn.length co, .slice Ax out.length cx] 97 (0, 0))) (h1 : W.ownsRow w0.heap.size 3 1 (.slice Ao opn.length co) opn.length (icl opn))
    (h2 : W.ownsRow w0.heap.size 73 4 (.slice Ax out.length cx) out.length (flc out)) (h3 : Below w0.heap.size w0 W) (h4 : w0.heap.size ≤ R)
    (hg : W.grownBy W' (Value.slice Ax out.length cx).ownBlock) (hn : W'.ownsRow w0.heap.size 73 4 (.slice Ap N cp) N (flc l)) (hl : l.length = N) :
    W'.heap[R]? = some (.cells #[.slice A n c, .int .i64 at_, .slice Ao opn.length co, .slice Ax out.length cx] 97 (0, 0)) ∧
    Rdr w0 (W'.setCell ⟨R, 3, none⟩ (.slice Ap N cp)) R A n c ⟨at_, opn, l⟩ := by
  subst hl
  have hR' := (hg.block R (Array.getElem?_eq_some_iff.1 hR).1 (own_ne h2 (by decide) hR).symm).trans hR
  have h1' := own_other h1 hg (fun g cur hh => own_ne h2 (by decide) hh)
  refine ⟨hR', Ao, co, Ap, cp, heap_setCell_same W' R 3 _ _ _ hR', own_set h1' hR' (by decide) _, own_set hn hR' (by decide) _, ?_, h4⟩
  exact (own_grown h3 h2 h3.size hg).setCell (p := ⟨R, 3, none⟩) h4 _
theorem rd_cells {W : World} {R : Nat} {A Ao Ax : Option Addr} {n c a no co nx cx : Nat} (h : W.heap[R]? = some (.cells #[.slice A n c, .int .i64 a, .slice Ao no co, .slice Ax nx cx] 97 (0, 0))) :
    W.cell? ⟨R, 2, none⟩ = some (.slice Ao no co) ∧ W.cell? ⟨R, 3, none⟩ = some (.slice Ax nx cx) ∧ W.frozen? ⟨R, 2, none⟩ = false ∧ W.frozen? ⟨R, 3, none⟩ = false := by
  refine ⟨?_, ?_, ?_, ?_⟩ <;> simp [World.cell?, World.frozen?, h]
section
variable (A : Option Addr) (n c : Nat) (w0 : World)
set_option maxRecDepth 100000 in
set_option maxHeartbeats 2000000 in
theorem begin_any (s : RSt) (R num : Nat) (W : World) (h : Rdr w0 W R A n c s) :
    Calls Tryd.prog 80 #[.pointer (some ⟨R, 0, none⟩), .int .i64 num] W fun e w' => e = .returned (.int .i64 (if 8 ≤ s.opn.length then 12 else 0)) ∧ (¬ 8 ≤ s.opn.length → Rdr w0 w' R A n c ⟨s.at_, s.opn ++ [num], s.out⟩) ∧ Below w0.heap.size w0 w' := by
  obtain ⟨Ao, co, Ax, cx, hR, o1, o2, hbel, h4⟩ := h
  obtain ⟨at_, opn, out⟩ := s
  simp only at hR o1 o2 ⊢
  obtain ⟨c2, c3, f2, f3⟩ := rd_cells hR
  by_cases h8 : 8 ≤ opn.length
  · have hb : decide ((8 : Int) ≤ (opn.length : Int)) = true := by simp; omega
    rw [if_pos h8]
    have H8 := Lib.hid h8
    clear h8
    go_enter Tryd.func80, Tryd.ntmps80
    go_wp2_with fail
    go_ret
    exact ⟨rfl, fun h => absurd H8.out h, hbel⟩
  · have hb : decide ((8 : Int) ≤ (opn.length : Int)) = false := by simp; omega
    rw [if_neg h8]
    have H8 := Lib.hid h8
    clear h8
    have hbs := hbel.size
    go_enter Tryd.func80, Tryd.ntmps80
    go_wp2_with (at_builtin; refine wpList_app1 rfl _ _ _ rfl elemI rfl o1 rfl rfl (by intro u hu; simp at hu; subst hu; rfl) (by have := H8.out; unfold maxLen; omega) (by have := H8.out; omega) hbs ?_; intro A5 c5 w5 ho5 hg5 _; obtain ⟨hR5, hrd⟩ := Rdr.pushO (l := opn ++ [num]) hR o1 o2 hbel h4 hg5 (by simpa [icl] using ho5) (by simp); obtain ⟨k2, k3, j2, j3⟩ := rd_cells hR5)
    go_ret
    exact ⟨rfl, fun _ => hrd, hrd.bel⟩
end
end Go.Proofs.YtlgokfgbcohioaaDoor
