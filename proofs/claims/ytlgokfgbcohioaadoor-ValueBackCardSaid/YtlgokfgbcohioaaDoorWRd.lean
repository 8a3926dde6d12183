/- WALKS: the reader of wire: number, wide. -/
import Derived.Test.YtlgokfgbcohioaaDoorWOf
import Derived.Test.YtlgokfgbcohioaaDoorVGetC
import Derived.Test.YtlgokfgbcohioaaDoorRefB
import Derived.Test.YtlgokfgbcohioaaDoorWrap
import Derived.Test.YtlgokfgbcohioaaDoorRegion
namespace Go.Proofs.YtlgokfgbcohioaaDoor
open Go.RowKit Plain

def icl (l : List Nat) : List Value := l.map fun (k : Nat) => Value.int .i64 (k : Int)
/-- in W the reader's box R holds what s says; all that is written lies above w0 -/
def Rdr (w0 W : World) (R : Nat) (A : Option Addr) (n c : Nat) (s : RSt) : Prop :=
  ∃ Ao co Ax cx, W.heap[R]? = some (.cells #[.slice A n c, .int .i64 s.at_, .slice Ao s.opn.length co, .slice Ax s.out.length cx] 97 (0, 0)) ∧
    W.ownsRow w0.heap.size 3 1 (.slice Ao s.opn.length co) s.opn.length (icl s.opn) ∧ W.ownsRow w0.heap.size 73 4 (.slice Ax s.out.length cx) s.out.length (flc s.out) ∧ Below w0.heap.size w0 W ∧ w0.heap.size ≤ R
theorem own_set {W : World} {R i : Nat} {cs : Array Value} {t : TypeId} {fr : Nat × Nat} {base : Nat} {e : TypeId} {size n : Nat} {v : Value} {xs : List Value} (h : W.ownsRow base e size v n xs) (hR : W.heap[R]? = some (.cells cs t fr)) (hne : t ≠ e) (x : Value) :
    (W.setCell ⟨R, i, none⟩ x).ownsRow base e size v n xs := by
  refine ⟨h.1, ?_⟩
  rcases h.2 with h2 | ⟨g, cap, cur, hv, hg, hh, r⟩
  · exact .inl h2
  · refine .inr ⟨g, cap, cur, hv, hg, ?_, r⟩
    rw [heap_setCell_other W ⟨R, i, none⟩ g x (fun e => by subst e; rw [hR] at hh; simp at hh; exact hne hh.2.1)]
    exact hh
theorem Rdr.step {w0 W W' : World} {R n c : Nat} {A : Option Addr} {s : RSt} (h : Rdr w0 W R A n c s) (hB : Below W.heap.size W W') : Rdr w0 W' R A n c s := by
  obtain ⟨Ao, co, Ax, cx, hR, h1, h2, h3, h4⟩ := h
  exact ⟨Ao, co, Ax, cx, (hB.block R (Array.getElem?_eq_some_iff.1 hR).1).trans hR, own_kept h1 hB (Nat.le_refl _), own_kept h2 hB (Nat.le_refl _), bel_step' h3 (Nat.le_refl _) (hB.mono (Nat.le_refl _)), h4⟩
theorem Rdr.setAt {w0 W : World} {R n c : Nat} {A : Option Addr} {s : RSt} (h : Rdr w0 W R A n c s) (k : Nat) : Rdr w0 (W.setCell ⟨R, 1, none⟩ (.int .i64 k)) R A n c ⟨k, s.opn, s.out⟩ := by
  obtain ⟨Ao, co, Ax, cx, hR, h1, h2, h3, h4⟩ := h
  exact ⟨Ao, co, Ax, cx, heap_setCell_same W R 1 _ _ _ hR, own_set h1 hR (by decide) _, own_set h2 hR (by decide) _, h3.setCell (p := ⟨R, 1, none⟩) h4 _, h4⟩
theorem Rdr.cells {w0 W : World} {R n c : Nat} {A : Option Addr} {s : RSt} (h : Rdr w0 W R A n c s) : ∃ Ao co Ax cx, W.cell? ⟨R, 0, none⟩ = some (.slice A n c) ∧ W.cell? ⟨R, 1, none⟩ = some (.int .i64 s.at_) ∧ W.cell? ⟨R, 2, none⟩ = some (.slice Ao s.opn.length co) ∧ W.cell? ⟨R, 3, none⟩ = some (.slice Ax s.out.length cx) ∧
    W.frozen? ⟨R, 1, none⟩ = false ∧ W.frozen? ⟨R, 2, none⟩ = false ∧ W.frozen? ⟨R, 3, none⟩ = false ∧
    W.ownsRow w0.heap.size 3 1 (.slice Ao s.opn.length co) s.opn.length (icl s.opn) ∧ W.ownsRow w0.heap.size 73 4 (.slice Ax s.out.length cx) s.out.length (flc s.out) := by
  obtain ⟨Ao, co, Ax, cx, hR, h1, h2, h3, h4⟩ := h
  refine ⟨Ao, co, Ax, cx, ?_, ?_, ?_, ?_, ?_, ?_, ?_, h1, h2⟩ <;> simp [World.cell?, World.frozen?, hR]
theorem Rdr.bel {w0 W : World} {R n c : Nat} {A : Option Addr} {s : RSt} (h : Rdr w0 W R A n c s) : Below w0.heap.size w0 W := by
  obtain ⟨_, _, _, _, _, _, _, h3, _⟩ := h
  exact h3
theorem vget_zero {b : List UInt8} {p : Int} (h : ¬ (vget b p).2.2 = 0) : (vget b p).1 = 0 := by
  unfold vget at h ⊢
  split
  · rfl
  · rename_i h1
    rw [if_neg h1] at h
    split
    · rename_i h2; rw [if_pos h2] at h; simp at h
    · rfl

/-- from W on, of what was there only the place in the box R is written -/
structure Kp (W W' : World) (R : Nat) : Prop where
  g : W.grownBy W' (some R)
  c2 : W'.cell? ⟨R, 2, none⟩ = W.cell? ⟨R, 2, none⟩
  c3 : W'.cell? ⟨R, 3, none⟩ = W.cell? ⟨R, 3, none⟩
theorem Kp.trans {a b c : World} {R : Nat} (h : Kp a b R) (k : Kp b c R) : Kp a c R := ⟨h.g.trans k.g, k.c2.trans h.c2, k.c3.trans h.c3⟩
theorem Kp.b {W W' : World} {R : Nat} (hR : R < W.heap.size) (h : Below W.heap.size W W') : Kp W W' R := ⟨⟨h.os, h.tape, h.output, h.size, fun k hk _ => h.block k hk⟩, h.cell hR, h.cell hR⟩
theorem Kp.s (W : World) (R : Nat) (v : Value) : Kp W (W.setCell ⟨R, 1, none⟩ v) R := by
  have h := (Below.refl 0 W).setCell (p := ⟨R, 1, none⟩) (Nat.zero_le _) v
  exact ⟨⟨h.os, h.tape, h.output, h.size, fun k _ hne => heap_setCell_other _ _ k _ (fun e => hne (by rw [e]))⟩, World.cell?_setCell_other _ _ _ _ (by simp), World.cell?_setCell_other _ _ _ _ (by simp)⟩
theorem Rdr.lt {w0 W : World} {R n c : Nat} {A : Option Addr} {s : RSt} (h : Rdr w0 W R A n c s) : R < W.heap.size := by
  obtain ⟨_, _, _, _, hR, _⟩ := h
  exact (Array.getElem?_eq_some_iff.1 hR).1
theorem fget_zero {k : Nat} {b : List UInt8} {p : Int} (h : ¬ (fget k b p).2.2 = 0) : (fget k b p).1 = 0 := by
  unfold fget at h ⊢
  split
  · rfl
  · rename_i h1
    rw [if_neg h1] at h
    split
    · rfl
    · rename_i h2; rw [if_neg h2] at h; simp at h

section
variable (b : List UInt8) (A : Option Addr) (n c : Nat) (hn : b.length = n) (hnc : n ≤ c) (hcm : c ≤ 9223372036854775807) (hl : b.length ≤ 140737488355328) (w0 : World) (hr0 : Rd w0 w0.heap.size A (bcl b))
include hn hnc hcm hl hr0
set_option maxRecDepth 100000 in
set_option maxHeartbeats 1000000 in
theorem rnum_any (s : RSt) (R : Nat) (W : World) (h : Rdr w0 W R A n c s) :
    Calls Tryd.prog 79 #[.pointer (some ⟨R, 0, none⟩)] W fun e w' => e = .returned (.tuple #[.int .u64 (vget b s.at_).1, .int .i64 (vget b s.at_).2.2]) ∧ ((vget b s.at_).2.2 = 0 → Rdr w0 w' R A n c ⟨(vget b s.at_).2.1, s.opn, s.out⟩) ∧ Below w0.heap.size w0 w' ∧ Kp W w' R := by
  obtain ⟨Ao, co, Ax, cx, c0, c1, c2, c3, f1, f2, f3, _, _⟩ := h.cells
  have hbel := h.bel
  have hz := @vget_zero b s.at_
  have hvg := vget_any A n c b hn hnc hcm hl s.at_ W.drew ((hr0.below hbel (Nat.le_refl _)).more hbel.size)
  obtain ⟨r, hr⟩ : ∃ r, vget b s.at_ = r := ⟨_, rfl⟩
  rw [hr] at hvg hz ⊢
  clear hr hr0
  obtain ⟨v, to, er⟩ := r
  simp only at hvg hz ⊢
  go_enter Tryd.func79, Tryd.ntmps79
  go_wp2_with fail
  have hg0 : Kp W W.drew R := Kp.b h.lt (Below.refl _ W).drew
  replace h : Rdr w0 W.drew R A n c s := h.step (Below.refl _ W).drew
  have d0 : ∀ u, Below W.drew.heap.size W.drew u → u.cell? ⟨R, 0, none⟩ = some (.slice A n c) := fun u hu => by obtain ⟨_, _, _, _, x, _⟩ := (h.step hu).cells; exact x
  have d1 : ∀ u, Below W.drew.heap.size W.drew u → u.cell? ⟨R, 1, none⟩ = some (.int .i64 s.at_) := fun u hu => by obtain ⟨_, _, _, _, _, x, _⟩ := (h.step hu).cells; exact x
  refine wp_region_L 16 [0, 1, 2, 3, 4, 5, 6, 7, 8, 9, 10, 11, 12, 13, 14, 15] rfl (by decide) (by decide) (by kernel_rfl) ?_
  generalize W.drew = W1 at *
  simp only [List.filterMap_cons, List.filterMap_nil, List.getElem?_cons_zero, List.getElem?_cons_succ, Option.map_some]
  repeat (first
      | (refine wpL_take (v := ?_) (by kernel_rfl) (by kernel_rfl) (by kernel_rfl) (fun _ _ _ h => h) (by rfl) (fun u hu => ?_) ?_
         rotate_left
         focus
           unfold Grows at hu
           go_simp
           try with_reducible rfl
         simp only [Act.put, List.setIfInBounds_toArray, List.set_cons_zero, List.set_cons_succ])
      | (refine wpL_pass (by kernel_rfl) (by kernel_rfl) (by kernel_rfl) (fun _ _ _ h => h) (by rfl) ?_; simp only [Act.put, List.setIfInBounds_toArray, List.set_cons_zero, List.set_cons_succ])
      | (refine wpL_do (by kernel_rfl) (by rfl) (fun K hK => ?_); go_simp; go_at_call 104; refine hvg.mono ?_; rintro e w1 ⟨rfl, hBk⟩; have h1 := h.step hBk; have hg1 : Kp W w1 R := hg0.trans (Kp.b h.lt hBk); refine hK _ _ hBk ?_; clear hK K))
  refine wpL_done (by kernel_rfl) ?_
  clear h hvg hbel d0 d1 c0 c1 c2 c3 f1 f2 f3
  obtain ⟨Ao, co, Ax, cx, c0, c1, c2, c3, f1, f2, f3, _, _⟩ := h1.cells
  by_cases he : er = 0
  · subst he
    go_wp2_with fail
    go_ret2
    exact ⟨rfl, h1.setAt to, (h1.setAt to).bel, hg1.trans (Kp.s _ _ _)⟩
  · have hb : ((er : Int) != 0) = true := by simp; omega
    have hv0 := hz he
    subst hv0
    have HE := Lib.hid he
    clear he hz
    go_wp2_with fail
    go_ret2
    exact ⟨rfl, fun h => absurd h HE.out, h1.bel, hg1⟩
set_option maxRecDepth 100000 in
set_option maxHeartbeats 1000000 in
theorem wide_any (s : RSt) (R : Nat) (kind : Nat) (hk : kind = 1 ∨ kind = 5) (W : World) (h : Rdr w0 W R A n c s) :
    Calls Tryd.prog 106 #[.pointer (some ⟨R, 0, none⟩), .int .i64 kind] W fun e w' => e = .returned (.tuple #[.int .u64 (wval b s.at_ kind).val, .int .i64 (wval b s.at_ kind).err]) ∧ ((wval b s.at_ kind).err = 0 → Rdr w0 w' R A n c ⟨(wval b s.at_ kind).to, s.opn, s.out⟩) ∧ Below w0.heap.size w0 w' ∧ Kp W w' R := by
  have _hl := hl
  obtain ⟨Ao, co, Ax, cx, c0, c1, c2, c3, f1, f2, f3, _, _⟩ := h.cells
  have hbel := h.bel
  have hr := (hr0.below hbel (Nat.le_refl _)).more hbel.size
  have hg0 : Kp W W.drew R := Kp.b h.lt (Below.refl _ W).drew
  replace h : Rdr w0 W.drew R A n c s := h.step (Below.refl _ W).drew
  have d0 : ∀ u, Below W.drew.heap.size W.drew u → u.cell? ⟨R, 0, none⟩ = some (.slice A n c) := fun u hu => by obtain ⟨_, _, _, _, x, _⟩ := (h.step hu).cells; exact x
  have d1 : ∀ u, Below W.drew.heap.size W.drew u → u.cell? ⟨R, 1, none⟩ = some (.int .i64 s.at_) := fun u hu => by obtain ⟨_, _, _, _, _, x, _⟩ := (h.step hu).cells; exact x
  rcases hk with rfl | rfl
  · have hvg := get8_any A n c b hn hnc hcm s.at_ W.heap.size W.drew hr
    have hw : wval b s.at_ 1 = ⟨(fget 8 b s.at_).1, emptyT, (fget 8 b s.at_).2.1, (fget 8 b s.at_).2.2⟩ := by unfold wval; rw [if_neg (by omega), if_pos rfl]
    have hz := @fget_zero 8 b s.at_
    obtain ⟨r, hrr⟩ : ∃ r, fget 8 b s.at_ = r := ⟨_, rfl⟩
    rw [hrr] at hvg hw hz
    rw [hw]
    clear hw hrr hr hr0
    obtain ⟨v, to, er⟩ := r
    simp only at hvg hz ⊢
    go_enter Tryd.func106, Tryd.ntmps106
    go_wp2_with fail
    refine wp_region_L 16 [0, 1, 2, 3, 4, 5, 6, 7, 8, 9, 10, 11, 12, 13, 14, 15] rfl (by decide) (by decide) (by kernel_rfl) ?_
    generalize W.drew = W1 at *
    simp only [List.filterMap_cons, List.filterMap_nil, List.getElem?_cons_zero, List.getElem?_cons_succ, Option.map_some]
    repeat (first
        | (refine wpL_take (v := ?_) (by kernel_rfl) (by kernel_rfl) (by kernel_rfl) (fun _ _ _ h => h) (by rfl) (fun u hu => ?_) ?_
           rotate_left
           focus
             unfold Grows at hu
             go_simp
             try with_reducible rfl
           simp only [Act.put, List.setIfInBounds_toArray, List.set_cons_zero, List.set_cons_succ])
        | (refine wpL_pass (by kernel_rfl) (by kernel_rfl) (by kernel_rfl) (fun _ _ _ h => h) (by rfl) ?_; simp only [Act.put, List.setIfInBounds_toArray, List.set_cons_zero, List.set_cons_succ])
        | (refine wpL_do (by kernel_rfl) (by rfl) (fun K hK => ?_); go_simp; go_at_call 117; refine hvg.mono ?_; rintro e w1 ⟨rfl, rfl⟩; have hBk := Below.refl W1.heap.size W1; refine hK _ _ hBk ?_; clear hK K))
    refine wpL_done (by kernel_rfl) ?_
    clear d0 d1 hvg hbel c0 c1 c2 c3 f1 f2 f3
    obtain ⟨Ao, co, Ax, cx, c0, c1, c2, c3, f1, f2, f3, _, _⟩ := h.cells
    by_cases he : er = 0
    · subst he
      go_wp2_with fail
      go_ret2
      exact ⟨rfl, h.setAt to, (h.setAt to).bel, hg0.trans (Kp.s _ _ _)⟩
    · have hb : ((er : Int) != 0) = true := by simp; omega
      have hv0 := hz he
      subst hv0
      have HE := Lib.hid he
      clear he hz
      go_wp2_with fail
      go_ret2
      exact ⟨rfl, fun h => absurd h HE.out, h.bel, hg0⟩
  · have hvg := get4_any A n c b hn hnc hcm s.at_ W.heap.size W.drew hr
    have hw : wval b s.at_ 5 = ⟨(fget 4 b s.at_).1, emptyT, (fget 4 b s.at_).2.1, (fget 4 b s.at_).2.2⟩ := by unfold wval; rw [if_neg (by omega), if_neg (by omega), if_pos rfl]
    have hz := @fget_zero 4 b s.at_
    obtain ⟨r, hrr⟩ : ∃ r, fget 4 b s.at_ = r := ⟨_, rfl⟩
    have hvw : IntKind.u64.wrap ((fget 4 b s.at_).1 : Int) = ((fget 4 b s.at_).1 : Int) := wrap_u64 _ (by have := fget_lt b s.at_; omega)
    rw [hrr] at hvg hw hz hvw
    rw [hw]
    clear hw hrr hr hr0
    obtain ⟨v, to, er⟩ := r
    simp only at hvg hz hvw ⊢
    go_enter Tryd.func106, Tryd.ntmps106
    go_wp2_with fail
    refine wp_region_L 16 [0, 1, 2, 3, 4, 5, 6, 7, 8, 9, 10, 11, 12, 13, 14, 15] rfl (by decide) (by decide) (by kernel_rfl) ?_
    generalize W.drew = W1 at *
    simp only [List.filterMap_cons, List.filterMap_nil, List.getElem?_cons_zero, List.getElem?_cons_succ, Option.map_some]
    repeat (first
        | (refine wpL_take (v := ?_) (by kernel_rfl) (by kernel_rfl) (by kernel_rfl) (fun _ _ _ h => h) (by rfl) (fun u hu => ?_) ?_
           rotate_left
           focus
             unfold Grows at hu
             go_simp
             try with_reducible rfl
           simp only [Act.put, List.setIfInBounds_toArray, List.set_cons_zero, List.set_cons_succ])
        | (refine wpL_pass (by kernel_rfl) (by kernel_rfl) (by kernel_rfl) (fun _ _ _ h => h) (by rfl) ?_; simp only [Act.put, List.setIfInBounds_toArray, List.set_cons_zero, List.set_cons_succ])
        | (refine wpL_do (by kernel_rfl) (by rfl) (fun K hK => ?_); go_simp; go_at_call 118; refine hvg.mono ?_; rintro e w1 ⟨rfl, rfl⟩; have hBk := Below.refl W1.heap.size W1; refine hK _ _ hBk ?_; clear hK K))
    refine wpL_done (by kernel_rfl) ?_
    clear d0 d1 hvg hbel c0 c1 c2 c3 f1 f2 f3
    obtain ⟨Ao, co, Ax, cx, c0, c1, c2, c3, f1, f2, f3, _, _⟩ := h.cells
    by_cases he : er = 0
    · subst he
      go_wp2_with fail
      go_ret2
      exact ⟨rfl, h.setAt to, (h.setAt to).bel, hg0.trans (Kp.s _ _ _)⟩
    · have hb : ((er : Int) != 0) = true := by simp; omega
      have hv0 := hz he
      subst hv0
      have HE := Lib.hid he
      clear he hz
      go_wp2_with fail
      go_ret2
      exact ⟨rfl, fun h => absurd h HE.out, h.bel, hg0⟩
end
end Go.Proofs.YtlgokfgbcohioaaDoor
