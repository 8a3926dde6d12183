/- Several texts in one: words, plain laws and walks that the statement's proof imports. -/
import Derived.Test.YtkanhggmhjldmaaMeta3
import Derived.Test.YtkanhggmhjldmaaMeta2
import Derived.Test.YtkanhggmhjldmaaMeta1
import Derived.BigQuiet
import Derived.Deep.QuietTactic
import Derived.OrdersHeld
import Derived.RegionTactic
/- WALKS: the reader of wire: number, wide. -/
namespace Go.Proofs.Ytkanhggmhjldmaa
open Go.RowKit Plain

def icl (l : List Nat) : List Value := l.map fun (k : Nat) => Value.int .i64 (k : Int)
/-- in W the reader's box R holds what s says; all that is written lies above w0 -/
def Rdr (w0 W : World) (R : Nat) (A : Option Addr) (n c : Nat) (s : RSt) : Prop :=
  ∃ Ao co Ax cx, W.heap[R]? = some (.cells #[.slice A n c, .int .i64 s.at_, .slice Ao s.opn.length co, .slice Ax s.out.length cx] 75 (0, 0)) ∧
    W.ownsRow w0.heap.size 3 1 (.slice Ao s.opn.length co) s.opn.length (icl s.opn) ∧ W.ownsRow w0.heap.size 49 4 (.slice Ax s.out.length cx) s.out.length (flc s.out) ∧ Below w0.heap.size w0 W ∧ w0.heap.size ≤ R
theorem own_set {W : World} {R i : Nat} {cs : Array Value} {t : TypeId} {fr : Nat × Nat} {base : Nat} {e : TypeId} {size n : Nat} {v : Value} {xs : List Value} (h : W.ownsRow base e size v n xs) (hR : W.heap[R]? = some (.cells cs t fr)) (hne : t ≠ e) (x : Value) :
    (W.setCell ⟨R, i, none⟩ x).ownsRow base e size v n xs := by
  refine ⟨h.1, ?_⟩
  rcases h.2 with h2 | ⟨g, cap, cur, hv, hg, hh, r⟩
  · exact .inl h2
  · refine .inr ⟨g, cap, cur, hv, hg, ?_, r⟩
    rw [heap_setCell_other W ⟨R, i, none⟩ g x (fun e => by subst e; rw [hR] at hh; simp at hh; exact hne hh.2.1)]
    exact hh
theorem Rdr.step {w0 W W' : World} {R n c : Nat} {A : Option Addr} {s : RSt} (h : Rdr w0 W R A n c s) (hB : Below W.heap.size W W') : Rdr w0 W' R A n c s := by
  obtain ⟨Ao, co, Ax, cx, hR, h1, h2, h3, h4⟩ := h
  exact ⟨Ao, co, Ax, cx, (hB.block R (Array.getElem?_eq_some_iff.1 hR).1).trans hR, own_kept h1 hB (Nat.le_refl _), own_kept h2 hB (Nat.le_refl _), bel_step' h3 (Nat.le_refl _) (hB.mono (Nat.le_refl _)), h4⟩
theorem Rdr.setAt {w0 W : World} {R n c : Nat} {A : Option Addr} {s : RSt} (h : Rdr w0 W R A n c s) (k : Nat) : Rdr w0 (W.setCell ⟨R, 1, none⟩ (.int .i64 k)) R A n c ⟨k, s.opn, s.out⟩ := by
  obtain ⟨Ao, co, Ax, cx, hR, h1, h2, h3, h4⟩ := h
  exact ⟨Ao, co, Ax, cx, heap_setCell_same W R 1 _ _ _ hR, own_set h1 hR (by decide) _, own_set h2 hR (by decide) _, h3.setCell (p := ⟨R, 1, none⟩) h4 _, h4⟩
theorem Rdr.cells {w0 W : World} {R n c : Nat} {A : Option Addr} {s : RSt} (h : Rdr w0 W R A n c s) : ∃ Ao co Ax cx, W.cell? ⟨R, 0, none⟩ = some (.slice A n c) ∧ W.cell? ⟨R, 1, none⟩ = some (.int .i64 s.at_) ∧ W.cell? ⟨R, 2, none⟩ = some (.slice Ao s.opn.length co) ∧ W.cell? ⟨R, 3, none⟩ = some (.slice Ax s.out.length cx) ∧
    W.frozen? ⟨R, 1, none⟩ = false ∧ W.frozen? ⟨R, 2, none⟩ = false ∧ W.frozen? ⟨R, 3, none⟩ = false ∧
    W.ownsRow w0.heap.size 3 1 (.slice Ao s.opn.length co) s.opn.length (icl s.opn) ∧ W.ownsRow w0.heap.size 49 4 (.slice Ax s.out.length cx) s.out.length (flc s.out) := by
  obtain ⟨Ao, co, Ax, cx, hR, h1, h2, h3, h4⟩ := h
  refine ⟨Ao, co, Ax, cx, ?_, ?_, ?_, ?_, ?_, ?_, ?_, h1, h2⟩ <;> simp [World.cell?, World.frozen?, hR]
theorem Rdr.bel {w0 W : World} {R n c : Nat} {A : Option Addr} {s : RSt} (h : Rdr w0 W R A n c s) : Below w0.heap.size w0 W := by
  obtain ⟨_, _, _, _, _, _, _, h3, _⟩ := h
  exact h3
theorem vget_zero {b : List UInt8} {p : Int} (h : ¬ (vget b p).2.2 = 0) : (vget b p).1 = 0 := by
  unfold vget at h ⊢
  split
  · rfl
  · rename_i h1
    rw [if_neg h1] at h
    split
    · rename_i h2; rw [if_pos h2] at h; simp at h
    · rfl

/-- from W on, of what was there only the place in the box R is written -/
structure Kp (W W' : World) (R : Nat) : Prop where
  g : W.grownBy W' (some R)
  c2 : W'.cell? ⟨R, 2, none⟩ = W.cell? ⟨R, 2, none⟩
  c3 : W'.cell? ⟨R, 3, none⟩ = W.cell? ⟨R, 3, none⟩
theorem Kp.trans {a b c : World} {R : Nat} (h : Kp a b R) (k : Kp b c R) : Kp a c R := ⟨h.g.trans k.g, k.c2.trans h.c2, k.c3.trans h.c3⟩
theorem Kp.b {W W' : World} {R : Nat} (hR : R < W.heap.size) (h : Below W.heap.size W W') : Kp W W' R := ⟨⟨h.os, h.tape, h.output, h.size, fun k hk _ => h.block k hk⟩, h.cell hR, h.cell hR⟩
theorem Kp.s (W : World) (R : Nat) (v : Value) : Kp W (W.setCell ⟨R, 1, none⟩ v) R := by
  have h := (Below.refl 0 W).setCell (p := ⟨R, 1, none⟩) (Nat.zero_le _) v
  exact ⟨⟨h.os, h.tape, h.output, h.size, fun k _ hne => heap_setCell_other _ _ k _ (fun e => hne (by rw [e]))⟩, World.cell?_setCell_other _ _ _ _ (by simp), World.cell?_setCell_other _ _ _ _ (by simp)⟩
theorem Rdr.lt {w0 W : World} {R n c : Nat} {A : Option Addr} {s : RSt} (h : Rdr w0 W R A n c s) : R < W.heap.size := by
  obtain ⟨_, _, _, _, hR, _⟩ := h
  exact (Array.getElem?_eq_some_iff.1 hR).1
theorem fget_zero {k : Nat} {b : List UInt8} {p : Int} (h : ¬ (fget k b p).2.2 = 0) : (fget k b p).1 = 0 := by
  unfold fget at h ⊢
  split
  · rfl
  · rename_i h1
    rw [if_neg h1] at h
    split
    · rfl
    · rename_i h2; rw [if_neg h2] at h; simp at h

section
variable (b : List UInt8) (A : Option Addr) (n c : Nat) (hn : b.length = n) (hnc : n ≤ c) (hcm : c ≤ 9223372036854775807) (hl : b.length ≤ 140737488355328) (w0 : World) (hr0 : Rd w0 w0.heap.size A (bcl b))
include hn hnc hcm hl hr0
set_option maxRecDepth 100000 in
set_option maxHeartbeats 1000000 in
theorem rnum_any (s : RSt) (R : Nat) (W : World) (h : Rdr w0 W R A n c s) :
    Calls Try.prog 54 #[.pointer (some ⟨R, 0, none⟩)] W fun e w' => e = .returned (.tuple #[.int .u64 (vget b s.at_).1, .int .i64 (vget b s.at_).2.2]) ∧ ((vget b s.at_).2.2 = 0 → Rdr w0 w' R A n c ⟨(vget b s.at_).2.1, s.opn, s.out⟩) ∧ Below w0.heap.size w0 w' ∧ Kp W w' R := by
  obtain ⟨Ao, co, Ax, cx, c0, c1, c2, c3, f1, f2, f3, _, _⟩ := h.cells
  have hbel := h.bel
  have hz := @vget_zero b s.at_
  have hvg := vget_any A n c b hn hnc hcm hl s.at_ W.drew ((hr0.below hbel (Nat.le_refl _)).more hbel.size)
  obtain ⟨r, hr⟩ : ∃ r, vget b s.at_ = r := ⟨_, rfl⟩
  rw [hr] at hvg hz ⊢
  clear hr hr0
  obtain ⟨v, to, er⟩ := r
  simp only at hvg hz ⊢
  go_enter Try.func54, Try.ntmps54
  go_wp2_with fail
  have hg0 : Kp W W.drew R := Kp.b h.lt (Below.refl _ W).drew
  replace h : Rdr w0 W.drew R A n c s := h.step (Below.refl _ W).drew
  have d0 : ∀ u, Below W.drew.heap.size W.drew u → u.cell? ⟨R, 0, none⟩ = some (.slice A n c) := fun u hu => by obtain ⟨_, _, _, _, x, _⟩ := (h.step hu).cells; exact x
  have d1 : ∀ u, Below W.drew.heap.size W.drew u → u.cell? ⟨R, 1, none⟩ = some (.int .i64 s.at_) := fun u hu => by obtain ⟨_, _, _, _, _, x, _⟩ := (h.step hu).cells; exact x
  refine wp_region_L 16 [0, 1, 2, 3, 4, 5, 6, 7, 8, 9, 10, 11, 12, 13, 14, 15] rfl (by decide) (by decide) (by kernel_rfl) ?_
  generalize W.drew = W1 at *
  simp only [List.filterMap_cons, List.filterMap_nil, List.getElem?_cons_zero, List.getElem?_cons_succ, Option.map_some]
  repeat (first
      | (refine wpL_take (v := ?_) (by kernel_rfl) (by kernel_rfl) (by kernel_rfl) (fun _ _ _ h => h) (by rfl) (fun u hu => ?_) ?_
         rotate_left
         focus
           unfold Grows at hu
           go_simp
           try with_reducible rfl
         simp only [Act.put, List.setIfInBounds_toArray, List.set_cons_zero, List.set_cons_succ])
      | (refine wpL_pass (by kernel_rfl) (by kernel_rfl) (by kernel_rfl) (fun _ _ _ h => h) (by rfl) ?_; simp only [Act.put, List.setIfInBounds_toArray, List.set_cons_zero, List.set_cons_succ])
      | (refine wpL_do (by kernel_rfl) (by rfl) (fun K hK => ?_); go_simp; go_at_call 70; refine hvg.mono ?_; rintro e w1 ⟨rfl, hBk⟩; have h1 := h.step hBk; have hg1 : Kp W w1 R := hg0.trans (Kp.b h.lt hBk); refine hK _ _ hBk ?_; clear hK K))
  refine wpL_done (by kernel_rfl) ?_
  clear h hvg hbel d0 d1 c0 c1 c2 c3 f1 f2 f3
  obtain ⟨Ao, co, Ax, cx, c0, c1, c2, c3, f1, f2, f3, _, _⟩ := h1.cells
  by_cases he : er = 0
  · subst he
    go_wp2_with fail
    go_ret2
    exact ⟨rfl, h1.setAt to, (h1.setAt to).bel, hg1.trans (Kp.s _ _ _)⟩
  · have hb : ((er : Int) != 0) = true := by simp; omega
    have hv0 := hz he
    subst hv0
    have HE := Lib.hid he
    clear he hz
    go_wp2_with fail
    go_ret2
    exact ⟨rfl, fun h => absurd h HE.out, h1.bel, hg1⟩
set_option maxRecDepth 100000 in
set_option maxHeartbeats 1000000 in
theorem wide_any (s : RSt) (R : Nat) (kind : Nat) (hk : kind = 1 ∨ kind = 5) (W : World) (h : Rdr w0 W R A n c s) :
    Calls Try.prog 72 #[.pointer (some ⟨R, 0, none⟩), .int .i64 kind] W fun e w' => e = .returned (.tuple #[.int .u64 (wval b s.at_ kind).val, .int .i64 (wval b s.at_ kind).err]) ∧ ((wval b s.at_ kind).err = 0 → Rdr w0 w' R A n c ⟨(wval b s.at_ kind).to, s.opn, s.out⟩) ∧ Below w0.heap.size w0 w' ∧ Kp W w' R := by
  have _hl := hl
  obtain ⟨Ao, co, Ax, cx, c0, c1, c2, c3, f1, f2, f3, _, _⟩ := h.cells
  have hbel := h.bel
  have hr := (hr0.below hbel (Nat.le_refl _)).more hbel.size
  have hg0 : Kp W W.drew R := Kp.b h.lt (Below.refl _ W).drew
  replace h : Rdr w0 W.drew R A n c s := h.step (Below.refl _ W).drew
  have d0 : ∀ u, Below W.drew.heap.size W.drew u → u.cell? ⟨R, 0, none⟩ = some (.slice A n c) := fun u hu => by obtain ⟨_, _, _, _, x, _⟩ := (h.step hu).cells; exact x
  have d1 : ∀ u, Below W.drew.heap.size W.drew u → u.cell? ⟨R, 1, none⟩ = some (.int .i64 s.at_) := fun u hu => by obtain ⟨_, _, _, _, _, x, _⟩ := (h.step hu).cells; exact x
  rcases hk with rfl | rfl
  · have hvg := get8_any A n c b hn hnc hcm s.at_ W.heap.size W.drew hr
    have hw : wval b s.at_ 1 = ⟨(fget 8 b s.at_).1, emptyT, (fget 8 b s.at_).2.1, (fget 8 b s.at_).2.2⟩ := by unfold wval; rw [if_neg (by omega), if_pos rfl]
    have hz := @fget_zero 8 b s.at_
    obtain ⟨r, hrr⟩ : ∃ r, fget 8 b s.at_ = r := ⟨_, rfl⟩
    rw [hrr] at hvg hw hz
    rw [hw]
    clear hw hrr hr hr0
    obtain ⟨v, to, er⟩ := r
    simp only at hvg hz ⊢
    go_enter Try.func72, Try.ntmps72
    go_wp2_with fail
    refine wp_region_L 16 [0, 1, 2, 3, 4, 5, 6, 7, 8, 9, 10, 11, 12, 13, 14, 15] rfl (by decide) (by decide) (by kernel_rfl) ?_
    generalize W.drew = W1 at *
    simp only [List.filterMap_cons, List.filterMap_nil, List.getElem?_cons_zero, List.getElem?_cons_succ, Option.map_some]
    repeat (first
        | (refine wpL_take (v := ?_) (by kernel_rfl) (by kernel_rfl) (by kernel_rfl) (fun _ _ _ h => h) (by rfl) (fun u hu => ?_) ?_
           rotate_left
           focus
             unfold Grows at hu
             go_simp
             try with_reducible rfl
           simp only [Act.put, List.setIfInBounds_toArray, List.set_cons_zero, List.set_cons_succ])
        | (refine wpL_pass (by kernel_rfl) (by kernel_rfl) (by kernel_rfl) (fun _ _ _ h => h) (by rfl) ?_; simp only [Act.put, List.setIfInBounds_toArray, List.set_cons_zero, List.set_cons_succ])
        | (refine wpL_do (by kernel_rfl) (by rfl) (fun K hK => ?_); go_simp; go_at_call 75; refine hvg.mono ?_; rintro e w1 ⟨rfl, rfl⟩; have hBk := Below.refl W1.heap.size W1; refine hK _ _ hBk ?_; clear hK K))
    refine wpL_done (by kernel_rfl) ?_
    clear d0 d1 hvg hbel c0 c1 c2 c3 f1 f2 f3
    obtain ⟨Ao, co, Ax, cx, c0, c1, c2, c3, f1, f2, f3, _, _⟩ := h.cells
    by_cases he : er = 0
    · subst he
      go_wp2_with fail
      go_ret2
      exact ⟨rfl, h.setAt to, (h.setAt to).bel, hg0.trans (Kp.s _ _ _)⟩
    · have hb : ((er : Int) != 0) = true := by simp; omega
      have hv0 := hz he
      subst hv0
      have HE := Lib.hid he
      clear he hz
      go_wp2_with fail
      go_ret2
      exact ⟨rfl, fun h => absurd h HE.out, h.bel, hg0⟩
  · have hvg := get4_any A n c b hn hnc hcm s.at_ W.heap.size W.drew hr
    have hw : wval b s.at_ 5 = ⟨(fget 4 b s.at_).1, emptyT, (fget 4 b s.at_).2.1, (fget 4 b s.at_).2.2⟩ := by unfold wval; rw [if_neg (by omega), if_neg (by omega), if_pos rfl]
    have hz := @fget_zero 4 b s.at_
    obtain ⟨r, hrr⟩ : ∃ r, fget 4 b s.at_ = r := ⟨_, rfl⟩
    have hvw : IntKind.u64.wrap ((fget 4 b s.at_).1 : Int) = ((fget 4 b s.at_).1 : Int) := wrap_u64 _ (by have := fget_lt b s.at_; omega)
    rw [hrr] at hvg hw hz hvw
    rw [hw]
    clear hw hrr hr hr0
    obtain ⟨v, to, er⟩ := r
    simp only at hvg hz hvw ⊢
    go_enter Try.func72, Try.ntmps72
    go_wp2_with fail
    refine wp_region_L 16 [0, 1, 2, 3, 4, 5, 6, 7, 8, 9, 10, 11, 12, 13, 14, 15] rfl (by decide) (by decide) (by kernel_rfl) ?_
    generalize W.drew = W1 at *
    simp only [List.filterMap_cons, List.filterMap_nil, List.getElem?_cons_zero, List.getElem?_cons_succ, Option.map_some]
    repeat (first
        | (refine wpL_take (v := ?_) (by kernel_rfl) (by kernel_rfl) (by kernel_rfl) (fun _ _ _ h => h) (by rfl) (fun u hu => ?_) ?_
           rotate_left
           focus
             unfold Grows at hu
             go_simp
             try with_reducible rfl
           simp only [Act.put, List.setIfInBounds_toArray, List.set_cons_zero, List.set_cons_succ])
        | (refine wpL_pass (by kernel_rfl) (by kernel_rfl) (by kernel_rfl) (fun _ _ _ h => h) (by rfl) ?_; simp only [Act.put, List.setIfInBounds_toArray, List.set_cons_zero, List.set_cons_succ])
        | (refine wpL_do (by kernel_rfl) (by rfl) (fun K hK => ?_); go_simp; go_at_call 76; refine hvg.mono ?_; rintro e w1 ⟨rfl, rfl⟩; have hBk := Below.refl W1.heap.size W1; refine hK _ _ hBk ?_; clear hK K))
    refine wpL_done (by kernel_rfl) ?_
    clear d0 d1 hvg hbel c0 c1 c2 c3 f1 f2 f3
    obtain ⟨Ao, co, Ax, cx, c0, c1, c2, c3, f1, f2, f3, _, _⟩ := h.cells
    by_cases he : er = 0
    · subst he
      go_wp2_with fail
      go_ret2
      exact ⟨rfl, h.setAt to, (h.setAt to).bel, hg0.trans (Kp.s _ _ _)⟩
    · have hb : ((er : Int) != 0) = true := by simp; omega
      have hv0 := hz he
      subst hv0
      have HE := Lib.hid he
      clear he hz
      go_wp2_with fail
      go_ret2
      exact ⟨rfl, fun h => absurd h HE.out, h.bel, hg0⟩
end
end Go.Proofs.Ytkanhggmhjldmaa

/- WALKS: the reader of wire: text. -/
namespace Go.Proofs.Ytkanhggmhjldmaa
open Go.RowKit Plain

theorem wrap_s (i : Nat) (h : i ≤ 140737488355328) : wrap64 (i : Int) = (i : Int) := by unfold wrap64; omega
theorem strB2 {w : World} {B : Nat} {A : Option Addr} {l : List UInt8} (hr : Rd w B A (bcl l)) {n : Nat} (hn : l.length = n) (c : Nat) :
    (convert 25 9 (.slice A n c)).run Try.prog w = .ok (.string ⟨l.toArray⟩) w :=
  hn ▸ run_str _ _ _ Try.underlying25 Try.underlying5 Try.underlying9 hr c
theorem wval2 {b : List UInt8} {p : Nat} : wval b p 2 = if (vget b p).2.2 = 0 then if b.length - (vget b p).2.1 < (vget b p).1 then ⟨0, emptyT, 0, 2⟩ else ⟨0, ⟨((b.drop (vget b p).2.1).take (vget b p).1).toArray⟩, (vget b p).2.1 + (vget b p).1, 0⟩ else ⟨0, emptyT, 0, (vget b p).2.2⟩ := by
  unfold wval; rw [if_neg (by omega), if_neg (by omega), if_neg (by omega), if_pos rfl]
section
variable (b : List UInt8) (A : Option Addr) (n c : Nat) (hn : b.length = n) (hnc : n ≤ c) (hcm : c ≤ 9223372036854775807) (hl : b.length ≤ 140737488355328) (w0 : World) (hr0 : Rd w0 w0.heap.size A (bcl b))
include hn hnc hcm hl hr0
set_option maxRecDepth 100000 in
set_option maxHeartbeats 1000000 in
theorem rtextr_any (s : RSt) (R : Nat) (W : World) (h : Rdr w0 W R A n c s) :
    Calls Try.prog 71 #[.pointer (some ⟨R, 0, none⟩)] W fun e w' => e = .returned (.tuple #[.string (wval b s.at_ 2).text, .int .i64 (wval b s.at_ 2).err]) ∧ ((wval b s.at_ 2).err = 0 → Rdr w0 w' R A n c ⟨(wval b s.at_ 2).to, s.opn, s.out⟩) ∧ Below w0.heap.size w0 w' ∧ Kp W w' R := by
  have hnum := rnum_any b A n c hn hnc hcm hl w0 hr0 s R W h
  have hto := @vget_to b s.at_
  have hvl := vget_lt b s.at_
  rw [wval2]
  obtain ⟨r, hr⟩ : ∃ r, vget b s.at_ = r := ⟨_, rfl⟩
  rw [hr] at hnum hto hvl ⊢
  obtain ⟨v, to, er⟩ := r
  simp only at hnum hto hvl ⊢
  clear hr
  by_cases he : er = 0
  · subst he
    obtain ⟨t1, t2, _⟩ := hto rfl
    have hto2 : to ≤ n := by omega
    by_cases hlong : b.length - to < v
    · rw [if_pos rfl, if_pos hlong]
      simp only
      go_enter Try.func71, Try.ntmps71
      go_wp2_with fail
      refine hnum.mono ?_
      rintro e w1 ⟨rfl, h1, hB1, hg1⟩
      replace h1 := h1 (by first | rfl | trivial)
      obtain ⟨Ao, co, Ax, cx, c0, c1, c2, c3, f1, f2, f3, _, _⟩ := h1.cells
      obtain ⟨K, hK⟩ : ∃ K, n - to = K := ⟨_, rfl⟩
      have hs1 : IntKind.i64.wrap ((n : Int) - (to : Int)) = (K : Int) := by rw [show (n : Int) - (to : Int) = ((K : Nat) : Int) by omega]; exact wrap_small _ (by omega)
      have hs2 : IntKind.u64.wrap (K : Int) = (K : Int) := wrap_u64 _ (by omega)
      have hdec : decide (K < v) = true := by simp; omega
      clear hlong hvl hto2 hK hto t1 t2 hnum h
      go_wp2_with fail
      go_quiet (fail)
      go_wp2_with fail
      go_ret2
      exact ⟨rfl, fun h => absurd h (by decide), (h1.step (show Below w1.heap.size w1 (w1.drewN nq) from ⟨rfl, rfl, rfl, Nat.le_refl _, fun _ _ => rfl⟩)).bel, hg1.trans (Kp.b h1.lt (show Below w1.heap.size w1 (w1.drewN nq) from ⟨rfl, rfl, rfl, Nat.le_refl _, fun _ _ => rfl⟩))⟩
    · rw [if_pos rfl, if_neg hlong]
      simp only
      obtain ⟨T, hT⟩ : ∃ T, to + v = T := ⟨_, rfl⟩
      rw [hT]
      go_enter Try.func71, Try.ntmps71
      go_wp2_with fail
      refine hnum.mono ?_
      rintro e w1 ⟨rfl, h1, hB1, hg1⟩
      replace h1 := h1 (by first | rfl | trivial)
      obtain ⟨Ao, co, Ax, cx, c0, c1, c2, c3, f1, f2, f3, _, _⟩ := h1.cells
      obtain ⟨K, hK⟩ : ∃ K, n - to = K := ⟨_, rfl⟩
      have hs1 : IntKind.i64.wrap ((n : Int) - (to : Int)) = (K : Int) := by rw [show (n : Int) - (to : Int) = ((K : Nat) : Int) by omega]; exact wrap_small _ (by omega)
      have hs2 : IntKind.u64.wrap (K : Int) = (K : Int) := wrap_u64 _ (by omega)
      have hdec : decide (K < v) = false := by simp; omega
      have hvs : v ≤ 140737488355328 := by omega
      have hts : T ≤ 140737488355328 := by omega
      have hw1 : wrap64 (v : Int) = (v : Int) := wrap_s v hvs
      have hw2 : wrap64 ((to : Int) + (v : Int)) = (T : Int) := by rw [show (to : Int) + (v : Int) = (T : Int) by omega]; exact wrap_s T hts
      have HTT := Lib.hid hT
      clear hvs hts
      have HLG := Lib.hid hlong
      have HV := Lib.hid hvl
      have HT := Lib.hid hto2
      have HK := Lib.hid hK
      clear hlong hvl hto2 hK hto t1 t2 hnum h hT
      go_wp2_with fail
      go_quiet (fail)
      go_wp2_with fail
      have h2 := (h1.step (show Below w1.heap.size w1 (w1.drewN nq) from ⟨rfl, rfl, rfl, Nat.le_refl _, fun _ _ => rfl⟩)).setAt T
      have hg2 : Kp W (((w1.drewN nq).setCell ⟨R, 1, none⟩ (.int .i64 T))) R := (hg1.trans (Kp.b h1.lt (show Below w1.heap.size w1 (w1.drewN nq) from ⟨rfl, rfl, rfl, Nat.le_refl _, fun _ _ => rfl⟩))).trans (Kp.s _ _ _)
      generalize (w1.drewN nq).setCell ⟨R, 1, none⟩ (.int .i64 T) = w2 at *
      have hg3 : Kp W w2.drew R := hg2.trans (Kp.b h2.lt (Below.refl _ w2).drew)
      have h3 : Rdr w0 w2.drew R A n c ⟨T, s.opn, s.out⟩ := h2.step (Below.refl _ w2).drew
      have d0 : ∀ u, Below w2.drew.heap.size w2.drew u → u.cell? ⟨R, 0, none⟩ = some (.slice A n c) := fun u hu => by obtain ⟨_, _, _, _, x, _⟩ := (h3.step hu).cells; exact x
      have d1 : ∀ u, Below w2.drew.heap.size w2.drew u → u.cell? ⟨R, 1, none⟩ = some (.int .i64 T) := fun u hu => by obtain ⟨_, _, _, _, _, x, _⟩ := (h3.step hu).cells; exact x
      have hle1 : (to : Int) ≤ (T : Int) := by have := HTT.out; omega
      have hle2 : to ≤ T := by have := HTT.out; omega
      have hle3 : (T : Int) ≤ (c : Int) := by have := HTT.out; have := HK.out; have := HLG.out; have := HT.out; omega
      have hle4 : T ≤ c := by omega
      have hlen : T - to = v := by have := HTT.out; omega
      have hcv : ∀ u, Below w2.drew.heap.size w2.drew u → (convert 25 9 (.slice (if c = to then A else A.map (·.add to)) v (c - to))).run Try.prog u = .ok (.string ⟨((b.drop to).take v).toArray⟩) u := fun u hu => by
        have hb2 : b.length ≤ c * 1 := by omega
        have h := ((hr0.below (h3.step hu).bel (Nat.le_refl _)).drop (k := to) (cap := c) (size := 1) (by simp [bcl]; omega)).take v
        rw [show ((bcl b).drop (to * 1)).take v = bcl ((b.drop to).take v) by simp [bcl, List.map_drop, List.map_take]] at h
        simp only [Nat.mul_one] at h
        exact strB2 h (by have := HTT.out; have := HK.out; have := HLG.out; have := HT.out; simp; omega) _
      clear c0 c1 c2 c3 f1 f2 f3 h1 h2
      refine wp_region_L 13 [0, 1, 2, 3, 4, 5, 6, 7, 8, 9, 10, 11, 12] rfl (by decide) (by decide) (by kernel_rfl) ?_
      generalize w2.drew = w3 at *
      simp only [List.filterMap_cons, List.filterMap_nil, List.getElem?_cons_zero, List.getElem?_cons_succ, Option.map_some]
      repeat (first
          | (refine wpL_take (v := ?_) (by kernel_rfl) (by kernel_rfl) (by kernel_rfl) (fun _ _ _ h => h) (by rfl) (fun u hu => ?_) ?_
             rotate_left
             focus
               unfold Grows at hu
               go_simp
               try with_reducible rfl
             simp only [Act.put, List.setIfInBounds_toArray, List.set_cons_zero, List.set_cons_succ])
          | (refine wpL_pass (by kernel_rfl) (by kernel_rfl) (by kernel_rfl) (fun _ _ _ h => h) (by rfl) ?_; simp only [Act.put, List.setIfInBounds_toArray, List.set_cons_zero, List.set_cons_succ]))
      refine wpL_done (by kernel_rfl) ?_
      all_goals go_wp2_with fail
      all_goals go_ret2
      all_goals exact ⟨rfl, (by first | exact h3 | exact (by assumption : c = to) ▸ h3 | simpa [*] using h3), h3.bel, hg3⟩
  · have hb : ((er : Int) != 0) = true := by simp; omega
    rw [if_neg he]
    have HE := Lib.hid he
    clear he hto hvl
    go_enter Try.func71, Try.ntmps71
    go_wp2_with fail
    refine hnum.mono ?_
    rintro e w1 ⟨rfl, -, hB1, hg1⟩
    go_wp2_with fail
    go_ret2
    exact ⟨rfl, fun h => absurd h HE.out, hB1, hg1⟩
end
end Go.Proofs.Ytkanhggmhjldmaa

/- WALKS: the reader of wire: begin. -/
namespace Go.Proofs.Ytkanhggmhjldmaa
open Go.RowKit Plain

theorem Rdr.pushO {w0 W W' : World} {R n c : Nat} {A : Option Addr} {at_ : Nat} {opn : List Nat} {out : List Fld} {Ao Ax Ap : Option Addr} {co cx cp : Nat} {l : List Nat} {N : Nat}
    (hR : W.heap[R]? = some (.cells #[.slice A n c, .int .i64 at_, .slice Ao opn.length co, .slice Ax out.length cx] 75 (0, 0))) (h1 : W.ownsRow w0.heap.size 3 1 (.slice Ao opn.length co) opn.length (icl opn))
    (h2 : W.ownsRow w0.heap.size 49 4 (.slice Ax out.length cx) out.length (flc out)) (h3 : Below w0.heap.size w0 W) (h4 : w0.heap.size ≤ R)
    (hg : W.grownBy W' (Value.slice Ao opn.length co).ownBlock) (hn : W'.ownsRow w0.heap.size 3 1 (.slice Ap N cp) N (icl l)) (hl : l.length = N) :
    W'.heap[R]? = some (.cells #[.slice A n c, .int .i64 at_, .slice Ao opn.length co, .slice Ax out.length cx] 75 (0, 0)) ∧
    Rdr w0 (W'.setCell ⟨R, 2, none⟩ (.slice Ap N cp)) R A n c ⟨at_, l, out⟩ := by
  subst hl
  have hR' := (hg.block R (Array.getElem?_eq_some_iff.1 hR).1 (own_ne h1 (by decide) hR).symm).trans hR
  have h2' := own_other h2 hg (fun g cur hh => own_ne h1 (by decide) hh)
  refine ⟨hR', Ap, cp, Ax, cx, heap_setCell_same W' R 2 _ _ _ hR', own_set hn hR' (by decide) _, own_set h2' hR' (by decide) _, ?_, h4⟩
  exact (own_grown h3 h1 h3.size hg).setCell (p := ⟨R, 2, none⟩) h4 _
theorem Rdr.pushF {w0 W W' : World} {R n c : Nat} {A : Option Addr} {at_ : Nat} {opn : List Nat} {out : List Fld} {Ao Ax Ap : Option Addr} {co cx cp : Nat} {l : List Fld} {N : Nat}
    (hR : W.heap[R]? = some (.cells #[.slice A n c, .int .i64 at_, .slice Ao opn.length co, .slice Ax out.length cx] 75 (0, 0))) (h1 : W.ownsRow w0.heap.size 3 1 (.slice Ao opn.length co) opn.length (icl opn))
    (h2 : W.ownsRow w0.heap.size 49 4 (.slice Ax out.length cx) out.length (flc out)) (h3 : Below w0.heap.size w0 W) (h4 : w0.heap.size ≤ R)
    (hg : W.grownBy W' (Value.slice Ax out.length cx).ownBlock) (hn : W'.ownsRow w0.heap.size 49 4 (.slice Ap N cp) N (flc l)) (hl : l.length = N) :
    W'.heap[R]? = some (.cells #[.slice A n c, .int .i64 at_, .slice Ao opn.length co, .slice Ax out.length cx] 75 (0, 0)) ∧
    Rdr w0 (W'.setCell ⟨R, 3, none⟩ (.slice Ap N cp)) R A n c ⟨at_, opn, l⟩ := by
  subst hl
  have hR' := (hg.block R (Array.getElem?_eq_some_iff.1 hR).1 (own_ne h2 (by decide) hR).symm).trans hR
  have h1' := own_other h1 hg (fun g cur hh => own_ne h2 (by decide) hh)
  refine ⟨hR', Ao, co, Ap, cp, heap_setCell_same W' R 3 _ _ _ hR', own_set h1' hR' (by decide) _, own_set hn hR' (by decide) _, ?_, h4⟩
  exact (own_grown h3 h2 h3.size hg).setCell (p := ⟨R, 3, none⟩) h4 _
theorem rd_cells {W : World} {R : Nat} {A Ao Ax : Option Addr} {n c a no co nx cx : Nat} (h : W.heap[R]? = some (.cells #[.slice A n c, .int .i64 a, .slice Ao no co, .slice Ax nx cx] 75 (0, 0))) :
    W.cell? ⟨R, 2, none⟩ = some (.slice Ao no co) ∧ W.cell? ⟨R, 3, none⟩ = some (.slice Ax nx cx) ∧ W.frozen? ⟨R, 2, none⟩ = false ∧ W.frozen? ⟨R, 3, none⟩ = false := by
  refine ⟨?_, ?_, ?_, ?_⟩ <;> simp [World.cell?, World.frozen?, h]
section
variable (A : Option Addr) (n c : Nat) (w0 : World)
set_option maxRecDepth 100000 in
set_option maxHeartbeats 2000000 in
theorem begin_any (s : RSt) (R num : Nat) (W : World) (h : Rdr w0 W R A n c s) :
    Calls Try.prog 55 #[.pointer (some ⟨R, 0, none⟩), .int .i64 num] W fun e w' => e = .returned (.int .i64 (if 8 ≤ s.opn.length then 12 else 0)) ∧ (¬ 8 ≤ s.opn.length → Rdr w0 w' R A n c ⟨s.at_, s.opn ++ [num], s.out⟩) ∧ Below w0.heap.size w0 w' := by
  obtain ⟨Ao, co, Ax, cx, hR, o1, o2, hbel, h4⟩ := h
  obtain ⟨at_, opn, out⟩ := s
  simp only at hR o1 o2 ⊢
  obtain ⟨c2, c3, f2, f3⟩ := rd_cells hR
  by_cases h8 : 8 ≤ opn.length
  · have hb : decide ((8 : Int) ≤ (opn.length : Int)) = true := by simp; omega
    rw [if_pos h8]
    have H8 := Lib.hid h8
    clear h8
    go_enter Try.func55, Try.ntmps55
    go_wp2_with fail
    go_ret
    exact ⟨rfl, fun h => absurd H8.out h, hbel⟩
  · have hb : decide ((8 : Int) ≤ (opn.length : Int)) = false := by simp; omega
    rw [if_neg h8]
    have H8 := Lib.hid h8
    clear h8
    have hbs := hbel.size
    go_enter Try.func55, Try.ntmps55
    go_wp2_with (at_builtin; refine wpList_app1 rfl _ _ _ rfl elemI rfl o1 rfl rfl (by intro u hu; simp at hu; subst hu; rfl) (by have := H8.out; unfold maxLen; omega) (by have := H8.out; omega) hbs ?_; intro A5 c5 w5 ho5 hg5 _; obtain ⟨hR5, hrd⟩ := Rdr.pushO (l := opn ++ [num]) hR o1 o2 hbel h4 hg5 (by simpa [icl] using ho5) (by simp); obtain ⟨k2, k3, j2, j3⟩ := rd_cells hR5)
    go_ret
    exact ⟨rfl, fun _ => hrd, hrd.bel⟩
end
end Go.Proofs.Ytkanhggmhjldmaa

/- WALKS: the reader of wire: end. -/
namespace Go.Proofs.Ytkanhggmhjldmaa
open Go.RowKit Plain

theorem own_prefix {W : World} {base : Nat} {e : TypeId} {N m co g : Nat} {xs : List Value} (h : W.ownsRow base e 1 (.slice (some ⟨g, 0, none⟩) N co) N xs) (hm : m ≤ N) : W.ownsRow base e 1 (.slice (some ⟨g, 0, none⟩) m co) m (xs.take m) := by
  have hx : xs.length = N := by simpa using h.1
  rcases h.2 with ⟨hv, _⟩ | ⟨g2, cap, cur, hv, hgb, hh, hnc, hcm, hcs, ht⟩
  · cases hv
  · cases hv
    refine ⟨by simp [hx]; omega, .inr ⟨g, co, cur, rfl, hgb, hh, by omega, hcm, hcs, ?_⟩⟩
    rw [← ht, List.take_take]
    congr 1
    omega
theorem Rdr.popO {w0 W : World} {R n c : Nat} {A : Option Addr} {at_ : Nat} {opn : List Nat} {out : List Fld} {Ao Ax Ap : Option Addr} {co cx cp : Nat} {l : List Nat} {N : Nat}
    (hR : W.heap[R]? = some (.cells #[.slice A n c, .int .i64 at_, .slice Ao opn.length co, .slice Ax out.length cx] 75 (0, 0)))
    (h2 : W.ownsRow w0.heap.size 49 4 (.slice Ax out.length cx) out.length (flc out)) (h3 : Below w0.heap.size w0 W) (h4 : w0.heap.size ≤ R)
    (hn : W.ownsRow w0.heap.size 3 1 (.slice Ap N cp) N (icl l)) (hl : l.length = N) :
    Rdr w0 (W.setCell ⟨R, 2, none⟩ (.slice Ap N cp)) R A n c ⟨at_, l, out⟩ := by
  subst hl
  exact ⟨Ap, cp, Ax, cx, heap_setCell_same W R 2 _ _ _ hR, own_set hn hR (by decide) _, own_set h2 hR (by decide) _, h3.setCell (p := ⟨R, 2, none⟩) h4 _, h4⟩
section
variable (A : Option Addr) (n c : Nat) (w0 : World)
set_option maxRecDepth 100000 in
set_option maxHeartbeats 2000000 in
theorem end_any (s : RSt) (R num : Nat) (W : World) (h : Rdr w0 W R A n c s) :
    Calls Try.prog 56 #[.pointer (some ⟨R, 0, none⟩), .int .i64 num] W fun e w' => e = .returned (.int .i64 (if s.opn.getLast? = some num then 0 else 4)) ∧ (s.opn.getLast? = some num → Rdr w0 w' R A n c ⟨s.at_, s.opn.dropLast, s.out⟩) ∧ Below w0.heap.size w0 w' := by
  obtain ⟨Ao, co, Ax, cx, hR, o1, o2, hbel, h4⟩ := h
  obtain ⟨at_, opn, out⟩ := s
  simp only at hR o1 o2 ⊢
  obtain ⟨c2, c3, f2, f3⟩ := rd_cells hR
  rcases List.eq_nil_or_concat opn with rfl | ⟨l, x, rfl⟩
  · rw [if_neg (by simp)]
    clear o1 o2
    simp only [List.length_nil] at c2
    go_enter Try.func56, Try.ntmps56
    go_wp2_with fail
    go_ret
    exact ⟨rfl, fun h => by simp at h, hbel⟩
  · obtain ⟨g, rfl⟩ : ∃ g, Ao = some ⟨g, 0, none⟩ := by
      rcases o1.2 with ⟨_, h0⟩ | ⟨g, cap, cur, hv, _⟩
      · simp at h0
      · injection hv with hA
        exact ⟨g, hA⟩
    obtain ⟨m, hm⟩ : ∃ m, l.length = m := ⟨_, rfl⟩
    have hN : (l ++ [x]).length = m + 1 := by simp [hm]
    have hN2 : (l.concat x).length = m + 1 := by simp [hm]
    have hcap := own_cap o1
    have hx : W.cell? ⟨g, m, none⟩ = some (.int .i64 x) := by
      have := o1.cellAt m (by omega)
      rw [this]
      simp [icl, ← hm]
    have o3 : W.ownsRow w0.heap.size 3 1 (.slice (some ⟨g, 0, none⟩) m co) m (icl l) := by
      have := own_prefix o1 (m := m) (by omega)
      rwa [show (icl (l.concat x)).take m = icl l by simp [icl, ← hm]] at this
    have hrd := Rdr.popO hR o2 hbel h4 o3 hm
    obtain ⟨N, hNN⟩ : ∃ N, m + 1 = N := ⟨_, rfl⟩
    rw [hN2, hNN] at c2
    rw [hN2, hNN] at hcap
    have hw1 : wrap64 ((N : Int) - 1) = (m : Int) := by unfold wrap64; omega
    have hw2 : IntKind.i64.wrap ((N : Int) - 1) = (m : Int) := by rw [show (N : Int) - 1 = (m : Int) by omega]; exact wrap_small m (by omega)
    have hlt1 : (m : Int) < (N : Int) := by omega
    have hlt2 : m < N := by omega
    have hle3 : (m : Int) ≤ (co : Int) := by omega
    have hle4 : m ≤ co := by omega
    have hlast : (l.concat x).getLast? = some num ↔ x = num := by simp
    have hdrop : (l.concat x).dropLast = l := by simp
    rw [hdrop]
    simp only [hlast]
    clear o1 o2 o3 hN hN2 hlast hdrop hNN hcap hR hm
    by_cases hxn : x = num
    · rw [if_pos hxn]
      have hb : ((x : Int) != (num : Int)) = false := by simp; omega
      go_enter Try.func56, Try.ntmps56
      go_wp2_with fail
      go_ret
      exact ⟨rfl, fun _ => hrd, hrd.bel⟩
    · rw [if_neg hxn]
      have hb : ((x : Int) != (num : Int)) = true := by simp; omega
      go_enter Try.func56, Try.ntmps56
      go_wp2_with fail
      go_ret
      exact ⟨rfl, fun h => absurd h hxn, hbel⟩
end
end Go.Proofs.Ytkanhggmhjldmaa

/- THE SAME over a relation of worlds of the caller's choosing (reflexive, transitive) in the place of 'memory has only grown'. -/
namespace Go.Proofs.Ytkanhggmhjldmaa
open Go Go.RowKit

structure Rel where
  G : World → World → Prop
  rf : ∀ w, G w w
  tr : ∀ {a b c}, G a b → G b c → G a c
section
variable {P : Program} {ops : Array Oper} {Q : Exit → Act → World → Prop} {md : Region.Mode} (X : Rel)

/-- Whatever order is picked from here on; memory only grows. -/
def wpAnyMG (P : Program) (md : Region.Mode) (ops : Array Oper) (Q : Exit → Act → World → Prop) : Nat → Array Bool → Act → World → Prop
  | 0, listed, a, w => Region.ready md ops listed = [] ∧ Q .normal a w
  | fuel + 1, listed, a, w =>
    (Region.ready md ops listed = [] → Q .normal a w) ∧
    ∀ i ∈ Region.ready md ops listed, wpOp P ops Q i (fun a' w' => X.G w w' ∧ wpAnyMG P md ops Q fuel (listed.setIfInBounds i true) a' w') a w

theorem wpAny_of_MG : ∀ (fuel : Nat) (listed : Array Bool) (a : Act) (w : World), wpAnyMG X P md ops Q fuel listed a w → wpAny P md ops Q fuel listed a w
  | 0, _, _, _, h => h
  | fuel + 1, _, _, _, h => ⟨h.1, fun i hi => wpOp_mono (fun a' w' h' => wpAny_of_MG fuel _ a' w' h'.2) (h.2 i hi)⟩

theorem yields_growsG {o : Oper} {v : Value} {a : Act} {w w' : World} (h : YieldsIf P ops (X.G w) o v a) (hg : X.G w w') : YieldsIf P ops (X.G w') o v a :=
  h.imp (fun ⟨h1, h2⟩ => ⟨h1, fun u hu => h2 u (X.tr hg hu)⟩) id

theorem wpAnyM_firstG {i : Nat} {oi : Oper} {v : Value} (hi : ops[i]? = some oi) (hsel : ∀ (j : Nat) (o : Oper) cs b, ops[j]? = some o → o.op ≠ .select cs b)
    (hQ : ∀ c a w, Q (.panic c) (a.put oi.dst v) w → Q (.panic c) a w) :
    ∀ (fuel : Nat) (listed : Array Bool) (a : Act) (w : World),
      (∀ j oj, ops[j]? = some oj → j ≠ i → listed.getD j true = false → (∀ e ∈ oj.after, Region.binds md e = true → e.on ≠ i) → oi.apart ops oj = true) →
      i ∈ Region.ready md ops listed → YieldsIf P ops (X.G w) oi v a →
      wpAnyMG X P md ops Q fuel (listed.setIfInBounds i true) (a.put oi.dst v) w → wpAnyMG X P md ops Q (fuel + 1) listed a w := by
  intro fuel
  induction fuel with
  | zero =>
    intro listed a w _ hr hy H
    refine ⟨fun h => (by rw [h] at hr; cases hr), fun j hj => ?_⟩
    by_cases hji : j = i
    · subst hji; exact hy.wpOp hi (X.rf w) ⟨X.rf w, H⟩
    · have := ready_mono hj hji
      rw [H.1] at this
      cases this
  | succ fuel ih =>
    intro listed a w hfree hr hy H
    refine ⟨fun h => (by rw [h] at hr; cases hr), fun j hj => ?_⟩
    by_cases hji : j = i
    · subst hji; exact hy.wpOp hi (X.rf w) ⟨X.rf w, H⟩
    · have h1 := H.2 j (ready_mono hj hji)
      obtain ⟨hjun, oj, hoj, hall⟩ := mem_ready.1 hj
      have hnot : ∀ e ∈ oj.after, Region.binds md e = true → e.on ≠ i := fun e he hb heq => by
        have h1 := hall e he hb
        have h0 := (mem_ready.1 hr).1
        rw [heq] at h1
        rcases Nat.lt_or_ge i listed.size with h' | h'
        · simp [h'] at h0 h1; rw [h0] at h1; cases h1
        · simp [Array.getElem?_eq_none h'] at h1
      have h2 := wpOp_putIf hoj (hfree j oj hoj hji hjun hnot) (fun cs b => hsel i oi cs b hi) (fun cs b => hsel j oj cs b hoj) hQ hy h1
      have hfree' : ∀ k ok, ops[k]? = some ok → k ≠ i → (listed.setIfInBounds j true).getD k true = false →
          (∀ e ∈ ok.after, Region.binds md e = true → e.on ≠ i) → oi.apart ops ok = true := fun k ok hk hki hun hno => by
        refine hfree k ok hk hki ?_ hno
        by_cases hjk : j = k
        · subst hjk; exact hjun
        · rw [getD_set_ne true hjk] at hun; exact hun
      refine wpOp_mono (fun a' w' h3 => ⟨h3.2.1, ih (listed.setIfInBounds j true) a' w' hfree' (ready_mono hr (Ne.symm hji)) (yields_growsG X h3.1 h3.2.1) ?_⟩) h2
      rw [Array.setIfInBounds_comm _ _ hji]
      exact h3.2.2

/-! the walk: the operations that are still to come, each with its number, in whatever order suits -/
def leftG (n : Nat) (rest : List (Nat × Oper)) : Array Bool := ((List.range n).map fun i => !(rest.map (·.1)).contains i).toArray
def wpLG (P : Program) (ops : Array Oper) (Q : Exit → Act → World → Prop) (n m : Nat) (rest : List (Nat × Oper)) (a : Act) (w : World) : Prop :=
  (∀ p ∈ rest, ops[p.1]? = some p.2) → (rest.map (·.1)).Nodup → ops.size = n → wpAnyMG X P .any ops Q m (leftG n rest) a w

theorem left_setG {n k : Nat} {o : Oper} {rest : List (Nat × Oper)} (hn : (((k, o) :: rest).map (·.1)).Nodup) : (leftG n ((k, o) :: rest)).setIfInBounds k true = leftG n rest := by
  apply Array.ext'
  rw [Array.toList_setIfInBounds]
  simp only [leftG]
  apply List.ext_getElem?
  intro j
  have hk : k ∉ rest.map (·.1) := (List.nodup_cons.1 (by rw [List.map_cons] at hn; exact hn)).1
  by_cases hj : j < n
  · by_cases hjk : k = j
    · subst hjk
      rw [List.getElem?_set_self (by simpa using hj), List.getElem?_map, List.getElem?_range hj, Option.map_some]
      have : (rest.map (·.1)).contains k = false := by
        rw [Bool.eq_false_iff]; intro h; exact hk (List.contains_iff_mem.1 h)
      rw [this]; rfl
    · rw [List.getElem?_set_ne hjk]
      simp only [List.getElem?_map, List.getElem?_range hj, Option.map_some, List.map_cons, List.contains_cons]
      have : (j == k) = false := by simp; omega
      rw [this, Bool.false_or]
  · simp [hj]

theorem wp_region_LG {id : Nat} {l : List Oper} {a : Act} {w : World} (n : Nat) (perm : List Nat) (hn : l.length = n) (hp : perm.Nodup) (hall : ((List.range n).all fun i => perm.contains i) = true) (hm : P.follows .mixedOrders = true)
    (h : wpLG X P l.toArray Q n n (perm.filterMap fun i => (l[i]?).map fun o => (i, o)) a w.drew) : (Code.region id l.toArray true).wp P Q a w := by
  subst hn
  refine wp_region_any hm (wpAny_of_MG X _ _ _ _ ?_)
  have hfst : ∀ (q : List Nat), ∀ x ∈ (q.filterMap fun i => (l[i]?).map fun o => (i, o)).map (·.1), x ∈ q := by
    intro q x hx
    simp only [List.mem_map, List.mem_filterMap] at hx
    obtain ⟨p, ⟨i, hi, hip⟩, rfl⟩ := hx
    obtain ⟨o, _, rfl⟩ := Option.map_eq_some_iff.1 hip
    exact hi
  have hnd : ∀ (q : List Nat), q.Nodup → ((q.filterMap fun i => (l[i]?).map fun o => (i, o)).map (·.1)).Nodup := by
    intro q
    induction q with
    | nil => intro _; simp
    | cons x q ih =>
      intro hq
      obtain ⟨h1, h2⟩ := List.nodup_cons.1 hq
      rw [List.filterMap_cons]
      cases hx : (l[x]?).map fun o => (x, o) with
      | none => exact ih h2
      | some p =>
        obtain ⟨o, _, rfl⟩ := Option.map_eq_some_iff.1 hx
        rw [List.map_cons, List.nodup_cons]
        exact ⟨fun hm => h1 (hfst q _ hm), ih h2⟩
  have e : Array.replicate l.toArray.size false = leftG l.length (perm.filterMap fun i => (l[i]?).map fun o => (i, o)) := by
    apply Array.ext'
    simp only [leftG, Array.toList_replicate, List.size_toArray]
    apply List.ext_getElem?
    intro j
    by_cases hj : j < l.length
    · have hjp : j ∈ perm := by
        have := List.all_eq_true.1 hall j (List.mem_range.2 hj)
        simpa using this
      have hmem : j ∈ (perm.filterMap fun i => (l[i]?).map fun o => (i, o)).map (·.1) := by
        simp only [List.mem_map, List.mem_filterMap]
        exact ⟨(j, l[j]), ⟨j, hjp, by rw [List.getElem?_eq_getElem hj]; rfl⟩, rfl⟩
      simp only [List.getElem?_replicate, hj, if_true, List.getElem?_map, List.getElem?_range hj, Option.map_some]
      rw [List.contains_iff_mem.2 hmem]
      rfl
    · simp [hj]
  rw [e]
  have := h ?_ (hnd perm hp) (by simp)
  · simpa using this
  · intro p hp
    obtain ⟨i, _, hip⟩ := List.mem_filterMap.1 hp
    obtain ⟨o, ho, rfl⟩ := Option.map_eq_some_iff.1 hip
    simpa using ho

/-- the next one yields its value and does nothing else, now and whatever grows; it is taken next -/
theorem wpL_takeG {n k m : Nat} {oi : Oper} {rest : List (Nat × Oper)} {v : Value} {a : Act} {w : World}
    (hs : Region.noSelect ops = true) (hf : Region.free .any ops (leftG n ((k, oi) :: rest)) k = true) (hr : (Region.ready .any ops (leftG n ((k, oi) :: rest))).contains k = true)
    (hQ : ∀ c a w, Q (.panic c) (a.put oi.dst v) w → Q (.panic c) a w) (hw : Region.wanted oi (yielded ops a.tmps) = true) (hy : ∀ u, X.G w u → (execOp a.eval oi).run P u = .ok (.value v) u)
    (h : wpLG X P ops Q n m rest (a.put oi.dst v) w) : wpLG X P ops Q n (m + 1) ((k, oi) :: rest) a w := fun hd hnd hn => by
  have hi : ops[k]? = some oi := hd (k, oi) (by simp)
  refine wpAnyM_firstG X hi (Region.noSelect_spec hs) hQ m _ a w (Region.free_spec hi hf) (by simpa using hr) (.inl ⟨hw, hy⟩) ?_
  rw [left_setG hnd]
  exact h (fun p hp => hd p (by simp [hp])) (List.nodup_cons.1 (by rw [List.map_cons] at hnd; exact hnd)).2 hn
/-- it is not wanted -/
theorem wpL_passG {n k m : Nat} {oi : Oper} {rest : List (Nat × Oper)} {a : Act} {w : World}
    (hs : Region.noSelect ops = true) (hf : Region.free .any ops (leftG n ((k, oi) :: rest)) k = true) (hr : (Region.ready .any ops (leftG n ((k, oi) :: rest))).contains k = true)
    (hQ : ∀ c a w, Q (.panic c) (a.put oi.dst undef) w → Q (.panic c) a w) (hw : Region.wanted oi (yielded ops a.tmps) = false)
    (h : wpLG X P ops Q n m rest (a.put oi.dst undef) w) : wpLG X P ops Q n (m + 1) ((k, oi) :: rest) a w := fun hd hnd hn => by
  have hi : ops[k]? = some oi := hd (k, oi) (by simp)
  refine wpAnyM_firstG X hi (Region.noSelect_spec hs) hQ m _ a w (Region.free_spec hi hf) (by simpa using hr) (.inr ⟨hw, rfl⟩) ?_
  rw [left_setG hnd]
  exact h (fun p hp => hd p (by simp [hp])) (List.nodup_cons.1 (by rw [List.map_cons] at hnd; exact hnd)).2 hn
/-- no other may come up: it is carried out -/
theorem wpL_doG {n k m : Nat} {oi : Oper} {rest : List (Nat × Oper)} {a : Act} {w : World} (hr : Region.ready .any ops (leftG n ((k, oi) :: rest)) = [k]) (hw : Region.wanted oi (yielded ops a.tmps) = true)
    (h : ∀ K : Act → World → Prop, (∀ a' w', X.G w w' → wpLG X P ops Q n m rest a' w' → K a' w') → Oper.wp P oi a w K Q) : wpLG X P ops Q n (m + 1) ((k, oi) :: rest) a w := fun hd hnd hn => by
  have hi : ops[k]? = some oi := hd (k, oi) (by simp)
  refine ⟨fun h0 => (by rw [h0] at hr; cases hr), fun j hj => ?_⟩
  rw [hr] at hj
  obtain rfl : j = k := by simpa using hj
  refine wpOp_step hi (fun K' hK => ?_)
  rw [if_pos hw]
  refine h K' (fun a' w' hg hL => hK a' w' ⟨hg, ?_⟩)
  rw [left_setG hnd]
  exact hL (fun p hp => hd p (by simp [hp])) (List.nodup_cons.1 (by rw [List.map_cons] at hnd; exact hnd)).2 hn
theorem left_swapG {n k1 k2 : Nat} {o1 o2 : Oper} {rest : List (Nat × Oper)} : leftG n ((k1, o1) :: (k2, o2) :: rest) = leftG n ((k2, o2) :: (k1, o1) :: rest) := by
  unfold leftG
  congr 1
  apply List.map_congr_left
  intro i _
  simp only [List.map_cons, List.contains_cons]
  cases (i == k1) <;> cases (i == k2) <;> simp
/-- just two may come up -/
theorem wpL_do2G {n k1 k2 m : Nat} {o1 o2 : Oper} {rest : List (Nat × Oper)} {a : Act} {w : World} (hr : Region.ready .any ops (leftG n ((k1, o1) :: (k2, o2) :: rest)) = [k1, k2])
    (hw1 : Region.wanted o1 (yielded ops a.tmps) = true) (hw2 : Region.wanted o2 (yielded ops a.tmps) = true)
    (h1 : ∀ K : Act → World → Prop, (∀ a' w', X.G w w' → wpLG X P ops Q n m ((k2, o2) :: rest) a' w' → K a' w') → Oper.wp P o1 a w K Q)
    (h2 : ∀ K : Act → World → Prop, (∀ a' w', X.G w w' → wpLG X P ops Q n m ((k1, o1) :: rest) a' w' → K a' w') → Oper.wp P o2 a w K Q) :
    wpLG X P ops Q n (m + 1) ((k1, o1) :: (k2, o2) :: rest) a w := fun hd hnd hn => by
  have hi1 : ops[k1]? = some o1 := hd (k1, o1) (by simp)
  have hi2 : ops[k2]? = some o2 := hd (k2, o2) (by simp)
  have hnd1 : (((k2, o2) :: rest).map (·.1)).Nodup := (List.nodup_cons.1 (by rw [List.map_cons] at hnd; exact hnd)).2
  have hnd' : (((k2, o2) :: (k1, o1) :: rest).map (·.1)).Nodup := by
    simp only [List.map_cons, List.nodup_cons, List.mem_cons, not_or] at hnd ⊢
    exact ⟨⟨fun e => hnd.1.1 e.symm, hnd.2.1⟩, hnd.1.2, hnd.2.2⟩
  have hnd2 : (((k1, o1) :: rest).map (·.1)).Nodup := (List.nodup_cons.1 (by rw [List.map_cons] at hnd'; exact hnd')).2
  refine ⟨fun h0 => (by rw [h0] at hr; cases hr), fun j hj => ?_⟩
  rw [hr] at hj
  rcases List.mem_cons.1 hj with rfl | hj
  · refine wpOp_step hi1 (fun K' hK => ?_)
    rw [if_pos hw1]
    refine h1 K' (fun a' w' hg hL => hK a' w' ⟨hg, ?_⟩)
    rw [left_setG hnd]
    exact hL (fun p hp => hd p (by rcases List.mem_cons.1 hp with rfl | hp <;> simp [*])) hnd1 hn
  · obtain rfl : j = k2 := by simpa using hj
    refine wpOp_step hi2 (fun K' hK => ?_)
    rw [if_pos hw2]
    refine h2 K' (fun a' w' hg hL => hK a' w' ⟨hg, ?_⟩)
    rw [left_swapG, left_setG hnd']
    exact hL (fun p hp => hd p (by rcases List.mem_cons.1 hp with rfl | hp <;> simp [*])) hnd2 hn
theorem wpL_doneG {n m : Nat} {a : Act} {w : World} (hr : Region.ready .any ops (leftG n []) = []) (h : Q .normal a w) : wpLG X P ops Q n m [] a w := fun _ _ _ => by
  cases m with
  | zero => exact ⟨hr, h⟩
  | succ m => exact ⟨fun _ => h, by rw [hr]; simp⟩
end
end Go.Proofs.Ytkanhggmhjldmaa
