/- WALKS: the reader of wire: field. -/
import Derived.Test.YtlgokfgbcohioaaDoorWRe
import Derived.Test.YtlgokfgbcohioaaDoorRegionG
namespace Go.Proofs.YtlgokfgbcohioaaDoor
open Go.RowKit Plain

/-- f's box and the reader, together -/
structure FB (w0 W : World) (R B : Nat) (A : Option Addr) (n c at_ : Nat) (opn : List Nat) (out : List Fld) (num kind val : Nat) (text : ByteArray) (Ao Ax : Option Addr) (co cx : Nat) : Prop where
  hR : W.heap[R]? = some (.cells #[.slice A n c, .int .i64 at_, .slice Ao opn.length co, .slice Ax out.length cx] 97 (0, 0))
  o1 : W.ownsRow w0.heap.size 3 1 (.slice Ao opn.length co) opn.length (icl opn)
  o2 : W.ownsRow w0.heap.size 73 4 (.slice Ax out.length cx) out.length (flc out)
  bel : Below w0.heap.size w0 W
  h4 : w0.heap.size ≤ R
  F : BoxF W B num kind val text
  ne : (Value.slice Ax out.length cx).ownBlock ≠ some B
  hB : w0.heap.size ≤ B
theorem FB.cells {w0 W : World} {R B : Nat} {A : Option Addr} {n c at_ : Nat} {opn : List Nat} {out : List Fld} {num kind val : Nat} {text : ByteArray} {Ao Ax : Option Addr} {co cx : Nat} (h : FB w0 W R B A n c at_ opn out num kind val text Ao Ax co cx) :
    W.cell? ⟨R, 2, none⟩ = some (.slice Ao opn.length co) ∧ W.cell? ⟨R, 3, none⟩ = some (.slice Ax out.length cx) ∧ W.frozen? ⟨R, 3, none⟩ = false ∧
    W.cell? ⟨B, 0, none⟩ = some (.int .i64 num) ∧ W.cell? ⟨B, 1, none⟩ = some (.int .i64 kind) ∧ W.cell? ⟨B, 2, none⟩ = some (.int .u64 val) ∧ W.cell? ⟨B, 3, none⟩ = some (.string text) ∧ W.frozen? ⟨B, 2, none⟩ = false ∧ W.frozen? ⟨B, 3, none⟩ = false := by
  obtain ⟨a, b2, c2, d⟩ := rd_cells h.hR
  obtain ⟨e, f, g, i⟩ := h.F.cells
  refine ⟨a, b2, d, e, f, g, i, ?_, ?_⟩ <;> simp [World.frozen?, show W.heap[B]? = _ from h.F]
theorem FB.rdr {w0 W : World} {R B : Nat} {A : Option Addr} {n c at_ : Nat} {opn : List Nat} {out : List Fld} {num kind val : Nat} {text : ByteArray} {Ao Ax : Option Addr} {co cx : Nat} (h : FB w0 W R B A n c at_ opn out num kind val text Ao Ax co cx) : Rdr w0 W R A n c ⟨at_, opn, out⟩ :=
  ⟨Ao, co, Ax, cx, h.hR, h.o1, h.o2, h.bel, h.h4⟩
theorem own_setB {W : World} {B i base : Nat} {e : TypeId} {size n : Nat} {v : Value} {xs : List Value} (h : W.ownsRow base e size v n xs) (hne : v.ownBlock ≠ some B) (x : Value) : (W.setCell ⟨B, i, none⟩ x).ownsRow base e size v n xs := by
  refine ⟨h.1, ?_⟩
  rcases h.2 with h2 | ⟨g, cap, cur, hv, hg, hh, r⟩
  · exact .inl h2
  · refine .inr ⟨g, cap, cur, hv, hg, ?_, r⟩
    rw [heap_setCell_other W ⟨B, i, none⟩ g x (fun e => hne (by rw [hv, e]; rfl))]
    exact hh
theorem FB.ne_R {w0 W : World} {R B : Nat} {A : Option Addr} {n c at_ : Nat} {opn : List Nat} {out : List Fld} {num kind val : Nat} {text : ByteArray} {Ao Ax : Option Addr} {co cx : Nat} (h : FB w0 W R B A n c at_ opn out num kind val text Ao Ax co cx) : R ≠ B := by
  rintro rfl
  have := h.hR.symm.trans h.F
  simp at this
theorem FB.setV {w0 W : World} {R B : Nat} {A : Option Addr} {n c at_ : Nat} {opn : List Nat} {out : List Fld} {num kind val : Nat} {text : ByteArray} {Ao Ax : Option Addr} {co cx : Nat} (h : FB w0 W R B A n c at_ opn out num kind val text Ao Ax co cx) (v : Nat) :
    FB w0 (W.setCell ⟨B, 2, none⟩ (.int .u64 v)) R B A n c at_ opn out num kind v text Ao Ax co cx :=
  ⟨(heap_setCell_other W ⟨B, 2, none⟩ R _ h.ne_R).trans h.hR, own_set h.o1 h.F (by decide) _, own_setB h.o2 h.ne _, h.bel.setCell (p := ⟨B, 2, none⟩) h.hB _, h.h4, heap_setCell_same W B 2 _ _ _ h.F, h.ne, h.hB⟩
theorem FB.setT {w0 W : World} {R B : Nat} {A : Option Addr} {n c at_ : Nat} {opn : List Nat} {out : List Fld} {num kind val : Nat} {text : ByteArray} {Ao Ax : Option Addr} {co cx : Nat} (h : FB w0 W R B A n c at_ opn out num kind val text Ao Ax co cx) (t : ByteArray) :
    FB w0 (W.setCell ⟨B, 3, none⟩ (.string t)) R B A n c at_ opn out num kind val t Ao Ax co cx :=
  ⟨(heap_setCell_other W ⟨B, 3, none⟩ R _ h.ne_R).trans h.hR, own_set h.o1 h.F (by decide) _, own_setB h.o2 h.ne _, h.bel.setCell (p := ⟨B, 3, none⟩) h.hB _, h.h4, heap_setCell_same W B 3 _ _ _ h.F, h.ne, h.hB⟩
theorem FB.drew {w0 W : World} {R B : Nat} {A : Option Addr} {n c at_ : Nat} {opn : List Nat} {out : List Fld} {num kind val : Nat} {text : ByteArray} {Ao Ax : Option Addr} {co cx : Nat} (h : FB w0 W R B A n c at_ opn out num kind val text Ao Ax co cx) : FB w0 W.drew R B A n c at_ opn out num kind val text Ao Ax co cx :=
  ⟨h.hR, h.o1, h.o2, h.bel.drew, h.h4, h.F, h.ne, h.hB⟩
def keepB (B : Nat) : Rel := ⟨fun w w' => w'.heap[B]? = w.heap[B]?, fun _ => rfl, fun h k => k.trans h⟩
/-- behind a call that only reads on -/
theorem FB.kp {w0 W W' : World} {R B : Nat} {A : Option Addr} {n c at_ : Nat} {s : RSt} {num kind val : Nat} {text : ByteArray} {Ao Ax : Option Addr} {co cx : Nat} (h : FB w0 W R B A n c at_ s.opn s.out num kind val text Ao Ax co cx) (k : Kp W W' R) (k2 : Nat)
    (hr : Rdr w0 W' R A n c ⟨k2, s.opn, s.out⟩) : FB w0 W' R B A n c k2 s.opn s.out num kind val text Ao Ax co cx := by
  obtain ⟨Ao', co', Ax', cx', hR, o1, o2, hb, h4⟩ := hr
  obtain ⟨e2, e3, _, _⟩ := rd_cells hR
  obtain ⟨d2, d3, _⟩ := h.cells
  rw [k.c2, d2] at e2
  rw [k.c3, d3] at e3
  simp at e2 e3
  obtain ⟨rfl, rfl⟩ := e2
  obtain ⟨rfl, rfl⟩ := e3
  exact ⟨hR, o1, o2, hb, h4, (k.g.block B h.F.lt (fun e => h.ne_R (Option.some.inj e).symm)).trans h.F, h.ne, h.hB⟩
section
variable (b : List UInt8) (A : Option Addr) (n c : Nat) (hn : b.length = n) (hnc : n ≤ c) (hcm : c ≤ 9223372036854775807) (hl : b.length ≤ 140737488355328) (w0 : World) (hr0 : Rd w0 w0.heap.size A (bcl b))
include hn hnc hcm hl hr0
set_option maxRecDepth 100000 in
set_option maxHeartbeats 4000000 in
theorem field_any (s : RSt) (R num kind : Nat) (W : World) (h : Rdr w0 W R A n c s) (E : Nat) (hE : (if (wval b s.at_ kind).err = 0 then if s.opn.length = 0 then if 256 ≤ s.out.length then 6 else 0 else 0 else (wval b s.at_ kind).err) = E) :
    Calls Tryd.prog 82 #[.pointer (some ⟨R, 0, none⟩), .int .i64 num, .int .i64 kind] W fun e w' => e = .returned (.int .i64 E) ∧
      (E = 0 → Rdr w0 w' R A n c ⟨(wval b s.at_ kind).to, s.opn, if s.opn.length = 0 then s.out ++ [⟨num, kind, (wval b s.at_ kind).val, (wval b s.at_ kind).text⟩] else s.out⟩) ∧ Below w0.heap.size w0 w' := by
  have hA : Rdr w0 (W.alloc (Obj.cells #[.int .i64 num, .int .i64 kind, .int .u64 0, .string ⟨#[]⟩] 73)) R A n c s := h.step ((Below.refl _ W).alloc (Nat.le_refl _) _)
  obtain ⟨Ao, co, Ax, cx, hB⟩ : ∃ Ao co Ax cx, FB w0 (W.alloc (Obj.cells #[.int .i64 num, .int .i64 kind, .int .u64 0, .string ⟨#[]⟩] 73)) R W.heap.size A n c s.at_ s.opn s.out num kind 0 ⟨#[]⟩ Ao Ax co cx := by
    obtain ⟨Ao, co, Ax, cx, hR, o1, o2, hb, h4⟩ := h
    have hA := (Below.refl _ W).alloc (Nat.le_refl _) (Obj.cells #[.int .i64 num, .int .i64 kind, .int .u64 0, .string ⟨#[]⟩] 73)
    refine ⟨Ao, co, Ax, cx, (hA.block R (Array.getElem?_eq_some_iff.1 hR).1).trans hR, own_kept o1 hA (Nat.le_refl _), own_kept o2 hA (Nat.le_refl _), bel_step' hb (Nat.le_refl _) (hA.mono (Nat.le_refl _)), h4, BoxF.new W num kind 0 ⟨#[]⟩, fun e => ?_, hb.size⟩
    have := (o2.lt _ e).2
    omega
  have hnum := rnum_any b A n c hn hnc hcm hl w0 hr0 s R _ hA
  have htext := rtextr_any b A n c hn hnc hcm hl w0 hr0 s R _ hA
  have hwide := fun (k : Nat) (hk : k = 1 ∨ k = 5) => wide_any b A n c hn hnc hcm hl w0 hr0 s R k hk _ hA
  clear hn hnc hcm hl hr0
  by_cases hk0 : kind = 0
  · subst hk0
    have hw : wval b s.at_ 0 = ⟨(vget b s.at_).1, emptyT, (vget b s.at_).2.1, (vget b s.at_).2.2⟩ := by unfold wval; rw [if_pos rfl]
    rw [hw] at hE ⊢
    have hcall := hnum
    obtain ⟨r, hr⟩ : ∃ r, vget b s.at_ = r := ⟨_, rfl⟩
    rw [hr] at hcall hE ⊢
    obtain ⟨v, to, er⟩ := r
    simp only at hcall hE ⊢
    clear hnum htext hwide
    by_cases he : er = 0
    · subst he
      rw [if_pos rfl] at hE
      by_cases ho : s.opn.length = 0
      · rw [if_pos ho] at hE
        have hbo : decide ((0 : Int) < (s.opn.length : Int)) = false := decide_eq_false (by omega)
        by_cases hf : 256 ≤ s.out.length
        · rw [if_pos hf] at hE
          subst hE
          have HFF := Lib.hid hf
          have hbf : decide ((256 : Int) ≤ (s.out.length : Int)) = true := decide_eq_true (by omega)
          go_enter Tryd.func82, Tryd.ntmps82
          go_wp2_with fail
          refine hcall.mono ?_
          rintro e w1 ⟨rfl, h1, hB1, hk1⟩
          have hF := hB.kp hk1 to (h1 (by first | rfl | trivial))
          have hF2 := hF.setV v
          obtain ⟨a2, a3, a4, a5, a6, a7, a8, a9, a10⟩ := hF.cells
          obtain ⟨b2, b3, b4, b5, b6, b7, b8, b9, b10⟩ := hF2.cells
          have hne := hF.ne_R
          clear hcall hA hB h1 hB1 hk1
          go_wp2_with fail
          go_ret
          first | exact ⟨rfl, fun h => absurd h (by decide), hF2.bel⟩ | exact ⟨rfl, hF2.bel⟩
        · rw [if_neg hf] at hE
          subst hE
          rw [if_pos ho]
          have HFF := Lib.hid hf
          have hbf : decide ((256 : Int) ≤ (s.out.length : Int)) = false := decide_eq_false (by omega)
          go_enter Tryd.func82, Tryd.ntmps82
          go_wp2_with fail
          refine hcall.mono ?_
          rintro e w1 ⟨rfl, h1, hB1, hk1⟩
          have hF := hB.kp hk1 to (h1 (by first | rfl | trivial))
          have hF2 := hF.setV v
          obtain ⟨a2, a3, a4, a5, a6, a7, a8, a9, a10⟩ := hF.cells
          obtain ⟨b2, b3, b4, b5, b6, b7, b8, b9, b10⟩ := hF2.cells
          have hne := hF.ne_R
          clear hcall hA hB h1 hB1 hk1
          go_wp2_with fail
          have hF3 := hF2.drew
          refine wp_region_LG (keepB W.heap.size) 11 [0, 1, 2, 3, 5, 4, 6, 7, 8, 9, 10] rfl (by decide) (by decide) (by kernel_rfl) ?_
          generalize (w1.setCell ⟨W.heap.size, 2, none⟩ (.int .u64 v)).drew = W3 at *
          simp only [List.filterMap_cons, List.filterMap_nil, List.getElem?_cons_zero, List.getElem?_cons_succ, Option.map_some]
          have q0 : ∀ u : World, u.heap[W.heap.size]? = W3.heap[W.heap.size]? → u.cell? ⟨W.heap.size, 0, none⟩ = some (.int .i64 num) := fun u hu => by simp [World.cell?, hu.trans hF3.F]
          have q1 : ∀ u : World, u.heap[W.heap.size]? = W3.heap[W.heap.size]? → u.cell? ⟨W.heap.size, 1, none⟩ = some (.int .i64 ((0 : Nat) : Int)) := fun u hu => by simp [World.cell?, hu.trans hF3.F]
          have q2 : ∀ u : World, u.heap[W.heap.size]? = W3.heap[W.heap.size]? → u.cell? ⟨W.heap.size, 2, none⟩ = some (.int .u64 (v : Nat)) := fun u hu => by simp [World.cell?, hu.trans hF3.F]
          have q3 : ∀ u : World, u.heap[W.heap.size]? = W3.heap[W.heap.size]? → u.cell? ⟨W.heap.size, 3, none⟩ = some (.string ⟨#[]⟩) := fun u hu => by simp [World.cell?, hu.trans hF3.F]
          have x3 : W3.cell? ⟨R, 3, none⟩ = some (.slice Ax s.out.length cx) := (rd_cells hF3.hR).2.1
          have hR' := (Below.heap_alloc W3 (.cells #[.int .i64 num, .int .i64 0, .int .u64 v, .string ⟨#[]⟩] 73) R (Array.getElem?_eq_some_iff.1 hF3.hR).1).trans hF3.hR
          have x3' := (rd_cells hR').2.1
          have o1' := hF3.o1.alloc (.cells #[.int .i64 num, .int .i64 0, .int .u64 v, .string ⟨#[]⟩] 73)
          have o2' := hF3.o2.alloc (.cells #[.int .i64 num, .int .i64 0, .int .u64 v, .string ⟨#[]⟩] 73)
          have hbb2 := hF3.bel.alloc hF3.bel.size (.cells #[.int .i64 num, .int .i64 0, .int .u64 v, .string ⟨#[]⟩] 73)
          have hbb := hbb2.size
          have hkb := Below.heap_alloc W3 (.cells #[.int .i64 num, .int .i64 0, .int .u64 v, .string ⟨#[]⟩] 73) W.heap.size hF3.F.lt
          refine wpL_takeG _ (v := ?_) (by kernel_rfl) (by kernel_rfl) (by kernel_rfl) (fun _ _ _ h => h) (by rfl) (fun u hu => ?_) ?_
          rotate_left
          focus
            replace hu : u.heap[W.heap.size]? = W3.heap[W.heap.size]? := hu
            go_simp
            try with_reducible rfl
          simp only [Act.put, List.setIfInBounds_toArray, List.set_cons_zero, List.set_cons_succ]
          refine wpL_takeG _ (v := ?_) (by kernel_rfl) (by kernel_rfl) (by kernel_rfl) (fun _ _ _ h => h) (by rfl) (fun u hu => ?_) ?_
          rotate_left
          focus
            replace hu : u.heap[W.heap.size]? = W3.heap[W.heap.size]? := hu
            go_simp
            try with_reducible rfl
          simp only [Act.put, List.setIfInBounds_toArray, List.set_cons_zero, List.set_cons_succ]
          refine wpL_takeG _ (v := ?_) (by kernel_rfl) (by kernel_rfl) (by kernel_rfl) (fun _ _ _ h => h) (by rfl) (fun u hu => ?_) ?_
          rotate_left
          focus
            replace hu : u.heap[W.heap.size]? = W3.heap[W.heap.size]? := hu
            go_simp
            try with_reducible rfl
          simp only [Act.put, List.setIfInBounds_toArray, List.set_cons_zero, List.set_cons_succ]
          refine wpL_takeG _ (v := ?_) (by kernel_rfl) (by kernel_rfl) (by kernel_rfl) (fun _ _ _ h => h) (by rfl) (fun u hu => ?_) ?_
          rotate_left
          focus
            replace hu : u.heap[W.heap.size]? = W3.heap[W.heap.size]? := hu
            go_simp
            try with_reducible rfl
          simp only [Act.put, List.setIfInBounds_toArray, List.set_cons_zero, List.set_cons_succ]
          refine wpL_takeG _ (v := ?_) (by kernel_rfl) (by kernel_rfl) (by kernel_rfl) (fun _ _ _ h => h) (by rfl) (fun u hu => ?_) ?_
          rotate_left
          focus
            replace hu : u.heap[W.heap.size]? = W3.heap[W.heap.size]? := hu
            go_simp
            try with_reducible rfl
          simp only [Act.put, List.setIfInBounds_toArray, List.set_cons_zero, List.set_cons_succ]
          refine wpL_do2G _ (by kernel_rfl) (by rfl) (by rfl) (fun K hK => ?_) (fun K hK => ?_)
          · go_simp
            refine hK _ _ rfl ?_
            clear hK K
            refine wpL_doG _ (by kernel_rfl) (by rfl) (fun K hK => ?_)
            go_simp
            refine hK _ _ hkb ?_
            clear hK K
            refine wpL_doG _ (by kernel_rfl) (by rfl) (fun K hK => ?_)
            refine wp_app (.tmp 62) (.tmp 64) 51 rfl elemF rfl o2' rfl (Rd.cells W3 #[.int .i64 num, .int .i64 0, .int .u64 v, .string ⟨#[]⟩] _) rfl (by intro u hu; simp at hu; rcases hu with rfl | rfl | rfl | rfl <;> rfl) (by have := HFF.out; unfold maxLen; omega) (by have := HFF.out; omega) hbb ?_
            intro A5 c5 w5 ho5 hg5 _
            obtain ⟨hR5, hrd⟩ := Rdr.pushF (l := s.out ++ [⟨num, (0 : Nat), v, ⟨#[]⟩⟩]) hR' o1' o2' hbb2 hF3.h4 hg5 (by simpa [flc, Fld.cells] using ho5) (by simp)
            obtain ⟨k2, k3, j2, j3⟩ := rd_cells hR5
            refine hK _ _ (hg5.block W.heap.size (by have := hF3.F.lt; simp; omega) hF3.ne.symm) ?_
            clear hK K
            simp only [Act.put, List.setIfInBounds_toArray, List.set_cons_zero, List.set_cons_succ]
            refine wpL_takeG _ (v := ?_) (by kernel_rfl) (by kernel_rfl) (by kernel_rfl) (fun _ _ _ h => h) (by rfl) (fun u hu => ?_) ?_
            rotate_left
            focus
              go_simp
              try with_reducible rfl
            simp only [Act.put, List.setIfInBounds_toArray, List.set_cons_zero, List.set_cons_succ]
            refine wpL_takeG _ (v := ?_) (by kernel_rfl) (by kernel_rfl) (by kernel_rfl) (fun _ _ _ h => h) (by rfl) (fun u hu => ?_) ?_
            rotate_left
            focus
              go_simp
              try with_reducible rfl
            simp only [Act.put, List.setIfInBounds_toArray, List.set_cons_zero, List.set_cons_succ]
            refine wpL_doG _ (by kernel_rfl) (by rfl) (fun K hK => ?_)
            go_simp
            refine hK _ _ (heap_setCell_other _ ⟨R, 3, none⟩ _ _ (Ne.symm hne)) ?_
            clear hK K
            refine wpL_doneG _ (by kernel_rfl) ?_
            go_wp2_with fail
            go_ret
            exact ⟨rfl, (by first | exact hrd | exact fun _ => hrd), hrd.bel⟩
          · go_simp
            refine hK _ _ hkb ?_
            clear hK K
            refine wpL_doG _ (by kernel_rfl) (by rfl) (fun K hK => ?_)
            go_simp
            refine hK _ _ rfl ?_
            clear hK K
            refine wpL_doG _ (by kernel_rfl) (by rfl) (fun K hK => ?_)
            refine wp_app (.tmp 62) (.tmp 64) 51 rfl elemF rfl o2' rfl (Rd.cells W3 #[.int .i64 num, .int .i64 0, .int .u64 v, .string ⟨#[]⟩] _) rfl (by intro u hu; simp at hu; rcases hu with rfl | rfl | rfl | rfl <;> rfl) (by have := HFF.out; unfold maxLen; omega) (by have := HFF.out; omega) hbb ?_
            intro A5 c5 w5 ho5 hg5 _
            obtain ⟨hR5, hrd⟩ := Rdr.pushF (l := s.out ++ [⟨num, (0 : Nat), v, ⟨#[]⟩⟩]) hR' o1' o2' hbb2 hF3.h4 hg5 (by simpa [flc, Fld.cells] using ho5) (by simp)
            obtain ⟨k2, k3, j2, j3⟩ := rd_cells hR5
            refine hK _ _ (hg5.block W.heap.size (by have := hF3.F.lt; simp; omega) hF3.ne.symm) ?_
            clear hK K
            simp only [Act.put, List.setIfInBounds_toArray, List.set_cons_zero, List.set_cons_succ]
            refine wpL_takeG _ (v := ?_) (by kernel_rfl) (by kernel_rfl) (by kernel_rfl) (fun _ _ _ h => h) (by rfl) (fun u hu => ?_) ?_
            rotate_left
            focus
              go_simp
              try with_reducible rfl
            simp only [Act.put, List.setIfInBounds_toArray, List.set_cons_zero, List.set_cons_succ]
            refine wpL_takeG _ (v := ?_) (by kernel_rfl) (by kernel_rfl) (by kernel_rfl) (fun _ _ _ h => h) (by rfl) (fun u hu => ?_) ?_
            rotate_left
            focus
              go_simp
              try with_reducible rfl
            simp only [Act.put, List.setIfInBounds_toArray, List.set_cons_zero, List.set_cons_succ]
            refine wpL_doG _ (by kernel_rfl) (by rfl) (fun K hK => ?_)
            go_simp
            refine hK _ _ (heap_setCell_other _ ⟨R, 3, none⟩ _ _ (Ne.symm hne)) ?_
            clear hK K
            refine wpL_doneG _ (by kernel_rfl) ?_
            go_wp2_with fail
            go_ret
            exact ⟨rfl, (by first | exact hrd | exact fun _ => hrd), hrd.bel⟩
      · rw [if_neg ho] at hE
        subst hE
        rw [if_neg ho]
        have hpos : 0 < s.opn.length := by omega
        have hbo : decide (0 < s.opn.length) = true := decide_eq_true hpos
        have HO := Lib.hid ho
        clear ho
        go_enter Tryd.func82, Tryd.ntmps82
        go_wp2_with fail
        refine hcall.mono ?_
        rintro e w1 ⟨rfl, h1, hB1, hk1⟩
        have hF := hB.kp hk1 to (h1 (by first | rfl | trivial))
        have hF2 := hF.setV v
        obtain ⟨a2, a3, a4, a5, a6, a7, a8, a9, a10⟩ := hF.cells
        obtain ⟨b2, b3, b4, b5, b6, b7, b8, b9, b10⟩ := hF2.cells
        have hne := hF.ne_R
        clear hcall hA hB h1 hB1 hk1
        go_wp2_with fail
        go_ret
        exact ⟨rfl, (by first | exact hF2.rdr | exact fun _ => hF2.rdr), hF2.bel⟩
    · rw [if_neg he] at hE
      subst hE
      have hbe : ((er : Int) != 0) = true := by simp; omega
      have hv0 := vget_zero (b := b) (p := s.at_) (by rw [hr]; exact he)
      rw [hr] at hv0
      simp only at hv0
      subst hv0
      have HE := Lib.hid he
      clear he
      go_enter Tryd.func82, Tryd.ntmps82
      go_wp2_with fail
      refine hcall.mono ?_
      rintro e w1 ⟨rfl, -, hB1, hk1⟩
      have hF : BoxF w1 W.heap.size num 0 0 ⟨#[]⟩ := (hk1.g.block W.heap.size hB.F.lt (fun e => hB.ne_R (Option.some.inj e).symm)).trans hB.F
      obtain ⟨a4, a5, a6, a7⟩ := hF.cells
      have a8 : w1.frozen? ⟨W.heap.size, 2, none⟩ = false := by simp [World.frozen?, show w1.heap[W.heap.size]? = _ from hF]
      have a9 : w1.frozen? ⟨W.heap.size, 3, none⟩ = false := by simp [World.frozen?, show w1.heap[W.heap.size]? = _ from hF]
      have hbs := hB.hB
      clear hcall hA hB hk1
      go_wp2_with fail
      all_goals go_ret
      all_goals exact ⟨rfl, fun h => absurd h HE.out, hB1.setCell (by exact hbs) _⟩
  by_cases hk2 : kind = 2
  · subst hk2
    have hcall := htext
    have hv0 : (wval b s.at_ 2).val = 0 := by rw [wval2]; split <;> (try split) <;> rfl
    obtain ⟨r, hr⟩ : ∃ r, wval b s.at_ 2 = r := ⟨_, rfl⟩
    rw [hr] at hcall hE hv0 ⊢
    obtain ⟨v, t, to, er⟩ := r
    simp only at hv0
    subst hv0
    simp only at hcall hE ⊢
    clear hnum htext hwide
    by_cases he : er = 0
    · subst he
      rw [if_pos rfl] at hE
      by_cases ho : s.opn.length = 0
      · rw [if_pos ho] at hE
        have hbo : decide ((0 : Int) < (s.opn.length : Int)) = false := decide_eq_false (by omega)
        by_cases hf : 256 ≤ s.out.length
        · rw [if_pos hf] at hE
          subst hE
          have HFF := Lib.hid hf
          have hbf : decide ((256 : Int) ≤ (s.out.length : Int)) = true := decide_eq_true (by omega)
          go_enter Tryd.func82, Tryd.ntmps82
          go_wp2_with fail
          refine hcall.mono ?_
          rintro e w1 ⟨rfl, h1, hB1, hk1⟩
          have hF := hB.kp hk1 to (h1 (by first | rfl | trivial))
          have hF2 := hF.setT t
          obtain ⟨a2, a3, a4, a5, a6, a7, a8, a9, a10⟩ := hF.cells
          obtain ⟨b2, b3, b4, b5, b6, b7, b8, b9, b10⟩ := hF2.cells
          have hne := hF.ne_R
          clear hcall hA hB h1 hB1 hk1
          go_wp2_with fail
          go_ret
          first | exact ⟨rfl, fun h => absurd h (by decide), hF2.bel⟩ | exact ⟨rfl, hF2.bel⟩
        · rw [if_neg hf] at hE
          subst hE
          rw [if_pos ho]
          have HFF := Lib.hid hf
          have hbf : decide ((256 : Int) ≤ (s.out.length : Int)) = false := decide_eq_false (by omega)
          go_enter Tryd.func82, Tryd.ntmps82
          go_wp2_with fail
          refine hcall.mono ?_
          rintro e w1 ⟨rfl, h1, hB1, hk1⟩
          have hF := hB.kp hk1 to (h1 (by first | rfl | trivial))
          have hF2 := hF.setT t
          obtain ⟨a2, a3, a4, a5, a6, a7, a8, a9, a10⟩ := hF.cells
          obtain ⟨b2, b3, b4, b5, b6, b7, b8, b9, b10⟩ := hF2.cells
          have hne := hF.ne_R
          clear hcall hA hB h1 hB1 hk1
          go_wp2_with fail
          have hF3 := hF2.drew
          refine wp_region_LG (keepB W.heap.size) 11 [0, 1, 2, 3, 5, 4, 6, 7, 8, 9, 10] rfl (by decide) (by decide) (by kernel_rfl) ?_
          generalize (w1.setCell ⟨W.heap.size, 3, none⟩ (.string t)).drew = W3 at *
          simp only [List.filterMap_cons, List.filterMap_nil, List.getElem?_cons_zero, List.getElem?_cons_succ, Option.map_some]
          have q0 : ∀ u : World, u.heap[W.heap.size]? = W3.heap[W.heap.size]? → u.cell? ⟨W.heap.size, 0, none⟩ = some (.int .i64 num) := fun u hu => by simp [World.cell?, hu.trans hF3.F]
          have q1 : ∀ u : World, u.heap[W.heap.size]? = W3.heap[W.heap.size]? → u.cell? ⟨W.heap.size, 1, none⟩ = some (.int .i64 ((2 : Nat) : Int)) := fun u hu => by simp [World.cell?, hu.trans hF3.F]
          have q2 : ∀ u : World, u.heap[W.heap.size]? = W3.heap[W.heap.size]? → u.cell? ⟨W.heap.size, 2, none⟩ = some (.int .u64 (0 : Nat)) := fun u hu => by simp [World.cell?, hu.trans hF3.F]
          have q3 : ∀ u : World, u.heap[W.heap.size]? = W3.heap[W.heap.size]? → u.cell? ⟨W.heap.size, 3, none⟩ = some (.string t) := fun u hu => by simp [World.cell?, hu.trans hF3.F]
          have x3 : W3.cell? ⟨R, 3, none⟩ = some (.slice Ax s.out.length cx) := (rd_cells hF3.hR).2.1
          have hR' := (Below.heap_alloc W3 (.cells #[.int .i64 num, .int .i64 2, .int .u64 0, .string t] 73) R (Array.getElem?_eq_some_iff.1 hF3.hR).1).trans hF3.hR
          have x3' := (rd_cells hR').2.1
          have o1' := hF3.o1.alloc (.cells #[.int .i64 num, .int .i64 2, .int .u64 0, .string t] 73)
          have o2' := hF3.o2.alloc (.cells #[.int .i64 num, .int .i64 2, .int .u64 0, .string t] 73)
          have hbb2 := hF3.bel.alloc hF3.bel.size (.cells #[.int .i64 num, .int .i64 2, .int .u64 0, .string t] 73)
          have hbb := hbb2.size
          have hkb := Below.heap_alloc W3 (.cells #[.int .i64 num, .int .i64 2, .int .u64 0, .string t] 73) W.heap.size hF3.F.lt
          refine wpL_takeG _ (v := ?_) (by kernel_rfl) (by kernel_rfl) (by kernel_rfl) (fun _ _ _ h => h) (by rfl) (fun u hu => ?_) ?_
          rotate_left
          focus
            replace hu : u.heap[W.heap.size]? = W3.heap[W.heap.size]? := hu
            go_simp
            try with_reducible rfl
          simp only [Act.put, List.setIfInBounds_toArray, List.set_cons_zero, List.set_cons_succ]
          refine wpL_takeG _ (v := ?_) (by kernel_rfl) (by kernel_rfl) (by kernel_rfl) (fun _ _ _ h => h) (by rfl) (fun u hu => ?_) ?_
          rotate_left
          focus
            replace hu : u.heap[W.heap.size]? = W3.heap[W.heap.size]? := hu
            go_simp
            try with_reducible rfl
          simp only [Act.put, List.setIfInBounds_toArray, List.set_cons_zero, List.set_cons_succ]
          refine wpL_takeG _ (v := ?_) (by kernel_rfl) (by kernel_rfl) (by kernel_rfl) (fun _ _ _ h => h) (by rfl) (fun u hu => ?_) ?_
          rotate_left
          focus
            replace hu : u.heap[W.heap.size]? = W3.heap[W.heap.size]? := hu
            go_simp
            try with_reducible rfl
          simp only [Act.put, List.setIfInBounds_toArray, List.set_cons_zero, List.set_cons_succ]
          refine wpL_takeG _ (v := ?_) (by kernel_rfl) (by kernel_rfl) (by kernel_rfl) (fun _ _ _ h => h) (by rfl) (fun u hu => ?_) ?_
          rotate_left
          focus
            replace hu : u.heap[W.heap.size]? = W3.heap[W.heap.size]? := hu
            go_simp
            try with_reducible rfl
          simp only [Act.put, List.setIfInBounds_toArray, List.set_cons_zero, List.set_cons_succ]
          refine wpL_takeG _ (v := ?_) (by kernel_rfl) (by kernel_rfl) (by kernel_rfl) (fun _ _ _ h => h) (by rfl) (fun u hu => ?_) ?_
          rotate_left
          focus
            replace hu : u.heap[W.heap.size]? = W3.heap[W.heap.size]? := hu
            go_simp
            try with_reducible rfl
          simp only [Act.put, List.setIfInBounds_toArray, List.set_cons_zero, List.set_cons_succ]
          refine wpL_do2G _ (by kernel_rfl) (by rfl) (by rfl) (fun K hK => ?_) (fun K hK => ?_)
          · go_simp
            refine hK _ _ rfl ?_
            clear hK K
            refine wpL_doG _ (by kernel_rfl) (by rfl) (fun K hK => ?_)
            go_simp
            refine hK _ _ hkb ?_
            clear hK K
            refine wpL_doG _ (by kernel_rfl) (by rfl) (fun K hK => ?_)
            refine wp_app (.tmp 62) (.tmp 64) 51 rfl elemF rfl o2' rfl (Rd.cells W3 #[.int .i64 num, .int .i64 2, .int .u64 0, .string t] _) rfl (by intro u hu; simp at hu; rcases hu with rfl | rfl | rfl | rfl <;> rfl) (by have := HFF.out; unfold maxLen; omega) (by have := HFF.out; omega) hbb ?_
            intro A5 c5 w5 ho5 hg5 _
            obtain ⟨hR5, hrd⟩ := Rdr.pushF (l := s.out ++ [⟨num, (2 : Nat), 0, t⟩]) hR' o1' o2' hbb2 hF3.h4 hg5 (by simpa [flc, Fld.cells] using ho5) (by simp)
            obtain ⟨k2, k3, j2, j3⟩ := rd_cells hR5
            refine hK _ _ (hg5.block W.heap.size (by have := hF3.F.lt; simp; omega) hF3.ne.symm) ?_
            clear hK K
            simp only [Act.put, List.setIfInBounds_toArray, List.set_cons_zero, List.set_cons_succ]
            refine wpL_takeG _ (v := ?_) (by kernel_rfl) (by kernel_rfl) (by kernel_rfl) (fun _ _ _ h => h) (by rfl) (fun u hu => ?_) ?_
            rotate_left
            focus
              go_simp
              try with_reducible rfl
            simp only [Act.put, List.setIfInBounds_toArray, List.set_cons_zero, List.set_cons_succ]
            refine wpL_takeG _ (v := ?_) (by kernel_rfl) (by kernel_rfl) (by kernel_rfl) (fun _ _ _ h => h) (by rfl) (fun u hu => ?_) ?_
            rotate_left
            focus
              go_simp
              try with_reducible rfl
            simp only [Act.put, List.setIfInBounds_toArray, List.set_cons_zero, List.set_cons_succ]
            refine wpL_doG _ (by kernel_rfl) (by rfl) (fun K hK => ?_)
            go_simp
            refine hK _ _ (heap_setCell_other _ ⟨R, 3, none⟩ _ _ (Ne.symm hne)) ?_
            clear hK K
            refine wpL_doneG _ (by kernel_rfl) ?_
            go_wp2_with fail
            go_ret
            exact ⟨rfl, (by first | exact hrd | exact fun _ => hrd), hrd.bel⟩
          · go_simp
            refine hK _ _ hkb ?_
            clear hK K
            refine wpL_doG _ (by kernel_rfl) (by rfl) (fun K hK => ?_)
            go_simp
            refine hK _ _ rfl ?_
            clear hK K
            refine wpL_doG _ (by kernel_rfl) (by rfl) (fun K hK => ?_)
            refine wp_app (.tmp 62) (.tmp 64) 51 rfl elemF rfl o2' rfl (Rd.cells W3 #[.int .i64 num, .int .i64 2, .int .u64 0, .string t] _) rfl (by intro u hu; simp at hu; rcases hu with rfl | rfl | rfl | rfl <;> rfl) (by have := HFF.out; unfold maxLen; omega) (by have := HFF.out; omega) hbb ?_
            intro A5 c5 w5 ho5 hg5 _
            obtain ⟨hR5, hrd⟩ := Rdr.pushF (l := s.out ++ [⟨num, (2 : Nat), 0, t⟩]) hR' o1' o2' hbb2 hF3.h4 hg5 (by simpa [flc, Fld.cells] using ho5) (by simp)
            obtain ⟨k2, k3, j2, j3⟩ := rd_cells hR5
            refine hK _ _ (hg5.block W.heap.size (by have := hF3.F.lt; simp; omega) hF3.ne.symm) ?_
            clear hK K
            simp only [Act.put, List.setIfInBounds_toArray, List.set_cons_zero, List.set_cons_succ]
            refine wpL_takeG _ (v := ?_) (by kernel_rfl) (by kernel_rfl) (by kernel_rfl) (fun _ _ _ h => h) (by rfl) (fun u hu => ?_) ?_
            rotate_left
            focus
              go_simp
              try with_reducible rfl
            simp only [Act.put, List.setIfInBounds_toArray, List.set_cons_zero, List.set_cons_succ]
            refine wpL_takeG _ (v := ?_) (by kernel_rfl) (by kernel_rfl) (by kernel_rfl) (fun _ _ _ h => h) (by rfl) (fun u hu => ?_) ?_
            rotate_left
            focus
              go_simp
              try with_reducible rfl
            simp only [Act.put, List.setIfInBounds_toArray, List.set_cons_zero, List.set_cons_succ]
            refine wpL_doG _ (by kernel_rfl) (by rfl) (fun K hK => ?_)
            go_simp
            refine hK _ _ (heap_setCell_other _ ⟨R, 3, none⟩ _ _ (Ne.symm hne)) ?_
            clear hK K
            refine wpL_doneG _ (by kernel_rfl) ?_
            go_wp2_with fail
            go_ret
            exact ⟨rfl, (by first | exact hrd | exact fun _ => hrd), hrd.bel⟩
      · rw [if_neg ho] at hE
        subst hE
        rw [if_neg ho]
        have hpos : 0 < s.opn.length := by omega
        have hbo : decide (0 < s.opn.length) = true := decide_eq_true hpos
        have HO := Lib.hid ho
        clear ho
        go_enter Tryd.func82, Tryd.ntmps82
        go_wp2_with fail
        refine hcall.mono ?_
        rintro e w1 ⟨rfl, h1, hB1, hk1⟩
        have hF := hB.kp hk1 to (h1 (by first | rfl | trivial))
        have hF2 := hF.setT t
        obtain ⟨a2, a3, a4, a5, a6, a7, a8, a9, a10⟩ := hF.cells
        obtain ⟨b2, b3, b4, b5, b6, b7, b8, b9, b10⟩ := hF2.cells
        have hne := hF.ne_R
        clear hcall hA hB h1 hB1 hk1
        go_wp2_with fail
        go_ret
        exact ⟨rfl, (by first | exact hF2.rdr | exact fun _ => hF2.rdr), hF2.bel⟩
    · rw [if_neg he] at hE
      subst hE
      have hbe : ((er : Int) != 0) = true := by simp; omega
      have HE := Lib.hid he
      clear he
      go_enter Tryd.func82, Tryd.ntmps82
      go_wp2_with fail
      refine hcall.mono ?_
      rintro e w1 ⟨rfl, -, hB1, hk1⟩
      have hF : BoxF w1 W.heap.size num 2 0 ⟨#[]⟩ := (hk1.g.block W.heap.size hB.F.lt (fun e => hB.ne_R (Option.some.inj e).symm)).trans hB.F
      obtain ⟨a4, a5, a6, a7⟩ := hF.cells
      have a8 : w1.frozen? ⟨W.heap.size, 2, none⟩ = false := by simp [World.frozen?, show w1.heap[W.heap.size]? = _ from hF]
      have a9 : w1.frozen? ⟨W.heap.size, 3, none⟩ = false := by simp [World.frozen?, show w1.heap[W.heap.size]? = _ from hF]
      have hbs := hB.hB
      clear hcall hA hB hk1
      go_wp2_with fail
      all_goals go_ret
      all_goals exact ⟨rfl, fun h => absurd h HE.out, hB1.setCell (by exact hbs) _⟩
  by_cases hk1 : kind = 1
  · subst hk1
    have hcall := hwide 1 (by omega)
    have hv0 : (wval b s.at_ 1).text = emptyT := by unfold wval; simp
    obtain ⟨r, hr⟩ : ∃ r, wval b s.at_ 1 = r := ⟨_, rfl⟩
    rw [hr] at hcall hE hv0 ⊢
    obtain ⟨v, t, to, er⟩ := r
    simp only at hv0
    subst hv0
    simp only at hcall hE ⊢
    clear hnum htext hwide
    by_cases he : er = 0
    · subst he
      rw [if_pos rfl] at hE
      by_cases ho : s.opn.length = 0
      · rw [if_pos ho] at hE
        have hbo : decide ((0 : Int) < (s.opn.length : Int)) = false := decide_eq_false (by omega)
        by_cases hf : 256 ≤ s.out.length
        · rw [if_pos hf] at hE
          subst hE
          have HFF := Lib.hid hf
          have hbf : decide ((256 : Int) ≤ (s.out.length : Int)) = true := decide_eq_true (by omega)
          go_enter Tryd.func82, Tryd.ntmps82
          go_wp2_with fail
          refine hcall.mono ?_
          rintro e w1 ⟨rfl, h1, hB1, hk1⟩
          have hF := hB.kp hk1 to (h1 (by first | rfl | trivial))
          have hF2 := hF.setV v
          obtain ⟨a2, a3, a4, a5, a6, a7, a8, a9, a10⟩ := hF.cells
          obtain ⟨b2, b3, b4, b5, b6, b7, b8, b9, b10⟩ := hF2.cells
          have hne := hF.ne_R
          clear hcall hA hB h1 hB1 hk1
          go_wp2_with fail
          go_ret
          first | exact ⟨rfl, fun h => absurd h (by decide), hF2.bel⟩ | exact ⟨rfl, hF2.bel⟩
        · rw [if_neg hf] at hE
          subst hE
          rw [if_pos ho]
          have HFF := Lib.hid hf
          have hbf : decide ((256 : Int) ≤ (s.out.length : Int)) = false := decide_eq_false (by omega)
          go_enter Tryd.func82, Tryd.ntmps82
          go_wp2_with fail
          refine hcall.mono ?_
          rintro e w1 ⟨rfl, h1, hB1, hk1⟩
          have hF := hB.kp hk1 to (h1 (by first | rfl | trivial))
          have hF2 := hF.setV v
          obtain ⟨a2, a3, a4, a5, a6, a7, a8, a9, a10⟩ := hF.cells
          obtain ⟨b2, b3, b4, b5, b6, b7, b8, b9, b10⟩ := hF2.cells
          have hne := hF.ne_R
          clear hcall hA hB h1 hB1 hk1
          go_wp2_with fail
          have hF3 := hF2.drew
          refine wp_region_LG (keepB W.heap.size) 11 [0, 1, 2, 3, 5, 4, 6, 7, 8, 9, 10] rfl (by decide) (by decide) (by kernel_rfl) ?_
          generalize (w1.setCell ⟨W.heap.size, 2, none⟩ (.int .u64 v)).drew = W3 at *
          simp only [List.filterMap_cons, List.filterMap_nil, List.getElem?_cons_zero, List.getElem?_cons_succ, Option.map_some]
          have q0 : ∀ u : World, u.heap[W.heap.size]? = W3.heap[W.heap.size]? → u.cell? ⟨W.heap.size, 0, none⟩ = some (.int .i64 num) := fun u hu => by simp [World.cell?, hu.trans hF3.F]
          have q1 : ∀ u : World, u.heap[W.heap.size]? = W3.heap[W.heap.size]? → u.cell? ⟨W.heap.size, 1, none⟩ = some (.int .i64 ((1 : Nat) : Int)) := fun u hu => by simp [World.cell?, hu.trans hF3.F]
          have q2 : ∀ u : World, u.heap[W.heap.size]? = W3.heap[W.heap.size]? → u.cell? ⟨W.heap.size, 2, none⟩ = some (.int .u64 (v : Nat)) := fun u hu => by simp [World.cell?, hu.trans hF3.F]
          have q3 : ∀ u : World, u.heap[W.heap.size]? = W3.heap[W.heap.size]? → u.cell? ⟨W.heap.size, 3, none⟩ = some (.string ⟨#[]⟩) := fun u hu => by simp [World.cell?, hu.trans hF3.F]
          have x3 : W3.cell? ⟨R, 3, none⟩ = some (.slice Ax s.out.length cx) := (rd_cells hF3.hR).2.1
          have hR' := (Below.heap_alloc W3 (.cells #[.int .i64 num, .int .i64 1, .int .u64 v, .string ⟨#[]⟩] 73) R (Array.getElem?_eq_some_iff.1 hF3.hR).1).trans hF3.hR
          have x3' := (rd_cells hR').2.1
          have o1' := hF3.o1.alloc (.cells #[.int .i64 num, .int .i64 1, .int .u64 v, .string ⟨#[]⟩] 73)
          have o2' := hF3.o2.alloc (.cells #[.int .i64 num, .int .i64 1, .int .u64 v, .string ⟨#[]⟩] 73)
          have hbb2 := hF3.bel.alloc hF3.bel.size (.cells #[.int .i64 num, .int .i64 1, .int .u64 v, .string ⟨#[]⟩] 73)
          have hbb := hbb2.size
          have hkb := Below.heap_alloc W3 (.cells #[.int .i64 num, .int .i64 1, .int .u64 v, .string ⟨#[]⟩] 73) W.heap.size hF3.F.lt
          refine wpL_takeG _ (v := ?_) (by kernel_rfl) (by kernel_rfl) (by kernel_rfl) (fun _ _ _ h => h) (by rfl) (fun u hu => ?_) ?_
          rotate_left
          focus
            replace hu : u.heap[W.heap.size]? = W3.heap[W.heap.size]? := hu
            go_simp
            try with_reducible rfl
          simp only [Act.put, List.setIfInBounds_toArray, List.set_cons_zero, List.set_cons_succ]
          refine wpL_takeG _ (v := ?_) (by kernel_rfl) (by kernel_rfl) (by kernel_rfl) (fun _ _ _ h => h) (by rfl) (fun u hu => ?_) ?_
          rotate_left
          focus
            replace hu : u.heap[W.heap.size]? = W3.heap[W.heap.size]? := hu
            go_simp
            try with_reducible rfl
          simp only [Act.put, List.setIfInBounds_toArray, List.set_cons_zero, List.set_cons_succ]
          refine wpL_takeG _ (v := ?_) (by kernel_rfl) (by kernel_rfl) (by kernel_rfl) (fun _ _ _ h => h) (by rfl) (fun u hu => ?_) ?_
          rotate_left
          focus
            replace hu : u.heap[W.heap.size]? = W3.heap[W.heap.size]? := hu
            go_simp
            try with_reducible rfl
          simp only [Act.put, List.setIfInBounds_toArray, List.set_cons_zero, List.set_cons_succ]
          refine wpL_takeG _ (v := ?_) (by kernel_rfl) (by kernel_rfl) (by kernel_rfl) (fun _ _ _ h => h) (by rfl) (fun u hu => ?_) ?_
          rotate_left
          focus
            replace hu : u.heap[W.heap.size]? = W3.heap[W.heap.size]? := hu
            go_simp
            try with_reducible rfl
          simp only [Act.put, List.setIfInBounds_toArray, List.set_cons_zero, List.set_cons_succ]
          refine wpL_takeG _ (v := ?_) (by kernel_rfl) (by kernel_rfl) (by kernel_rfl) (fun _ _ _ h => h) (by rfl) (fun u hu => ?_) ?_
          rotate_left
          focus
            replace hu : u.heap[W.heap.size]? = W3.heap[W.heap.size]? := hu
            go_simp
            try with_reducible rfl
          simp only [Act.put, List.setIfInBounds_toArray, List.set_cons_zero, List.set_cons_succ]
          refine wpL_do2G _ (by kernel_rfl) (by rfl) (by rfl) (fun K hK => ?_) (fun K hK => ?_)
          · go_simp
            refine hK _ _ rfl ?_
            clear hK K
            refine wpL_doG _ (by kernel_rfl) (by rfl) (fun K hK => ?_)
            go_simp
            refine hK _ _ hkb ?_
            clear hK K
            refine wpL_doG _ (by kernel_rfl) (by rfl) (fun K hK => ?_)
            refine wp_app (.tmp 62) (.tmp 64) 51 rfl elemF rfl o2' rfl (Rd.cells W3 #[.int .i64 num, .int .i64 1, .int .u64 v, .string ⟨#[]⟩] _) rfl (by intro u hu; simp at hu; rcases hu with rfl | rfl | rfl | rfl <;> rfl) (by have := HFF.out; unfold maxLen; omega) (by have := HFF.out; omega) hbb ?_
            intro A5 c5 w5 ho5 hg5 _
            obtain ⟨hR5, hrd⟩ := Rdr.pushF (l := s.out ++ [⟨num, (1 : Nat), v, ⟨#[]⟩⟩]) hR' o1' o2' hbb2 hF3.h4 hg5 (by simpa [flc, Fld.cells] using ho5) (by simp)
            obtain ⟨k2, k3, j2, j3⟩ := rd_cells hR5
            refine hK _ _ (hg5.block W.heap.size (by have := hF3.F.lt; simp; omega) hF3.ne.symm) ?_
            clear hK K
            simp only [Act.put, List.setIfInBounds_toArray, List.set_cons_zero, List.set_cons_succ]
            refine wpL_takeG _ (v := ?_) (by kernel_rfl) (by kernel_rfl) (by kernel_rfl) (fun _ _ _ h => h) (by rfl) (fun u hu => ?_) ?_
            rotate_left
            focus
              go_simp
              try with_reducible rfl
            simp only [Act.put, List.setIfInBounds_toArray, List.set_cons_zero, List.set_cons_succ]
            refine wpL_takeG _ (v := ?_) (by kernel_rfl) (by kernel_rfl) (by kernel_rfl) (fun _ _ _ h => h) (by rfl) (fun u hu => ?_) ?_
            rotate_left
            focus
              go_simp
              try with_reducible rfl
            simp only [Act.put, List.setIfInBounds_toArray, List.set_cons_zero, List.set_cons_succ]
            refine wpL_doG _ (by kernel_rfl) (by rfl) (fun K hK => ?_)
            go_simp
            refine hK _ _ (heap_setCell_other _ ⟨R, 3, none⟩ _ _ (Ne.symm hne)) ?_
            clear hK K
            refine wpL_doneG _ (by kernel_rfl) ?_
            go_wp2_with fail
            go_ret
            exact ⟨rfl, (by first | exact hrd | exact fun _ => hrd), hrd.bel⟩
          · go_simp
            refine hK _ _ hkb ?_
            clear hK K
            refine wpL_doG _ (by kernel_rfl) (by rfl) (fun K hK => ?_)
            go_simp
            refine hK _ _ rfl ?_
            clear hK K
            refine wpL_doG _ (by kernel_rfl) (by rfl) (fun K hK => ?_)
            refine wp_app (.tmp 62) (.tmp 64) 51 rfl elemF rfl o2' rfl (Rd.cells W3 #[.int .i64 num, .int .i64 1, .int .u64 v, .string ⟨#[]⟩] _) rfl (by intro u hu; simp at hu; rcases hu with rfl | rfl | rfl | rfl <;> rfl) (by have := HFF.out; unfold maxLen; omega) (by have := HFF.out; omega) hbb ?_
            intro A5 c5 w5 ho5 hg5 _
            obtain ⟨hR5, hrd⟩ := Rdr.pushF (l := s.out ++ [⟨num, (1 : Nat), v, ⟨#[]⟩⟩]) hR' o1' o2' hbb2 hF3.h4 hg5 (by simpa [flc, Fld.cells] using ho5) (by simp)
            obtain ⟨k2, k3, j2, j3⟩ := rd_cells hR5
            refine hK _ _ (hg5.block W.heap.size (by have := hF3.F.lt; simp; omega) hF3.ne.symm) ?_
            clear hK K
            simp only [Act.put, List.setIfInBounds_toArray, List.set_cons_zero, List.set_cons_succ]
            refine wpL_takeG _ (v := ?_) (by kernel_rfl) (by kernel_rfl) (by kernel_rfl) (fun _ _ _ h => h) (by rfl) (fun u hu => ?_) ?_
            rotate_left
            focus
              go_simp
              try with_reducible rfl
            simp only [Act.put, List.setIfInBounds_toArray, List.set_cons_zero, List.set_cons_succ]
            refine wpL_takeG _ (v := ?_) (by kernel_rfl) (by kernel_rfl) (by kernel_rfl) (fun _ _ _ h => h) (by rfl) (fun u hu => ?_) ?_
            rotate_left
            focus
              go_simp
              try with_reducible rfl
            simp only [Act.put, List.setIfInBounds_toArray, List.set_cons_zero, List.set_cons_succ]
            refine wpL_doG _ (by kernel_rfl) (by rfl) (fun K hK => ?_)
            go_simp
            refine hK _ _ (heap_setCell_other _ ⟨R, 3, none⟩ _ _ (Ne.symm hne)) ?_
            clear hK K
            refine wpL_doneG _ (by kernel_rfl) ?_
            go_wp2_with fail
            go_ret
            exact ⟨rfl, (by first | exact hrd | exact fun _ => hrd), hrd.bel⟩
      · rw [if_neg ho] at hE
        subst hE
        rw [if_neg ho]
        have hpos : 0 < s.opn.length := by omega
        have hbo : decide (0 < s.opn.length) = true := decide_eq_true hpos
        have HO := Lib.hid ho
        clear ho
        go_enter Tryd.func82, Tryd.ntmps82
        go_wp2_with fail
        refine hcall.mono ?_
        rintro e w1 ⟨rfl, h1, hB1, hk1⟩
        have hF := hB.kp hk1 to (h1 (by first | rfl | trivial))
        have hF2 := hF.setV v
        obtain ⟨a2, a3, a4, a5, a6, a7, a8, a9, a10⟩ := hF.cells
        obtain ⟨b2, b3, b4, b5, b6, b7, b8, b9, b10⟩ := hF2.cells
        have hne := hF.ne_R
        clear hcall hA hB h1 hB1 hk1
        go_wp2_with fail
        go_ret
        exact ⟨rfl, (by first | exact hF2.rdr | exact fun _ => hF2.rdr), hF2.bel⟩
    · rw [if_neg he] at hE
      subst hE
      have hbe : ((er : Int) != 0) = true := by simp; omega
      have HE := Lib.hid he
      clear he
      go_enter Tryd.func82, Tryd.ntmps82
      go_wp2_with fail
      refine hcall.mono ?_
      rintro e w1 ⟨rfl, -, hB1, hk1⟩
      have hF : BoxF w1 W.heap.size num 1 0 ⟨#[]⟩ := (hk1.g.block W.heap.size hB.F.lt (fun e => hB.ne_R (Option.some.inj e).symm)).trans hB.F
      obtain ⟨a4, a5, a6, a7⟩ := hF.cells
      have a8 : w1.frozen? ⟨W.heap.size, 2, none⟩ = false := by simp [World.frozen?, show w1.heap[W.heap.size]? = _ from hF]
      have a9 : w1.frozen? ⟨W.heap.size, 3, none⟩ = false := by simp [World.frozen?, show w1.heap[W.heap.size]? = _ from hF]
      have hbs := hB.hB
      clear hcall hA hB hk1
      go_wp2_with fail
      all_goals go_ret
      all_goals exact ⟨rfl, fun h => absurd h HE.out, hB1.setCell (by exact hbs) _⟩
  by_cases hk5 : kind = 5
  · subst hk5
    have hcall := hwide 5 (by omega)
    have hv0 : (wval b s.at_ 5).text = emptyT := by unfold wval; simp
    obtain ⟨r, hr⟩ : ∃ r, wval b s.at_ 5 = r := ⟨_, rfl⟩
    rw [hr] at hcall hE hv0 ⊢
    obtain ⟨v, t, to, er⟩ := r
    simp only at hv0
    subst hv0
    simp only at hcall hE ⊢
    clear hnum htext hwide
    by_cases he : er = 0
    · subst he
      rw [if_pos rfl] at hE
      by_cases ho : s.opn.length = 0
      · rw [if_pos ho] at hE
        have hbo : decide ((0 : Int) < (s.opn.length : Int)) = false := decide_eq_false (by omega)
        by_cases hf : 256 ≤ s.out.length
        · rw [if_pos hf] at hE
          subst hE
          have HFF := Lib.hid hf
          have hbf : decide ((256 : Int) ≤ (s.out.length : Int)) = true := decide_eq_true (by omega)
          go_enter Tryd.func82, Tryd.ntmps82
          go_wp2_with fail
          refine hcall.mono ?_
          rintro e w1 ⟨rfl, h1, hB1, hk1⟩
          have hF := hB.kp hk1 to (h1 (by first | rfl | trivial))
          have hF2 := hF.setV v
          obtain ⟨a2, a3, a4, a5, a6, a7, a8, a9, a10⟩ := hF.cells
          obtain ⟨b2, b3, b4, b5, b6, b7, b8, b9, b10⟩ := hF2.cells
          have hne := hF.ne_R
          clear hcall hA hB h1 hB1 hk1
          go_wp2_with fail
          go_ret
          first | exact ⟨rfl, fun h => absurd h (by decide), hF2.bel⟩ | exact ⟨rfl, hF2.bel⟩
        · rw [if_neg hf] at hE
          subst hE
          rw [if_pos ho]
          have HFF := Lib.hid hf
          have hbf : decide ((256 : Int) ≤ (s.out.length : Int)) = false := decide_eq_false (by omega)
          go_enter Tryd.func82, Tryd.ntmps82
          go_wp2_with fail
          refine hcall.mono ?_
          rintro e w1 ⟨rfl, h1, hB1, hk1⟩
          have hF := hB.kp hk1 to (h1 (by first | rfl | trivial))
          have hF2 := hF.setV v
          obtain ⟨a2, a3, a4, a5, a6, a7, a8, a9, a10⟩ := hF.cells
          obtain ⟨b2, b3, b4, b5, b6, b7, b8, b9, b10⟩ := hF2.cells
          have hne := hF.ne_R
          clear hcall hA hB h1 hB1 hk1
          go_wp2_with fail
          have hF3 := hF2.drew
          refine wp_region_LG (keepB W.heap.size) 11 [0, 1, 2, 3, 5, 4, 6, 7, 8, 9, 10] rfl (by decide) (by decide) (by kernel_rfl) ?_
          generalize (w1.setCell ⟨W.heap.size, 2, none⟩ (.int .u64 v)).drew = W3 at *
          simp only [List.filterMap_cons, List.filterMap_nil, List.getElem?_cons_zero, List.getElem?_cons_succ, Option.map_some]
          have q0 : ∀ u : World, u.heap[W.heap.size]? = W3.heap[W.heap.size]? → u.cell? ⟨W.heap.size, 0, none⟩ = some (.int .i64 num) := fun u hu => by simp [World.cell?, hu.trans hF3.F]
          have q1 : ∀ u : World, u.heap[W.heap.size]? = W3.heap[W.heap.size]? → u.cell? ⟨W.heap.size, 1, none⟩ = some (.int .i64 ((5 : Nat) : Int)) := fun u hu => by simp [World.cell?, hu.trans hF3.F]
          have q2 : ∀ u : World, u.heap[W.heap.size]? = W3.heap[W.heap.size]? → u.cell? ⟨W.heap.size, 2, none⟩ = some (.int .u64 (v : Nat)) := fun u hu => by simp [World.cell?, hu.trans hF3.F]
          have q3 : ∀ u : World, u.heap[W.heap.size]? = W3.heap[W.heap.size]? → u.cell? ⟨W.heap.size, 3, none⟩ = some (.string ⟨#[]⟩) := fun u hu => by simp [World.cell?, hu.trans hF3.F]
          have x3 : W3.cell? ⟨R, 3, none⟩ = some (.slice Ax s.out.length cx) := (rd_cells hF3.hR).2.1
          have hR' := (Below.heap_alloc W3 (.cells #[.int .i64 num, .int .i64 5, .int .u64 v, .string ⟨#[]⟩] 73) R (Array.getElem?_eq_some_iff.1 hF3.hR).1).trans hF3.hR
          have x3' := (rd_cells hR').2.1
          have o1' := hF3.o1.alloc (.cells #[.int .i64 num, .int .i64 5, .int .u64 v, .string ⟨#[]⟩] 73)
          have o2' := hF3.o2.alloc (.cells #[.int .i64 num, .int .i64 5, .int .u64 v, .string ⟨#[]⟩] 73)
          have hbb2 := hF3.bel.alloc hF3.bel.size (.cells #[.int .i64 num, .int .i64 5, .int .u64 v, .string ⟨#[]⟩] 73)
          have hbb := hbb2.size
          have hkb := Below.heap_alloc W3 (.cells #[.int .i64 num, .int .i64 5, .int .u64 v, .string ⟨#[]⟩] 73) W.heap.size hF3.F.lt
          refine wpL_takeG _ (v := ?_) (by kernel_rfl) (by kernel_rfl) (by kernel_rfl) (fun _ _ _ h => h) (by rfl) (fun u hu => ?_) ?_
          rotate_left
          focus
            replace hu : u.heap[W.heap.size]? = W3.heap[W.heap.size]? := hu
            go_simp
            try with_reducible rfl
          simp only [Act.put, List.setIfInBounds_toArray, List.set_cons_zero, List.set_cons_succ]
          refine wpL_takeG _ (v := ?_) (by kernel_rfl) (by kernel_rfl) (by kernel_rfl) (fun _ _ _ h => h) (by rfl) (fun u hu => ?_) ?_
          rotate_left
          focus
            replace hu : u.heap[W.heap.size]? = W3.heap[W.heap.size]? := hu
            go_simp
            try with_reducible rfl
          simp only [Act.put, List.setIfInBounds_toArray, List.set_cons_zero, List.set_cons_succ]
          refine wpL_takeG _ (v := ?_) (by kernel_rfl) (by kernel_rfl) (by kernel_rfl) (fun _ _ _ h => h) (by rfl) (fun u hu => ?_) ?_
          rotate_left
          focus
            replace hu : u.heap[W.heap.size]? = W3.heap[W.heap.size]? := hu
            go_simp
            try with_reducible rfl
          simp only [Act.put, List.setIfInBounds_toArray, List.set_cons_zero, List.set_cons_succ]
          refine wpL_takeG _ (v := ?_) (by kernel_rfl) (by kernel_rfl) (by kernel_rfl) (fun _ _ _ h => h) (by rfl) (fun u hu => ?_) ?_
          rotate_left
          focus
            replace hu : u.heap[W.heap.size]? = W3.heap[W.heap.size]? := hu
            go_simp
            try with_reducible rfl
          simp only [Act.put, List.setIfInBounds_toArray, List.set_cons_zero, List.set_cons_succ]
          refine wpL_takeG _ (v := ?_) (by kernel_rfl) (by kernel_rfl) (by kernel_rfl) (fun _ _ _ h => h) (by rfl) (fun u hu => ?_) ?_
          rotate_left
          focus
            replace hu : u.heap[W.heap.size]? = W3.heap[W.heap.size]? := hu
            go_simp
            try with_reducible rfl
          simp only [Act.put, List.setIfInBounds_toArray, List.set_cons_zero, List.set_cons_succ]
          refine wpL_do2G _ (by kernel_rfl) (by rfl) (by rfl) (fun K hK => ?_) (fun K hK => ?_)
          · go_simp
            refine hK _ _ rfl ?_
            clear hK K
            refine wpL_doG _ (by kernel_rfl) (by rfl) (fun K hK => ?_)
            go_simp
            refine hK _ _ hkb ?_
            clear hK K
            refine wpL_doG _ (by kernel_rfl) (by rfl) (fun K hK => ?_)
            refine wp_app (.tmp 62) (.tmp 64) 51 rfl elemF rfl o2' rfl (Rd.cells W3 #[.int .i64 num, .int .i64 5, .int .u64 v, .string ⟨#[]⟩] _) rfl (by intro u hu; simp at hu; rcases hu with rfl | rfl | rfl | rfl <;> rfl) (by have := HFF.out; unfold maxLen; omega) (by have := HFF.out; omega) hbb ?_
            intro A5 c5 w5 ho5 hg5 _
            obtain ⟨hR5, hrd⟩ := Rdr.pushF (l := s.out ++ [⟨num, (5 : Nat), v, ⟨#[]⟩⟩]) hR' o1' o2' hbb2 hF3.h4 hg5 (by simpa [flc, Fld.cells] using ho5) (by simp)
            obtain ⟨k2, k3, j2, j3⟩ := rd_cells hR5
            refine hK _ _ (hg5.block W.heap.size (by have := hF3.F.lt; simp; omega) hF3.ne.symm) ?_
            clear hK K
            simp only [Act.put, List.setIfInBounds_toArray, List.set_cons_zero, List.set_cons_succ]
            refine wpL_takeG _ (v := ?_) (by kernel_rfl) (by kernel_rfl) (by kernel_rfl) (fun _ _ _ h => h) (by rfl) (fun u hu => ?_) ?_
            rotate_left
            focus
              go_simp
              try with_reducible rfl
            simp only [Act.put, List.setIfInBounds_toArray, List.set_cons_zero, List.set_cons_succ]
            refine wpL_takeG _ (v := ?_) (by kernel_rfl) (by kernel_rfl) (by kernel_rfl) (fun _ _ _ h => h) (by rfl) (fun u hu => ?_) ?_
            rotate_left
            focus
              go_simp
              try with_reducible rfl
            simp only [Act.put, List.setIfInBounds_toArray, List.set_cons_zero, List.set_cons_succ]
            refine wpL_doG _ (by kernel_rfl) (by rfl) (fun K hK => ?_)
            go_simp
            refine hK _ _ (heap_setCell_other _ ⟨R, 3, none⟩ _ _ (Ne.symm hne)) ?_
            clear hK K
            refine wpL_doneG _ (by kernel_rfl) ?_
            go_wp2_with fail
            go_ret
            exact ⟨rfl, (by first | exact hrd | exact fun _ => hrd), hrd.bel⟩
          · go_simp
            refine hK _ _ hkb ?_
            clear hK K
            refine wpL_doG _ (by kernel_rfl) (by rfl) (fun K hK => ?_)
            go_simp
            refine hK _ _ rfl ?_
            clear hK K
            refine wpL_doG _ (by kernel_rfl) (by rfl) (fun K hK => ?_)
            refine wp_app (.tmp 62) (.tmp 64) 51 rfl elemF rfl o2' rfl (Rd.cells W3 #[.int .i64 num, .int .i64 5, .int .u64 v, .string ⟨#[]⟩] _) rfl (by intro u hu; simp at hu; rcases hu with rfl | rfl | rfl | rfl <;> rfl) (by have := HFF.out; unfold maxLen; omega) (by have := HFF.out; omega) hbb ?_
            intro A5 c5 w5 ho5 hg5 _
            obtain ⟨hR5, hrd⟩ := Rdr.pushF (l := s.out ++ [⟨num, (5 : Nat), v, ⟨#[]⟩⟩]) hR' o1' o2' hbb2 hF3.h4 hg5 (by simpa [flc, Fld.cells] using ho5) (by simp)
            obtain ⟨k2, k3, j2, j3⟩ := rd_cells hR5
            refine hK _ _ (hg5.block W.heap.size (by have := hF3.F.lt; simp; omega) hF3.ne.symm) ?_
            clear hK K
            simp only [Act.put, List.setIfInBounds_toArray, List.set_cons_zero, List.set_cons_succ]
            refine wpL_takeG _ (v := ?_) (by kernel_rfl) (by kernel_rfl) (by kernel_rfl) (fun _ _ _ h => h) (by rfl) (fun u hu => ?_) ?_
            rotate_left
            focus
              go_simp
              try with_reducible rfl
            simp only [Act.put, List.setIfInBounds_toArray, List.set_cons_zero, List.set_cons_succ]
            refine wpL_takeG _ (v := ?_) (by kernel_rfl) (by kernel_rfl) (by kernel_rfl) (fun _ _ _ h => h) (by rfl) (fun u hu => ?_) ?_
            rotate_left
            focus
              go_simp
              try with_reducible rfl
            simp only [Act.put, List.setIfInBounds_toArray, List.set_cons_zero, List.set_cons_succ]
            refine wpL_doG _ (by kernel_rfl) (by rfl) (fun K hK => ?_)
            go_simp
            refine hK _ _ (heap_setCell_other _ ⟨R, 3, none⟩ _ _ (Ne.symm hne)) ?_
            clear hK K
            refine wpL_doneG _ (by kernel_rfl) ?_
            go_wp2_with fail
            go_ret
            exact ⟨rfl, (by first | exact hrd | exact fun _ => hrd), hrd.bel⟩
      · rw [if_neg ho] at hE
        subst hE
        rw [if_neg ho]
        have hpos : 0 < s.opn.length := by omega
        have hbo : decide (0 < s.opn.length) = true := decide_eq_true hpos
        have HO := Lib.hid ho
        clear ho
        go_enter Tryd.func82, Tryd.ntmps82
        go_wp2_with fail
        refine hcall.mono ?_
        rintro e w1 ⟨rfl, h1, hB1, hk1⟩
        have hF := hB.kp hk1 to (h1 (by first | rfl | trivial))
        have hF2 := hF.setV v
        obtain ⟨a2, a3, a4, a5, a6, a7, a8, a9, a10⟩ := hF.cells
        obtain ⟨b2, b3, b4, b5, b6, b7, b8, b9, b10⟩ := hF2.cells
        have hne := hF.ne_R
        clear hcall hA hB h1 hB1 hk1
        go_wp2_with fail
        go_ret
        exact ⟨rfl, (by first | exact hF2.rdr | exact fun _ => hF2.rdr), hF2.bel⟩
    · rw [if_neg he] at hE
      subst hE
      have hbe : ((er : Int) != 0) = true := by simp; omega
      have HE := Lib.hid he
      clear he
      go_enter Tryd.func82, Tryd.ntmps82
      go_wp2_with fail
      refine hcall.mono ?_
      rintro e w1 ⟨rfl, -, hB1, hk1⟩
      have hF : BoxF w1 W.heap.size num 5 0 ⟨#[]⟩ := (hk1.g.block W.heap.size hB.F.lt (fun e => hB.ne_R (Option.some.inj e).symm)).trans hB.F
      obtain ⟨a4, a5, a6, a7⟩ := hF.cells
      have a8 : w1.frozen? ⟨W.heap.size, 2, none⟩ = false := by simp [World.frozen?, show w1.heap[W.heap.size]? = _ from hF]
      have a9 : w1.frozen? ⟨W.heap.size, 3, none⟩ = false := by simp [World.frozen?, show w1.heap[W.heap.size]? = _ from hF]
      have hbs := hB.hB
      clear hcall hA hB hk1
      go_wp2_with fail
      all_goals go_ret
      all_goals exact ⟨rfl, fun h => absurd h HE.out, hB1.setCell (by exact hbs) _⟩
  have hw : wval b s.at_ kind = ⟨0, emptyT, 0, 11⟩ := by unfold wval; rw [if_neg hk0, if_neg hk1, if_neg hk5, if_neg hk2]
  rw [hw] at hE ⊢
  simp only at hE ⊢
  rw [if_neg (by decide)] at hE
  subst hE
  have q0 : ((kind : Int) == 0) = false := by simp; omega
  have q2 : ((kind : Int) == 2) = false := by simp; omega
  have q1 : ((kind : Int) == 1) = false := by simp; omega
  have q5 : ((kind : Int) == 5) = false := by simp; omega
  have hbl := hB.bel
  clear hk0 hk2 hk1 hk5 hw hnum htext hwide hA
  go_enter Tryd.func82, Tryd.ntmps82
  go_wp2_with fail
  all_goals go_ret
  all_goals first | exact ⟨rfl, fun h => absurd h (by decide), hbl⟩ | exact ⟨rfl, hbl⟩
end
end Go.Proofs.YtlgokfgbcohioaaDoor
