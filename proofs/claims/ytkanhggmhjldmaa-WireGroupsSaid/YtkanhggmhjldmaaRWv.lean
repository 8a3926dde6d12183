/- WALK: the reference's value of layer 3 -/
import Derived.Test.YtkanhggmhjldmaaWRt
import Derived.Laws.ResultCell
namespace Go.Proofs.Ytkanhggmhjldmaa
open Go.RowKit Plain

theorem results_cell_tmp2 {fn : Func} {p u v : Tmp} {ty : TypeId} (h : fn.results = #[.cell p ty, .tmp u, .tmp v]) (tmps : Array Value) (P : Program) (w : World) :
    (results fn tmps).run P w = ((asAddr (tmps.getD p undef)).run P w).andThen fun a w₁ => ((loadVar ty a).run P w₁).andThen fun x w₂ => .ok (.tuple #[x, tmps.getD u undef, tmps.getD v undef]) w₂ := by
  simp only [results, h]
  simp [Sem.run_bind, Result.andThen]
theorem bel2 (w : World) (x y : Obj) : Below w.heap.size w ((w.alloc x).alloc y) := ((Below.refl _ w).alloc (Nat.le_refl _) _).alloc (by simp) _
theorem rd2 {w : World} {B : Nat} {A : Option Addr} {xs : List Value} (hr : Rd w B A xs) (hB : B ≤ w.heap.size) (x y : Obj) : Rd ((w.alloc x).alloc y) B A xs := (hr.alloc hB x).alloc (by simp; omega) y
theorem sub_facts {n to v c K T bl : Nat} (hn : bl = n) (hnc : n ≤ c) (hl : bl ≤ 1000000) (t2 : to ≤ bl) (hlong : ¬ bl - to < v) (hT : to + v = T) (hK : n - to = K) :
    v ≤ 140737488355328 ∧ T ≤ 140737488355328 ∧ to ≤ T ∧ T ≤ c ∧ T - to = v ∧ (T : Int) = (to : Int) + (v : Int) ∧ (to : Int) ≤ T ∧ (T : Int) ≤ c ∧ ¬ K < v := by
  refine ⟨?_, ?_, ?_, ?_, ?_, ?_, ?_, ?_, ?_⟩ <;> omega
theorem sub_min {to v bl : Nat} (hlong : ¬ bl - to < v) : min v (bl - to) = v := by omega
set_option maxRecDepth 100000 in
set_option maxHeartbeats 2000000 in
theorem rvalue_any (b : List UInt8) (A : Option Addr) (n c : Nat) (hn : b.length = n) (hnc : n ≤ c) (hl : b.length ≤ 1000000) (p num kind : Nat) (B : Nat) (w : World) (hB : B ≤ w.heap.size) (hr : Rd w B A (bcl b)) :
    Calls Try.prog 41 #[.slice A n c, .int .i64 p, .int .i64 num, .int .i64 kind] w fun e w' =>
      e = .returned (.tuple #[.agg #[.int .i64 num, .int .i64 kind, .int .u64 (wval b p kind).val, .string (wval b p kind).text], .int .i64 (wval b p kind).to, .int .i64 (wval b p kind).err]) ∧ Below w.heap.size w w' := by
  by_cases hk0 : kind = 0
  · subst hk0
    have hw : wval b p 0 = ⟨(vget b p).1, emptyT, (vget b p).2.1, (vget b p).2.2⟩ := by unfold wval; rw [if_pos rfl]
    rw [hw]
    have hcall := fun (x y : Obj) => rvget_any A n c b hn (by omega) p B ((w.alloc x).alloc y) (rd2 hr hB x y)
    obtain ⟨r, hrr⟩ : ∃ r, vget b p = r := ⟨_, rfl⟩
    rw [hrr] at hcall ⊢
    obtain ⟨v, to, er⟩ := r
    simp only at hcall ⊢
    clear hrr hw hr
    go_enter Try.func41, Try.ntmps41
    go_wp2_with fail
    refine (hcall _ _).mono ?_
    rintro e w1 ⟨rfl, rfl⟩
    clear hcall
    go_wp2_with fail
    (try simp only [Exit.inBlock, Exit.then])
    refine bodyPost_ret (v := .tuple #[.agg #[.int .i64 num, .int .i64 0, .int .u64 v, .string ⟨#[]⟩], .int .i64 to, .int .i64 er]) ?_ rfl ⟨rfl, bel2 _ _ _⟩
    rw [results_cell_tmp2 rfl]
    go_simp
  by_cases hk1 : kind = 1
  · subst hk1
    have hw : wval b p 1 = ⟨(fget 8 b p).1, emptyT, (fget 8 b p).2.1, (fget 8 b p).2.2⟩ := by unfold wval; rw [if_neg (by omega), if_pos rfl]
    rw [hw]
    have hcall := fun (x y : Obj) => rget8_any A n c b hn (by omega) p B ((w.alloc x).alloc y) (rd2 hr hB x y)
    obtain ⟨r, hrr⟩ : ∃ r, fget 8 b p = r := ⟨_, rfl⟩
    rw [hrr] at hcall ⊢
    obtain ⟨v, to, er⟩ := r
    simp only at hcall ⊢
    clear hrr hw hr
    go_enter Try.func41, Try.ntmps41
    go_wp2_with fail
    refine (hcall _ _).mono ?_
    rintro e w1 ⟨rfl, rfl⟩
    clear hcall
    go_wp2_with fail
    (try simp only [Exit.inBlock, Exit.then])
    refine bodyPost_ret (v := .tuple #[.agg #[.int .i64 num, .int .i64 1, .int .u64 v, .string ⟨#[]⟩], .int .i64 to, .int .i64 er]) ?_ rfl ⟨rfl, bel2 _ _ _⟩
    rw [results_cell_tmp2 rfl]
    go_simp
  by_cases hk5 : kind = 5
  · subst hk5
    have hw : wval b p 5 = ⟨(fget 4 b p).1, emptyT, (fget 4 b p).2.1, (fget 4 b p).2.2⟩ := by unfold wval; rw [if_neg (by omega), if_neg (by omega), if_pos rfl]
    rw [hw]
    have hcall := fun (x y : Obj) => rget4_any A n c b hn (by omega) p B ((w.alloc x).alloc y) (rd2 hr hB x y)
    have hvw : IntKind.u64.wrap ((fget 4 b p).1 : Int) = ((fget 4 b p).1 : Int) := wrap_u64 _ (by have := fget_lt b p; omega)
    obtain ⟨r, hrr⟩ : ∃ r, fget 4 b p = r := ⟨_, rfl⟩
    rw [hrr] at hcall hvw ⊢
    obtain ⟨v, to, er⟩ := r
    simp only at hcall hvw ⊢
    clear hrr hw hr
    go_enter Try.func41, Try.ntmps41
    go_wp2_with fail
    refine (hcall _ _).mono ?_
    rintro e w1 ⟨rfl, rfl⟩
    clear hcall
    go_wp2_with fail
    (try simp only [Exit.inBlock, Exit.then])
    refine bodyPost_ret (v := .tuple #[.agg #[.int .i64 num, .int .i64 5, .int .u64 v, .string ⟨#[]⟩], .int .i64 to, .int .i64 er]) ?_ rfl ⟨rfl, bel2 _ _ _⟩
    rw [results_cell_tmp2 rfl]
    go_simp
  by_cases hk2 : kind = 2
  · subst hk2
    have hto := @vget_to b p
    have hvl := vget_lt b p
    rw [wval2]
    have hcall := fun (x y : Obj) => rvget_any A n c b hn (by omega) p B ((w.alloc x).alloc y) (rd2 hr hB x y)
    obtain ⟨r, hrr⟩ : ∃ r, vget b p = r := ⟨_, rfl⟩
    rw [hrr] at hcall hto hvl ⊢
    obtain ⟨v, to, er⟩ := r
    simp only at hcall hto hvl ⊢
    clear hrr
    by_cases he : er = 0
    · subst he
      obtain ⟨t1, t2, _⟩ := hto rfl
      rw [if_pos rfl]
      obtain ⟨K, hK⟩ : ∃ K, n - to = K := ⟨_, rfl⟩
      have hs1 : IntKind.i64.wrap ((n : Int) - (to : Int)) = (K : Int) := by rw [show (n : Int) - (to : Int) = ((K : Nat) : Int) by omega]; exact wrap_small _ (by omega)
      have hs2 : IntKind.u64.wrap (K : Int) = (K : Int) := wrap_u64 _ (by omega)
      by_cases hlong : b.length - to < v
      · rw [if_pos hlong]
        have hdec : decide (K < v) = true := decide_eq_true (by omega)
        clear hlong hvl hto t1 t2 hK hr
        go_enter Try.func41, Try.ntmps41
        go_wp2_with fail
        refine (hcall _ _).mono ?_
        rintro e w1 ⟨rfl, rfl⟩
        clear hcall
        go_wp2_with fail
        (try simp only [Exit.inBlock, Exit.then])
        refine bodyPost_ret (v := .tuple #[.agg #[.int .i64 num, .int .i64 2, .int .u64 0, .string ⟨#[]⟩], .int .i64 0, .int .i64 2]) ?_ rfl ⟨rfl, bel2 _ _ _⟩
        rw [results_cell_tmp2 rfl]
        go_simp
      · rw [if_neg hlong]
        simp only
        obtain ⟨T, hT⟩ : ∃ T, to + v = T := ⟨_, rfl⟩
        rw [hT]
        obtain ⟨u1, u2, hle2, hle4, hlen, u3, hle1, hle3, u4⟩ := sub_facts hn hnc hl t2 hlong hT hK
        have hdec : decide (K < v) = false := decide_eq_false u4
        have hw1 : wrap64 (v : Int) = (v : Int) := wrap_s v u1
        have hw2 : wrap64 ((to : Int) + (v : Int)) = (T : Int) := u3 ▸ wrap_s T u2
        have htl : (bcl b).length ≤ c * 1 := by simp [bcl]; rw [hn]; exact hnc
        have hvl2 : ((b.drop to).take v).length = v := by rw [List.length_take, List.length_drop]; exact sub_min hlong
        obtain ⟨W2, hW2⟩ : ∃ W2, (w.alloc (Obj.cells #[.int .i64 0, .int .i64 0, .int .u64 0, .string ⟨#[]⟩] 49)).alloc (Obj.cells #[.int .i64 num, .int .i64 2, .int .u64 0, .string ⟨#[]⟩] 49) = W2 := ⟨_, rfl⟩
        have hrr := rd2 hr hB (Obj.cells #[.int .i64 0, .int .i64 0, .int .u64 0, .string ⟨#[]⟩] 49) (Obj.cells #[.int .i64 num, .int .i64 2, .int .u64 0, .string ⟨#[]⟩] 49)
        have hbl := bel2 w (Obj.cells #[.int .i64 0, .int .i64 0, .int .u64 0, .string ⟨#[]⟩] 49) (Obj.cells #[.int .i64 num, .int .i64 2, .int .u64 0, .string ⟨#[]⟩] 49)
        have hF : W2.heap[w.heap.size + 1]? = some (.cells #[.int .i64 num, .int .i64 2, .int .u64 0, .string ⟨#[]⟩] 49 (0, 0)) := by
          rw [← hW2]
          have := World.alloc_heap_new (w.alloc (Obj.cells #[.int .i64 0, .int .i64 0, .int .u64 0, .string ⟨#[]⟩] 49)) (Obj.cells #[.int .i64 num, .int .i64 2, .int .u64 0, .string ⟨#[]⟩] 49)
          rwa [World.size_alloc] at this
        have hG : W2.heap[w.heap.size]? = some (.cells #[.int .i64 0, .int .i64 0, .int .u64 0, .string ⟨#[]⟩] 49 (0, 0)) := by
          rw [← hW2, Below.heap_alloc _ _ _ (by simp)]
          exact World.alloc_heap_new w _
        rw [hW2] at hrr hbl
        have hcall2 := hcall (Obj.cells #[.int .i64 0, .int .i64 0, .int .u64 0, .string ⟨#[]⟩] 49) (Obj.cells #[.int .i64 num, .int .i64 2, .int .u64 0, .string ⟨#[]⟩] 49)
        rw [hW2] at hcall2
        have hcv : (convert 25 9 (.slice (if c = to then A else A.map (·.add to)) v (c - to))).run Try.prog W2 = .ok (.string ⟨((b.drop to).take v).toArray⟩) W2 := by
          have h := (hrr.drop (k := to) (cap := c) (size := 1) htl).take v
          rw [show ((bcl b).drop (to * 1)).take v = bcl ((b.drop to).take v) by simp [bcl, List.map_drop, List.map_take]] at h
          simp only [Nat.mul_one] at h
          exact strB2 h hvl2 _
        have HW2 := Lib.hid hW2
        obtain ⟨S, hS⟩ : ∃ S : ByteArray, (⟨((b.drop to).take v).toArray⟩ : ByteArray) = S := ⟨_, rfl⟩
        rw [hS] at hcv ⊢
        clear hlong hvl hto t1 t2 hK hr hT hrr hcall hW2 hS htl hvl2 u1 u2 u3 u4
        go_enter Try.func41, Try.ntmps41
        go_wp2_with fail
        rw [HW2.out]
        refine hcall2.mono ?_
        rintro e w1 ⟨rfl, rfl⟩
        clear hcall2
        obtain ⟨f0, f1, f2, f3⟩ := BoxF.cells (show BoxF W2 (w.heap.size + 1) num 2 0 ⟨#[]⟩ from hF)
        obtain ⟨g0, g1, g2, g3⟩ := BoxF.cells (show BoxF W2 w.heap.size 0 0 0 ⟨#[]⟩ from hG)
        have z3 : W2.frozen? ⟨w.heap.size + 1, 3, none⟩ = false := by simp [World.frozen?, hF]
        have y0 : W2.frozen? ⟨w.heap.size, 0, none⟩ = false := by simp [World.frozen?, hG]
        have y1 : W2.frozen? ⟨w.heap.size, 1, none⟩ = false := by simp [World.frozen?, hG]
        have y2 : W2.frozen? ⟨w.heap.size, 2, none⟩ = false := by simp [World.frozen?, hG]
        have y3 : W2.frozen? ⟨w.heap.size, 3, none⟩ = false := by simp [World.frozen?, hG]
        clear hF hG
        go_wp2_with fail
        all_goals (try simp only [Exit.inBlock, Exit.then])
        all_goals refine bodyPost_ret (v := .tuple #[.agg #[.int .i64 num, .int .i64 2, .int .u64 0, .string S], .int .i64 T, .int .i64 0]) ?_ rfl ⟨rfl, ?_⟩
        all_goals first
          | (rw [results_cell_tmp2 rfl]; go_simp; done)
          | exact ((((hbl.setCell (p := ⟨w.heap.size + 1, 3, none⟩) (Nat.le_succ _) _).setCell (p := ⟨w.heap.size, 0, none⟩) (Nat.le_refl _) _).setCell (p := ⟨w.heap.size, 1, none⟩) (Nat.le_refl _) _).setCell (p := ⟨w.heap.size, 2, none⟩) (Nat.le_refl _) _).setCell (p := ⟨w.heap.size, 3, none⟩) (Nat.le_refl _) _
    · rw [if_neg he]
      have hbe : ((er : Int) != 0) = true := by simp; omega
      clear he hto hvl hr
      go_enter Try.func41, Try.ntmps41
      go_wp2_with fail
      refine (hcall _ _).mono ?_
      rintro e w1 ⟨rfl, rfl⟩
      clear hcall
      go_wp2_with fail
      (try simp only [Exit.inBlock, Exit.then])
      refine bodyPost_ret (v := .tuple #[.agg #[.int .i64 num, .int .i64 2, .int .u64 0, .string ⟨#[]⟩], .int .i64 0, .int .i64 er]) ?_ rfl ⟨rfl, bel2 _ _ _⟩
      rw [results_cell_tmp2 rfl]
      go_simp
  have hw : wval b p kind = ⟨0, emptyT, 0, 11⟩ := by unfold wval; rw [if_neg hk0, if_neg hk1, if_neg hk5, if_neg hk2]
  rw [hw]
  have q0 : ((kind : Int) == 0) = false := by simp; omega
  have q2 : ((kind : Int) == 2) = false := by simp; omega
  have q1 : ((kind : Int) == 1) = false := by simp; omega
  have q5 : ((kind : Int) == 5) = false := by simp; omega
  clear hk0 hk2 hk1 hk5 hw hr
  go_enter Try.func41, Try.ntmps41
  go_wp2_with fail
  (try simp only [Exit.inBlock, Exit.then])
  refine bodyPost_ret (v := .tuple #[.agg #[.int .i64 num, .int .i64 kind, .int .u64 0, .string ⟨#[]⟩], .int .i64 0, .int .i64 11]) ?_ rfl ⟨rfl, bel2 _ _ _⟩
  rw [results_cell_tmp2 rfl]
  go_simp
end Go.Proofs.Ytkanhggmhjldmaa
