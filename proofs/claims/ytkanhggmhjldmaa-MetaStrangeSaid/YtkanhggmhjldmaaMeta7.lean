/- Several texts in one: words, plain laws and walks that the statement's proof imports. -/
import Derived.Test.YtkanhggmhjldmaaMeta4
import Derived.Laws.ResultCell
import Derived.Test.YtkanhggmhjldmaaMeta5
import Derived.Test.YtkanhggmhjldmaaMeta6
import Derived.Test.YtkanhggmhjldmaaMeta2
import Derived.Test.YtkanhggmhjldmaaMeta1
import Derived.ProofKit
import Derived.OpenShut
import Derived.ShutString
import Derived.ChangeOld
import Derived.Below
import Derived.JoinedCond
import Derived.SizedLaws
/- WALK: the reference's value of layer 3 -/
namespace Go.Proofs.Ytkanhggmhjldmaa
open Go.RowKit Plain

theorem results_cell_tmp2 {fn : Func} {p u v : Tmp} {ty : TypeId} (h : fn.results = #[.cell p ty, .tmp u, .tmp v]) (tmps : Array Value) (P : Program) (w : World) :
    (results fn tmps).run P w = ((asAddr (tmps.getD p undef)).run P w).andThen fun a w₁ => ((loadVar ty a).run P w₁).andThen fun x w₂ => .ok (.tuple #[x, tmps.getD u undef, tmps.getD v undef]) w₂ := by
  simp only [results, h]
  simp [Sem.run_bind, Result.andThen]
theorem bel2 (w : World) (x y : Obj) : Below w.heap.size w ((w.alloc x).alloc y) := ((Below.refl _ w).alloc (Nat.le_refl _) _).alloc (by simp) _
theorem rd2 {w : World} {B : Nat} {A : Option Addr} {xs : List Value} (hr : Rd w B A xs) (hB : B ≤ w.heap.size) (x y : Obj) : Rd ((w.alloc x).alloc y) B A xs := (hr.alloc hB x).alloc (by simp; omega) y
theorem sub_facts {n to v c K T bl : Nat} (hn : bl = n) (hnc : n ≤ c) (hl : bl ≤ 1000000) (t2 : to ≤ bl) (hlong : ¬ bl - to < v) (hT : to + v = T) (hK : n - to = K) :
    v ≤ 140737488355328 ∧ T ≤ 140737488355328 ∧ to ≤ T ∧ T ≤ c ∧ T - to = v ∧ (T : Int) = (to : Int) + (v : Int) ∧ (to : Int) ≤ T ∧ (T : Int) ≤ c ∧ ¬ K < v := by
  refine ⟨?_, ?_, ?_, ?_, ?_, ?_, ?_, ?_, ?_⟩ <;> omega
theorem sub_min {to v bl : Nat} (hlong : ¬ bl - to < v) : min v (bl - to) = v := by omega
set_option maxRecDepth 100000 in
set_option maxHeartbeats 2000000 in
theorem rvalue_any (b : List UInt8) (A : Option Addr) (n c : Nat) (hn : b.length = n) (hnc : n ≤ c) (hl : b.length ≤ 1000000) (p num kind : Nat) (B : Nat) (w : World) (hB : B ≤ w.heap.size) (hr : Rd w B A (bcl b)) :
    Calls Try.prog 41 #[.slice A n c, .int .i64 p, .int .i64 num, .int .i64 kind] w fun e w' =>
      e = .returned (.tuple #[.agg #[.int .i64 num, .int .i64 kind, .int .u64 (wval b p kind).val, .string (wval b p kind).text], .int .i64 (wval b p kind).to, .int .i64 (wval b p kind).err]) ∧ Below w.heap.size w w' := by
  by_cases hk0 : kind = 0
  · subst hk0
    have hw : wval b p 0 = ⟨(vget b p).1, emptyT, (vget b p).2.1, (vget b p).2.2⟩ := by unfold wval; rw [if_pos rfl]
    rw [hw]
    have hcall := fun (x y : Obj) => rvget_any A n c b hn (by omega) p B ((w.alloc x).alloc y) (rd2 hr hB x y)
    obtain ⟨r, hrr⟩ : ∃ r, vget b p = r := ⟨_, rfl⟩
    rw [hrr] at hcall ⊢
    obtain ⟨v, to, er⟩ := r
    simp only at hcall ⊢
    clear hrr hw hr
    go_enter Try.func41, Try.ntmps41
    go_wp2_with fail
    refine (hcall _ _).mono ?_
    rintro e w1 ⟨rfl, rfl⟩
    clear hcall
    go_wp2_with fail
    (try simp only [Exit.inBlock, Exit.then])
    refine bodyPost_ret (v := .tuple #[.agg #[.int .i64 num, .int .i64 0, .int .u64 v, .string ⟨#[]⟩], .int .i64 to, .int .i64 er]) ?_ rfl ⟨rfl, bel2 _ _ _⟩
    rw [results_cell_tmp2 rfl]
    go_simp
  by_cases hk1 : kind = 1
  · subst hk1
    have hw : wval b p 1 = ⟨(fget 8 b p).1, emptyT, (fget 8 b p).2.1, (fget 8 b p).2.2⟩ := by unfold wval; rw [if_neg (by omega), if_pos rfl]
    rw [hw]
    have hcall := fun (x y : Obj) => rget8_any A n c b hn (by omega) p B ((w.alloc x).alloc y) (rd2 hr hB x y)
    obtain ⟨r, hrr⟩ : ∃ r, fget 8 b p = r := ⟨_, rfl⟩
    rw [hrr] at hcall ⊢
    obtain ⟨v, to, er⟩ := r
    simp only at hcall ⊢
    clear hrr hw hr
    go_enter Try.func41, Try.ntmps41
    go_wp2_with fail
    refine (hcall _ _).mono ?_
    rintro e w1 ⟨rfl, rfl⟩
    clear hcall
    go_wp2_with fail
    (try simp only [Exit.inBlock, Exit.then])
    refine bodyPost_ret (v := .tuple #[.agg #[.int .i64 num, .int .i64 1, .int .u64 v, .string ⟨#[]⟩], .int .i64 to, .int .i64 er]) ?_ rfl ⟨rfl, bel2 _ _ _⟩
    rw [results_cell_tmp2 rfl]
    go_simp
  by_cases hk5 : kind = 5
  · subst hk5
    have hw : wval b p 5 = ⟨(fget 4 b p).1, emptyT, (fget 4 b p).2.1, (fget 4 b p).2.2⟩ := by unfold wval; rw [if_neg (by omega), if_neg (by omega), if_pos rfl]
    rw [hw]
    have hcall := fun (x y : Obj) => rget4_any A n c b hn (by omega) p B ((w.alloc x).alloc y) (rd2 hr hB x y)
    have hvw : IntKind.u64.wrap ((fget 4 b p).1 : Int) = ((fget 4 b p).1 : Int) := wrap_u64 _ (by have := fget_lt b p; omega)
    obtain ⟨r, hrr⟩ : ∃ r, fget 4 b p = r := ⟨_, rfl⟩
    rw [hrr] at hcall hvw ⊢
    obtain ⟨v, to, er⟩ := r
    simp only at hcall hvw ⊢
    clear hrr hw hr
    go_enter Try.func41, Try.ntmps41
    go_wp2_with fail
    refine (hcall _ _).mono ?_
    rintro e w1 ⟨rfl, rfl⟩
    clear hcall
    go_wp2_with fail
    (try simp only [Exit.inBlock, Exit.then])
    refine bodyPost_ret (v := .tuple #[.agg #[.int .i64 num, .int .i64 5, .int .u64 v, .string ⟨#[]⟩], .int .i64 to, .int .i64 er]) ?_ rfl ⟨rfl, bel2 _ _ _⟩
    rw [results_cell_tmp2 rfl]
    go_simp
  by_cases hk2 : kind = 2
  · subst hk2
    have hto := @vget_to b p
    have hvl := vget_lt b p
    rw [wval2]
    have hcall := fun (x y : Obj) => rvget_any A n c b hn (by omega) p B ((w.alloc x).alloc y) (rd2 hr hB x y)
    obtain ⟨r, hrr⟩ : ∃ r, vget b p = r := ⟨_, rfl⟩
    rw [hrr] at hcall hto hvl ⊢
    obtain ⟨v, to, er⟩ := r
    simp only at hcall hto hvl ⊢
    clear hrr
    by_cases he : er = 0
    · subst he
      obtain ⟨t1, t2, _⟩ := hto rfl
      rw [if_pos rfl]
      obtain ⟨K, hK⟩ : ∃ K, n - to = K := ⟨_, rfl⟩
      have hs1 : IntKind.i64.wrap ((n : Int) - (to : Int)) = (K : Int) := by rw [show (n : Int) - (to : Int) = ((K : Nat) : Int) by omega]; exact wrap_small _ (by omega)
      have hs2 : IntKind.u64.wrap (K : Int) = (K : Int) := wrap_u64 _ (by omega)
      by_cases hlong : b.length - to < v
      · rw [if_pos hlong]
        have hdec : decide (K < v) = true := decide_eq_true (by omega)
        clear hlong hvl hto t1 t2 hK hr
        go_enter Try.func41, Try.ntmps41
        go_wp2_with fail
        refine (hcall _ _).mono ?_
        rintro e w1 ⟨rfl, rfl⟩
        clear hcall
        go_wp2_with fail
        (try simp only [Exit.inBlock, Exit.then])
        refine bodyPost_ret (v := .tuple #[.agg #[.int .i64 num, .int .i64 2, .int .u64 0, .string ⟨#[]⟩], .int .i64 0, .int .i64 2]) ?_ rfl ⟨rfl, bel2 _ _ _⟩
        rw [results_cell_tmp2 rfl]
        go_simp
      · rw [if_neg hlong]
        simp only
        obtain ⟨T, hT⟩ : ∃ T, to + v = T := ⟨_, rfl⟩
        rw [hT]
        obtain ⟨u1, u2, hle2, hle4, hlen, u3, hle1, hle3, u4⟩ := sub_facts hn hnc hl t2 hlong hT hK
        have hdec : decide (K < v) = false := decide_eq_false u4
        have hw1 : wrap64 (v : Int) = (v : Int) := wrap_s v u1
        have hw2 : wrap64 ((to : Int) + (v : Int)) = (T : Int) := u3 ▸ wrap_s T u2
        have htl : (bcl b).length ≤ c * 1 := by simp [bcl]; rw [hn]; exact hnc
        have hvl2 : ((b.drop to).take v).length = v := by rw [List.length_take, List.length_drop]; exact sub_min hlong
        obtain ⟨W2, hW2⟩ : ∃ W2, (w.alloc (Obj.cells #[.int .i64 0, .int .i64 0, .int .u64 0, .string ⟨#[]⟩] 49)).alloc (Obj.cells #[.int .i64 num, .int .i64 2, .int .u64 0, .string ⟨#[]⟩] 49) = W2 := ⟨_, rfl⟩
        have hrr := rd2 hr hB (Obj.cells #[.int .i64 0, .int .i64 0, .int .u64 0, .string ⟨#[]⟩] 49) (Obj.cells #[.int .i64 num, .int .i64 2, .int .u64 0, .string ⟨#[]⟩] 49)
        have hbl := bel2 w (Obj.cells #[.int .i64 0, .int .i64 0, .int .u64 0, .string ⟨#[]⟩] 49) (Obj.cells #[.int .i64 num, .int .i64 2, .int .u64 0, .string ⟨#[]⟩] 49)
        have hF : W2.heap[w.heap.size + 1]? = some (.cells #[.int .i64 num, .int .i64 2, .int .u64 0, .string ⟨#[]⟩] 49 (0, 0)) := by
          rw [← hW2]
          have := World.alloc_heap_new (w.alloc (Obj.cells #[.int .i64 0, .int .i64 0, .int .u64 0, .string ⟨#[]⟩] 49)) (Obj.cells #[.int .i64 num, .int .i64 2, .int .u64 0, .string ⟨#[]⟩] 49)
          rwa [World.size_alloc] at this
        have hG : W2.heap[w.heap.size]? = some (.cells #[.int .i64 0, .int .i64 0, .int .u64 0, .string ⟨#[]⟩] 49 (0, 0)) := by
          rw [← hW2, Below.heap_alloc _ _ _ (by simp)]
          exact World.alloc_heap_new w _
        rw [hW2] at hrr hbl
        have hcall2 := hcall (Obj.cells #[.int .i64 0, .int .i64 0, .int .u64 0, .string ⟨#[]⟩] 49) (Obj.cells #[.int .i64 num, .int .i64 2, .int .u64 0, .string ⟨#[]⟩] 49)
        rw [hW2] at hcall2
        have hcv : (convert 25 9 (.slice (if c = to then A else A.map (·.add to)) v (c - to))).run Try.prog W2 = .ok (.string ⟨((b.drop to).take v).toArray⟩) W2 := by
          have h := (hrr.drop (k := to) (cap := c) (size := 1) htl).take v
          rw [show ((bcl b).drop (to * 1)).take v = bcl ((b.drop to).take v) by simp [bcl, List.map_drop, List.map_take]] at h
          simp only [Nat.mul_one] at h
          exact strB2 h hvl2 _
        have HW2 := Lib.hid hW2
        obtain ⟨S, hS⟩ : ∃ S : ByteArray, (⟨((b.drop to).take v).toArray⟩ : ByteArray) = S := ⟨_, rfl⟩
        rw [hS] at hcv ⊢
        clear hlong hvl hto t1 t2 hK hr hT hrr hcall hW2 hS htl hvl2 u1 u2 u3 u4
        go_enter Try.func41, Try.ntmps41
        go_wp2_with fail
        rw [HW2.out]
        refine hcall2.mono ?_
        rintro e w1 ⟨rfl, rfl⟩
        clear hcall2
        obtain ⟨f0, f1, f2, f3⟩ := BoxF.cells (show BoxF W2 (w.heap.size + 1) num 2 0 ⟨#[]⟩ from hF)
        obtain ⟨g0, g1, g2, g3⟩ := BoxF.cells (show BoxF W2 w.heap.size 0 0 0 ⟨#[]⟩ from hG)
        have z3 : W2.frozen? ⟨w.heap.size + 1, 3, none⟩ = false := by simp [World.frozen?, hF]
        have y0 : W2.frozen? ⟨w.heap.size, 0, none⟩ = false := by simp [World.frozen?, hG]
        have y1 : W2.frozen? ⟨w.heap.size, 1, none⟩ = false := by simp [World.frozen?, hG]
        have y2 : W2.frozen? ⟨w.heap.size, 2, none⟩ = false := by simp [World.frozen?, hG]
        have y3 : W2.frozen? ⟨w.heap.size, 3, none⟩ = false := by simp [World.frozen?, hG]
        clear hF hG
        go_wp2_with fail
        all_goals (try simp only [Exit.inBlock, Exit.then])
        all_goals refine bodyPost_ret (v := .tuple #[.agg #[.int .i64 num, .int .i64 2, .int .u64 0, .string S], .int .i64 T, .int .i64 0]) ?_ rfl ⟨rfl, ?_⟩
        all_goals first
          | (rw [results_cell_tmp2 rfl]; go_simp; done)
          | exact ((((hbl.setCell (p := ⟨w.heap.size + 1, 3, none⟩) (Nat.le_succ _) _).setCell (p := ⟨w.heap.size, 0, none⟩) (Nat.le_refl _) _).setCell (p := ⟨w.heap.size, 1, none⟩) (Nat.le_refl _) _).setCell (p := ⟨w.heap.size, 2, none⟩) (Nat.le_refl _) _).setCell (p := ⟨w.heap.size, 3, none⟩) (Nat.le_refl _) _
    · rw [if_neg he]
      have hbe : ((er : Int) != 0) = true := by simp; omega
      clear he hto hvl hr
      go_enter Try.func41, Try.ntmps41
      go_wp2_with fail
      refine (hcall _ _).mono ?_
      rintro e w1 ⟨rfl, rfl⟩
      clear hcall
      go_wp2_with fail
      (try simp only [Exit.inBlock, Exit.then])
      refine bodyPost_ret (v := .tuple #[.agg #[.int .i64 num, .int .i64 2, .int .u64 0, .string ⟨#[]⟩], .int .i64 0, .int .i64 er]) ?_ rfl ⟨rfl, bel2 _ _ _⟩
      rw [results_cell_tmp2 rfl]
      go_simp
  have hw : wval b p kind = ⟨0, emptyT, 0, 11⟩ := by unfold wval; rw [if_neg hk0, if_neg hk1, if_neg hk5, if_neg hk2]
  rw [hw]
  have q0 : ((kind : Int) == 0) = false := by simp; omega
  have q2 : ((kind : Int) == 2) = false := by simp; omega
  have q1 : ((kind : Int) == 1) = false := by simp; omega
  have q5 : ((kind : Int) == 5) = false := by simp; omega
  clear hk0 hk2 hk1 hk5 hw hr
  go_enter Try.func41, Try.ntmps41
  go_wp2_with fail
  (try simp only [Exit.inBlock, Exit.then])
  refine bodyPost_ret (v := .tuple #[.agg #[.int .i64 num, .int .i64 kind, .int .u64 0, .string ⟨#[]⟩], .int .i64 0, .int .i64 11]) ?_ rfl ⟨rfl, bel2 _ _ _⟩
  rw [results_cell_tmp2 rfl]
  go_simp
end Go.Proofs.Ytkanhggmhjldmaa

/- WALK: the reference's Of of layer 3 -/
namespace Go.Proofs.Ytkanhggmhjldmaa
open Go.RowKit Plain

set_option maxRecDepth 100000 in
set_option maxHeartbeats 4000000 in
theorem rof_any (b : List UInt8) (A : Option Addr) (n c : Nat) (hn : b.length = n) (hnc : n ≤ c) (w : World) (hr0 : Rd w w.heap.size A (bcl b)) (hbl : b.length ≤ 140737488355328) :
    Calls Try.prog 21 #[.slice A n c] w (OfPost b w) := by
  by_cases hlong : 4096 < b.length
  · have hb : decide ((4096 : Int) < (n : Int)) = true := decide_eq_true (by omega)
    have hw : wof b = ([], 3) := by unfold wof; rw [if_pos hlong]
    have HW := Lib.hid hw
    clear hlong hw hr0 hn hbl
    go_enter Try.func21, Try.ntmps21
    go_wp2_with fail
    go_ret2
    exact of_err (e := 3) HW.out (Below.refl _ _)
  · have hb : decide ((4096 : Int) < (n : Int)) = false := decide_eq_false (by omega)
    have hw : wof b = wrun b b.length ⟨0, [], []⟩ := by unfold wof; rw [if_neg hlong]
    have HW := Lib.hid hw
    have HN := Lib.hid hn
    have HR := Lib.hid hr0
    have HL : Hid (b.length ≤ 4096) := Lib.hid (by omega)
    clear hlong hw hr0 hn hbl
    go_enter Try.func21, Try.ntmps21
    go_wp2_with fail
    go_loopw [4, 5, 6] (fun o op at_ wr => ∃ (s : RSt) (f : Nat) (Ao Ax : Option Addr) (co cx N M : Nat), o = .slice Ax N cx ∧ op = .slice Ao M co ∧ at_ = .int .i64 s.at_ ∧ s.out.length = N ∧ s.opn.length = M ∧
      wr.ownsRow w.heap.size 3 1 (.slice Ao M co) M (icl s.opn) ∧ wr.ownsRow w.heap.size 49 4 (.slice Ax N cx) N (flc s.out) ∧ Below w.heap.size w wr ∧ wof b = wrun b f s ∧ b.length ≤ f + s.at_) (fun _ _ at_ _ => b.length - (intOf at_).toNat)
    case atStart => exact ⟨⟨0, [], []⟩, b.length, none, none, 0, 0, 0, 0, rfl, rfl, rfl, rfl, rfl, World.ownsRow_nil _ _ _ _, World.ownsRow_nil _ _ _ _, Below.refl _ _, HW.out, by simp⟩
    case round =>
      obtain ⟨s, f, Ao, Ax, co, cx, N, M, rfl, rfl, rfl, hNo, hMo, o1, o2, hB, hw, hf⟩ := hrel
      obtain ⟨p, opn, out⟩ := s
      (try simp only at hNo)
      (try simp only at hMo)
      (try simp only at o1)
      (try simp only at o2)
      (try simp only at hf)
      have HWW := Lib.hid hw
      have HF := Lib.hid hf
      clear hw hf
      by_cases hlt : p < b.length
      · have hlt2 : p < n := by rw [← HN.out]; exact hlt
        have hb2 : decide ((p : Int) < (n : Int)) = true := decide_eq_true (by omega)
        have hto := @wnext_to b ⟨p, opn, out⟩
        have hstep : ∃ f2, f = f2 + 1 ∧ wof b = if (wnext b ⟨p, opn, out⟩).1 = 0 then wrun b f2 (wnext b ⟨p, opn, out⟩).2 else ([], (wnext b ⟨p, opn, out⟩).1) := by
          cases f with
          | zero => have := HF.out; omega
          | succ f2 => exact ⟨f2, rfl, by rw [HWW.out, wrun, if_pos hlt]⟩
        obtain ⟨f2, rfl, hw2⟩ := hstep
        obtain ⟨E, s2, hE⟩ : ∃ E s2, wnext b ⟨p, opn, out⟩ = (E, s2) := ⟨_, _, rfl⟩
        rw [hE] at hto hw2
        have hnx := hE
        unfold wnext at hE
        have hvl := vget_lt b p
        have hcall := rvget_any A n c b HN.out (by have := HL.out; omega) p w.heap.size wr (HR.out.below hB (Nat.le_refl _))
        obtain ⟨r, hr⟩ : ∃ r, vget b p = r := ⟨_, rfl⟩
        simp only at hE hto hw2
        rw [hr] at hcall hvl hE
        obtain ⟨v, to, er⟩ := r
        simp only at hcall hvl hE
        have HW2 := Lib.hid hw2
        have HT := Lib.hid hto
        have HLT := Lib.hid hlt
        clear hto hw2 hlt hnx hr
        by_cases he : er = 0
        · subst he
          rw [if_pos rfl] at hE
          obtain ⟨num, hnm⟩ : ∃ num, v / 8 = num := ⟨_, rfl⟩
          obtain ⟨kind, hkd⟩ : ∃ kind, v % 8 = kind := ⟨_, rfl⟩
          rw [hnm, hkd] at hE
          have hnlt : num < 2305843009213693952 := by omega
          have hsh : (v : Int) / 8 = (num : Int) := by omega
          have hmd : (v : Int) % 8 = (kind : Int) := by omega
          have HM := Lib.hid hMo
          have HNO := Lib.hid hNo
          have HHE := Lib.hid hE
          clear hvl hnm hkd hE hMo hNo
          go_wp2_with fail
          refine hcall.mono ?_
          rintro e w1 ⟨rfl, rfl⟩
          clear hcall
          have hbs := hB.size
          go_wp2_with (at_builtin; refine wpList_app1 rfl _ _ _ rfl elemI rfl o1 rfl rfl (by intro u hu; simp at hu; subst hu; rfl) (by unfold maxLen; omega) (by omega) hbs ?_; intro A5 c5 w5 ho5 hg5 _)
          · have hg : (num : Int) < 1 ∨ 536870912 ≤ (num : Int) := by assumption
            have hE := HHE.out
            rw [if_pos (by omega)] at hE
            obtain ⟨rfl, rfl⟩ := Prod.mk.inj hE
            go_ret2
            exact of_err (by rw [HW2.out, if_neg (by decide)]) hB
          · have hg : 1 ≤ (num : Int) ∧ (num : Int) < 536870912 := by assumption
            have hk3 : kind = 3 := by have := eq_of_beq (by assumption : ((kind : Int) == 3) = true); omega
            have h8 : (8 : Int) ≤ (M : Int) := by assumption
            have hE := HHE.out
            rw [if_neg (by omega), if_pos hk3, if_pos (by rw [HM.out]; omega)] at hE
            obtain ⟨rfl, rfl⟩ := Prod.mk.inj hE
            go_ret2
            exact of_err (by rw [HW2.out, if_neg (by decide)]) hB
          · have hg : 1 ≤ (num : Int) ∧ (num : Int) < 536870912 := by assumption
            have hk3 : kind = 3 := by have := eq_of_beq (by assumption : ((kind : Int) == 3) = true); omega
            have h8 : (M : Int) < 8 := by assumption
            have hE := HHE.out
            rw [if_neg (by omega), if_pos hk3, if_neg (by rw [HM.out]; omega)] at hE
            obtain ⟨rfl, rfl⟩ := Prod.mk.inj hE
            have ho2 := own_other o2 hg5 (fun g cur hh => own_ne o1 (by decide) hh)
            have hBB := own_grown hB o1 hbs hg5
            refine ⟨⟨⟨to, opn ++ [num], out⟩, f2, A5, Ax, c5, cx, N, M + 1, rfl, rfl, rfl, HNO.out, by simp [HM.out], by simpa [icl] using ho5, ho2, hBB, by rw [HW2.out, if_pos rfl], ?_⟩, ?_⟩
            · have := HT.out rfl; have := HF.out; simp only at *; omega
            · have := HT.out rfl; have := HLT.out; simp only [intOf] at *; simp; omega
          · have hg : 1 ≤ (num : Int) ∧ (num : Int) < 536870912 := by assumption
            have hk3 : ¬ kind = 3 := by have a : ¬ (kind : Int) = 3 := (by simpa using (by assumption : ((kind : Int) == 3) = false)); omega
            have hk4 : kind = 4 := by have := eq_of_beq (by assumption : ((kind : Int) == 4) = true); omega
            have h0 : opn = [] := List.eq_nil_of_length_eq_zero (by rw [HM.out]; first | assumption | rfl)
            have hE := HHE.out
            rw [if_neg (by omega), if_neg hk3, if_pos hk4, if_neg (by rw [h0]; simp)] at hE
            obtain ⟨rfl, rfl⟩ := Prod.mk.inj hE
            go_ret2
            exact of_err (by rw [HW2.out, if_neg (by decide)]) hB
          · have hg : 1 ≤ (num : Int) ∧ (num : Int) < 536870912 := by assumption
            have hk3 : ¬ kind = 3 := by have a : ¬ (kind : Int) = 3 := (by simpa using (by assumption : ((kind : Int) == 3) = false)); omega
            have hk4 : kind = 4 := by have := eq_of_beq (by assumption : ((kind : Int) == 4) = true); omega
            have hM0 : ¬ M = 0 := by assumption
            have hE := HHE.out
            rw [if_neg (by omega), if_neg hk3, if_pos hk4] at hE
            rcases List.eq_nil_or_concat opn with h0 | ⟨l, x, h0⟩
            · exact absurd (by rw [← HM.out, h0]; rfl) hM0
            obtain ⟨g, rfl⟩ : ∃ g, Ao = some ⟨g, 0, none⟩ := by
              rcases o1.2 with ⟨_, h00⟩ | ⟨g, cap, cur, hv, _⟩
              · exact absurd h00 hM0
              · injection hv with hA
                exact ⟨g, hA⟩
            obtain ⟨m, hm⟩ : ∃ m, l.length = m := ⟨_, rfl⟩
            have hMm : M = m + 1 := by rw [← HM.out, h0, ← hm]; simp
            have hcap := own_cap o1
            have hx : wr.cell? ⟨g, m, none⟩ = some (.int .i64 x) := by
              have := o1.cellAt m (by omega)
              rw [this, h0]
              simp [icl, ← hm]
            have o3 : wr.ownsRow w.heap.size 3 1 (.slice (some ⟨g, 0, none⟩) m co) m (icl l) := by
              have := own_prefix o1 (m := m) (by omega)
              rwa [show (icl opn).take m = icl l by rw [h0]; simp [icl, ← hm]] at this
            have hw1 : wrap64 ((M : Int) - 1) = (m : Int) := by unfold wrap64; omega
            have hw2 : IntKind.i64.wrap ((M : Int) - 1) = (m : Int) := by rw [show (M : Int) - 1 = (m : Int) by omega]; exact wrap_small m (by omega)
            have hlt1 : (m : Int) < (M : Int) := by omega
            have hlt2' : m < M := by omega
            have hle3 : (m : Int) ≤ (co : Int) := by omega
            have hle4 : m ≤ co := by omega
            have hlast : opn.getLast? = some num ↔ x = num := by rw [h0]; simp
            have hdrop : opn.dropLast = l := by rw [h0]; simp
            rw [hdrop] at hE
            by_cases hxn : x = num
            · rw [if_pos (hlast.2 hxn)] at hE
              obtain ⟨rfl, rfl⟩ := Prod.mk.inj hE
              have hbx : ((x : Int) != (num : Int)) = false := by simp; omega
              clear hlast hdrop hcap hMm hE o1 hg hk3 hk4
              go_simp
              go_wp2_with fail
              refine ⟨⟨⟨to, l, out⟩, f2, some ⟨g, 0, none⟩, Ax, co, cx, N, m, rfl, rfl, rfl, HNO.out, hm, o3, o2, hB, by rw [HW2.out, if_pos rfl], ?_⟩, ?_⟩
              · have := HT.out rfl; have := HF.out; simp only at *; omega
              · have := HT.out rfl; have := HLT.out; simp only [intOf] at *; simp; omega
            · rw [if_neg (fun h => hxn (hlast.1 h))] at hE
              obtain ⟨rfl, rfl⟩ := Prod.mk.inj hE
              have hbx : ((x : Int) != (num : Int)) = true := by simp; omega
              clear hlast hdrop hcap hMm hE o1 hg hk3 hk4
              go_simp
              go_wp2_with fail
              go_ret2
              exact of_err (by rw [HW2.out, if_neg (by decide)]) hB
          · have hg : 1 ≤ (num : Int) ∧ (num : Int) < 536870912 := by assumption
            have hk3 : ¬ kind = 3 := by have a : ¬ (kind : Int) = 3 := (by simpa using (by assumption : ((kind : Int) == 3) = false)); omega
            have hk4 : ¬ kind = 4 := by have a : ¬ (kind : Int) = 4 := (by simpa using (by assumption : ((kind : Int) == 4) = false)); omega
            have hE := HHE.out
            rw [if_neg (by omega), if_neg hk3, if_neg hk4] at hE
            refine (rvalue_any b A n c HN.out hnc (by have := HL.out; omega) to num kind w.heap.size wr hbs (HR.out.below hB (Nat.le_refl _))).mono ?_
            rintro e w2 ⟨rfl, hB2⟩
            obtain ⟨V, hV⟩ : ∃ V, wval b to kind = V := ⟨_, rfl⟩
            rw [hV] at hE ⊢
            obtain ⟨vv, vt, vto, verr⟩ := V
            simp only at hE ⊢
            have o1' := own_kept o1 hB2 (Nat.le_refl _)
            have o2' := own_kept o2 hB2 (Nat.le_refl _)
            have hB3 := bel_step hB hB2
            have hbs3 := hB3.size
            clear o1 o2 hB hB2 hV hbs HHE hg hk3 hk4
            by_cases hve : verr = 0
            · subst hve
              rw [if_pos rfl] at hE
              rw [HM.out, HNO.out] at hE
              by_cases hM0 : M = 0
              · rw [if_pos hM0] at hE
                by_cases hfl : 256 ≤ N
                · rw [if_pos hfl] at hE
                  obtain ⟨rfl, rfl⟩ := Prod.mk.inj hE
                  have hbf : decide ((256 : Int) ≤ (N : Int)) = true := decide_eq_true (by omega)
                  clear hE
                  go_wp2_with fail
                  go_ret2
                  first | exact of_err (by rw [HW2.out, if_neg (by decide)]) hB3 | exact of_err (by rw [HW2.out, if_neg (by decide)]) (hB3.alloc hbs3 _)
                · rw [if_neg hfl] at hE
                  obtain ⟨rfl, rfl⟩ := Prod.mk.inj hE
                  have hbf : decide ((256 : Int) ≤ (N : Int)) = false := decide_eq_false (by omega)
                  clear hE
                  go_wp2_with (at_builtin; refine wpList_appF1 rfl _ _ rfl rfl (o2'.alloc (Obj.cells #[.int .i64 num, .int .i64 kind, .int .u64 vv, .string vt] 49)) ⟨num, kind, vv, vt⟩ rfl (by simp) (by omega) (by simp; omega) ?_; intro A5 c5 w5 ho5 hg5)
                  have o1'' := own_other (o1'.alloc (Obj.cells #[.int .i64 num, .int .i64 kind, .int .u64 vv, .string vt] 49)) hg5 (fun g cur hh => own_ne (o2'.alloc (Obj.cells #[.int .i64 num, .int .i64 kind, .int .u64 vv, .string vt] 49)) (by decide) hh)
                  have hBB := own_grown (hB3.alloc hbs3 (Obj.cells #[.int .i64 num, .int .i64 kind, .int .u64 vv, .string vt] 49)) (o2'.alloc (Obj.cells #[.int .i64 num, .int .i64 kind, .int .u64 vv, .string vt] 49)) (by simp; omega) hg5
                  go_roundw
                  case rel => exact ⟨⟨vto, opn, out ++ [⟨num, kind, vv, vt⟩]⟩, f2, Ao, A5, co, c5, N + 1, M, rfl, by rw [hM0], rfl, by simp [HNO.out], HM.out, o1'', ho5, hBB, by rw [HW2.out, if_pos rfl], by have := HT.out rfl; have := HF.out; simp only at *; omega⟩
                  case measure => have := HT.out rfl; have := HLT.out; simp only [intOf] at *; simp; omega
              · have hMp : 0 < M := by omega
                rw [if_neg hM0] at hE
                obtain ⟨rfl, rfl⟩ := Prod.mk.inj hE
                clear hE
                go_wp2_with fail
                go_roundw
                case rel => exact ⟨⟨vto, opn, out⟩, f2, Ao, Ax, co, cx, N, M, rfl, rfl, rfl, HNO.out, HM.out, o1'.alloc _, o2'.alloc _, hB3.alloc hbs3 _, by rw [HW2.out, if_pos rfl], by have := HT.out rfl; have := HF.out; simp only at *; omega⟩
                case measure => have := HT.out rfl; have := HLT.out; simp only [intOf] at *; simp; omega
            · rw [if_neg hve] at hE
              obtain ⟨rfl, rfl⟩ := Prod.mk.inj hE
              have hbv : ((verr : Int) != 0) = true := by simp; omega
              have HVE := Lib.hid hve
              clear hE hve
              go_wp2_with fail
              go_ret2
              first | exact of_err (by rw [HW2.out, if_neg HVE.out]) hB3 | exact of_err (by rw [HW2.out, if_neg HVE.out]) (hB3.alloc hbs3 _)
          · have hg : (num : Int) < 1 := by assumption
            have hE := HHE.out
            rw [if_pos (by omega)] at hE
            obtain ⟨rfl, rfl⟩ := Prod.mk.inj hE
            go_ret2
            exact of_err (by rw [HW2.out, if_neg (by decide)]) hB
        · rw [if_neg he] at hE
          obtain ⟨rfl, rfl⟩ := Prod.mk.inj hE
          have hbe : ((er : Int) != 0) = true := by simp; omega
          have HE := Lib.hid he
          clear he hE hvl
          go_wp2_with fail
          refine hcall.mono ?_
          rintro e w1 ⟨rfl, rfl⟩
          go_wp2_with fail
          go_ret2
          exact of_err (by rw [HW2.out, if_neg HE.out]) hB
      · have hlt2 : ¬ p < n := by rw [← HN.out]; exact hlt
        have hb2 : decide ((p : Int) < (n : Int)) = false := decide_eq_false (by omega)
        have hw2 := HWW.out
        rw [wrun_stop hlt] at hw2
        have HW2 := Lib.hid hw2
        clear hw2 hlt
        by_cases ho : M = 0
        · subst ho
          have HMO := Lib.hid hMo
          subst hNo
          clear hMo
          go_wp2_with fail
          go_ret2
          have hw3 : wof b = (out, 0) := by rw [HW2.out, if_pos HMO.out]
          exact ⟨Ax, cx, by rw [hw3]; rfl, by rw [hw3]; exact o2, hB⟩
        · have hpos : 0 < M := by omega
          have HO : Hid (¬ opn.length = 0) := Lib.hid (by rw [hMo]; exact ho)
          clear ho hMo
          go_wp2_with fail
          go_ret2
          exact of_err (e := 2) (by rw [HW2.out, if_neg HO.out]) hB
end Go.Proofs.Ytkanhggmhjldmaa

/- WALK: the reference's Of of layer 6 -/
namespace Go.Proofs.Ytkanhggmhjldmaa
open Go.RowKit Plain

set_option maxRecDepth 100000 in
set_option maxHeartbeats 4000000 in
theorem rmof_any (b : List UInt8) (A : Option Addr) (n c : Nat) (hn : b.length = n) (hnc : n ≤ c) (hbl : b.length ≤ 140737488355328) (w : World) (hr0 : Rd w w.heap.size A (bcl b)) :
    Calls Try.prog 29 #[.slice A n c] w fun e w' => e = .returned (.tuple #[.agg (mof b).1.cells, .int .i64 (mof b).2]) ∧ Below w.heap.size w w' := by
  have hof := fun (W : World) (hB : Below w.heap.size w W) => rof_any b A n c hn hnc W ((hr0.below hB (Nat.le_refl _)).more hB.size) hbl
  have hin := wof_in b
  have hlen := wof_out b
  obtain ⟨q, hq⟩ : ∃ q, mof b = q := ⟨_, rfl⟩
  rw [hq]
  unfold mof at hq
  unfold OfPost at hof
  obtain ⟨r, hr⟩ : ∃ r, wof b = r := ⟨_, rfl⟩
  rw [hr] at hof hin hlen hq
  obtain ⟨l, er⟩ := r
  simp only at hof hin hlen hq
  have HIN := Lib.hid hin
  clear hr hin hn hnc hbl hr0
  by_cases h0 : er = 0
  · subst h0
    rw [if_pos rfl] at hq
    have HQ := Lib.hid hq
    clear hq
    go_enter Try.func29, Try.ntmps29
    go_wp2_with fail
    have hE0 := (Below.refl w.heap.size w).alloc (Nat.le_refl _) (Obj.cells mzero.cells 24)
    have hMr0 : BoxM (w.alloc (Obj.cells mzero.cells 24)) w.heap.size mzero := World.alloc_heap_new w _
    refine (hof _ hE0).mono ?_
    rintro e w1 ⟨B1, d1, rfl, ho1, hB1⟩
    have hMr1 := hMr0.below hB1 hMr0.lt
    have hW1 := bel_step hE0 hB1
    have hs1 : w.heap.size + 1 ≤ w1.heap.size := by have := hB1.size; simp at this; omega
    clear hof hE0 hMr0 hB1
    -- LOOP
    go_wp2_with fail
    have hE2 := (Below.refl w1.heap.size w1).alloc (Nat.le_refl _) (Obj.cells mzero.cells 24)
    have hMo0 : BoxM (w1.alloc (Obj.cells mzero.cells 24)) w1.heap.size mzero := World.alloc_heap_new w1 _
    have hMr2 := hMr1.below hE2 hMr1.lt
    have hr2 := (Rd.of_own ho1).below hE2 (Nat.le_refl _)
    have hW2 := bel_step hW1 hE2
    have hZ2 : w1.heap.size < (w1.alloc (Obj.cells mzero.cells 24)).heap.size := by simp
    generalize hw2 : w1.alloc (Obj.cells mzero.cells 24) = w2 at *
    have hw3 : w1.alloc (Obj.cells #[.bool false, .string ⟨#[]⟩, .int .u64 0, .int .u64 0, .string ⟨#[]⟩, .string ⟨#[]⟩, .string ⟨#[]⟩, .string ⟨#[]⟩] 24) = w2 := hw2
    rw [hw3]
    clear hE2 hMr1 ho1 hW1 hw2 hw3
    go_loopw [7] (fun i wr => ∃ (j : Nat) (m : MM), i = .int .i64 j ∧ j ≤ l.length ∧ mrun m (l.drop j) = q ∧ BoxM wr w1.heap.size m ∧ w2.grownBy wr (some w1.heap.size)) (fun i _ => l.length - (intOf i).toNat)
    case atStart => exact ⟨0, _, rfl, Nat.zero_le _, HQ.out, hMo0, World.grownBy.refl _ _⟩
    case round =>
      clear hMo0
      obtain ⟨j, m, rfl, hj, hm, hM2, hg⟩ := hrel
      have hgs := hg.size
      have HM := Lib.hid hm
      clear hm
      by_cases hlt : j < l.length
      · obtain ⟨f, hf⟩ : ∃ f, l[j]? = some f := ⟨_, List.getElem?_eq_getElem hlt⟩
        have hfi := HIN.out f (List.mem_of_getElem? hf)
        have hm := HM.out
        rw [drop_cons hf, mrun] at hm
        obtain ⟨b1, o1, rfl, hb1, g0, g1, g2, g3⟩ := fld_at (rd_less hr2 (Nat.le_refl _) (by omega) hg) hf
        have HMM := Lib.hid hm
        clear hm HM
        by_cases h8 : 8 < f.num
        · have hd8 : decide ((8 : Int) < f.num) = true := decide_eq_true h8
          have HN : Hid (mrun m (l.drop (j + 1)) = q) := Lib.hid (by have := HMM.out; rwa [if_pos h8] at this)
          obtain ⟨fn, fk, fv, ft⟩ := f
          simp only at g0 g1 g2 g3 hd8
          clear HMM h8 hf hfi
          go_wp2_with fail
          go_roundw
          case rel => exact ⟨j + 1, m, by go_num, by omega, HN.out, hM2.below ((Below.refl _ wr).alloc (Nat.le_refl _) _) hM2.lt, hg.trans (grown_below ((Below.refl _ wr).alloc (Nat.le_refl _) _))⟩
          case measure => simp [intOf]; omega
        · have hm2 := HMM.out
          rw [if_neg h8] at hm2
          have hn1 := hfi.1
          obtain ⟨fn, fk, fv, ft⟩ := f
          simp only at g0 g1 g2 g3 hn1 h8
          have HM2 := Lib.hid hm2
          have hMr3 : BoxM wr w.heap.size mzero := (hg.block _ (by omega) (fun e => by have := Option.some.inj e; omega)).trans hMr2
          have hWr := below_of_grown hW2 hg (by omega) (Nat.le_refl _)
          have hrl2 : w.heap.size < wr.heap.size := by omega
          have hrl3 : w1.heap.size < wr.heap.size := by omega
          have hq4 : fk ≠ mknd fn → q = (mzero, 4) := fun hk => by
            have e : merr ⟨fn, fk, fv, ft⟩ = 4 := by unfold merr; rw [if_neg hk]
            have hm2 := HM2.out
            rw [e, if_neg (by decide)] at hm2
            exact hm2.symm
          have hq5 : fk = mknd fn → fn = 1 → 1 < fv → q = (mzero, 5) := fun hk h1 h2 => by
            have e : merr ⟨fn, fk, fv, ft⟩ = 5 := by unfold merr; rw [if_pos hk, if_pos ⟨h1, h2⟩]
            have hm2 := HM2.out
            rw [e, if_neg (by decide)] at hm2
            exact hm2.symm
          have hq0 : fk = mknd fn → ¬ (fn = 1 ∧ 1 < fv) → mrun (mset2 m ⟨fn, fk, fv, ft⟩) (l.drop (j + 1)) = q := fun hk h1 => by
            have e : merr ⟨fn, fk, fv, ft⟩ = 0 := by unfold merr; rw [if_pos hk, if_neg h1]
            have hm2 := HM2.out
            rwa [e, if_pos rfl] at hm2
          have H4 := Lib.hid hq4
          have H5 := Lib.hid hq5
          have H0 := Lib.hid hq0
          have HBM := Lib.hid hM2
          have h1_8 : fn = 1 ∨ fn = 2 ∨ fn = 3 ∨ fn = 4 ∨ fn = 5 ∨ fn = 6 ∨ fn = 7 ∨ fn = 8 := by omega
          clear hq4 hq5 hq0 hm2 HMM hf hfi hn1 h8 HM2 HIN HQ hM2 hMr2
          rcases h1_8 with rfl | rfl | rfl | rfl | rfl | rfl | rfl | rfl
          · by_cases hk : fk = 0
            · subst hk
              by_cases hv : 1 < fv
              · have HQ5 := Lib.hid (H5.out rfl rfl hv)
                have hd : decide ((1 : Int) < (fv : Int)) = true := decide_eq_true (by omega)
                clear H4 H5 H0 hv HBM
                obtain ⟨⟨y0, y1, y2, y3, y4, y5, y6, y7⟩, z0, z1, z2, z3, z4, z5, z6, z7⟩ := hMr3.zero
                clear hMr3
                go_wp2_with fail
                (try simp only [Exit.inBlock, Exit.then])
                refine bodyPost_ret (v := .tuple #[.agg mzero.cells, .int .i64 5]) ?_ rfl ⟨by rw [HQ5.out], ?_⟩
                · rw [results_cell_tmp rfl]; go_simp; rfl
                · exact (below_set8 hWr (Nat.le_refl _) _ _ _ _ _ _ _ _).alloc (by simp; omega) _
              · have HR := Lib.hid (H0.out rfl (fun h => hv h.2))
                have hd : decide ((1 : Int) < (fv : Int)) = false := decide_eq_false (by omega)
                clear H4 H5 H0 hv hMr3
                have x0 : wr.cell? ⟨w1.heap.size, 0, none⟩ = some (.bool m.multi) := HBM.out.cell 0
                have z0 : wr.frozen? ⟨w1.heap.size, 0, none⟩ = false := by simp [World.frozen?, show wr.heap[w1.heap.size]? = _ from HBM.out]
                go_wp2_with fail
                go_roundw
                case rel =>
                  obtain ⟨t1, t2⟩ := take_post (i := 0) (v := .bool ((fv : Int) == 1)) HBM.out (Below.refl _ wr) (mset2 m ⟨1, 0, fv, ft⟩) rfl
                  exact ⟨j + 1, mset2 m ⟨1, 0, fv, ft⟩, by go_num, by omega, HR.out, t1.below ((Below.refl _ _).alloc (Nat.le_refl _) _) t1.lt, hg.trans (t2.trans (grown_below ((Below.refl _ _).alloc (Nat.le_refl _) _)))⟩
                case measure => simp [intOf]; omega
            · have HQ4 := Lib.hid (H4.out hk)
              have hkb : (fk != 0) = true := by simpa using hk
              clear H4 H5 H0 HBM hk
              obtain ⟨⟨y0, y1, y2, y3, y4, y5, y6, y7⟩, z0, z1, z2, z3, z4, z5, z6, z7⟩ := hMr3.zero
              clear hMr3
              go_wp2_with fail
              (try simp only [Exit.inBlock, Exit.then])
              refine bodyPost_ret (v := .tuple #[.agg mzero.cells, .int .i64 4]) ?_ rfl ⟨by rw [HQ4.out], ?_⟩
              · rw [results_cell_tmp rfl]; go_simp; rfl
              · exact (below_set8 hWr (Nat.le_refl _) _ _ _ _ _ _ _ _).alloc (by simp; omega) _
          · by_cases hk : fk = 2
            · subst hk
              have HR := Lib.hid (H0.out rfl (by omega))
              clear H4 H5 H0 hMr3
              have x0 : wr.cell? ⟨w1.heap.size, 1, none⟩ = some (.string m.type) := HBM.out.cell 1
              have z0 : wr.frozen? ⟨w1.heap.size, 1, none⟩ = false := by simp [World.frozen?, show wr.heap[w1.heap.size]? = _ from HBM.out]
              go_wp2_with fail
              go_roundw
              case rel =>
                obtain ⟨t1, t2⟩ := take_post (i := 1) (v := .string ft) HBM.out (Below.refl _ wr) (mset2 m ⟨2, 2, fv, ft⟩) rfl
                exact ⟨j + 1, mset2 m ⟨2, 2, fv, ft⟩, by go_num, by omega, HR.out, t1.below ((Below.refl _ _).alloc (Nat.le_refl _) _) t1.lt, hg.trans (t2.trans (grown_below ((Below.refl _ _).alloc (Nat.le_refl _) _)))⟩
              case measure => simp [intOf]; omega
            · have HQ4 := Lib.hid (H4.out hk)
              have hkb : (fk != 2) = true := by simpa using hk
              clear H4 H5 H0 HBM hk
              obtain ⟨⟨y0, y1, y2, y3, y4, y5, y6, y7⟩, z0, z1, z2, z3, z4, z5, z6, z7⟩ := hMr3.zero
              clear hMr3
              go_wp2_with fail
              (try simp only [Exit.inBlock, Exit.then])
              refine bodyPost_ret (v := .tuple #[.agg mzero.cells, .int .i64 4]) ?_ rfl ⟨by rw [HQ4.out], ?_⟩
              · rw [results_cell_tmp rfl]; go_simp; rfl
              · exact (below_set8 hWr (Nat.le_refl _) _ _ _ _ _ _ _ _).alloc (by simp; omega) _
          · by_cases hk : fk = 0
            · subst hk
              have HR := Lib.hid (H0.out rfl (by omega))
              clear H4 H5 H0 hMr3
              have x0 : wr.cell? ⟨w1.heap.size, 2, none⟩ = some (.int .u64 m.size) := HBM.out.cell 2
              have z0 : wr.frozen? ⟨w1.heap.size, 2, none⟩ = false := by simp [World.frozen?, show wr.heap[w1.heap.size]? = _ from HBM.out]
              go_wp2_with fail
              go_roundw
              case rel =>
                obtain ⟨t1, t2⟩ := take_post (i := 2) (v := .int .u64 fv) HBM.out (Below.refl _ wr) (mset2 m ⟨3, 0, fv, ft⟩) rfl
                exact ⟨j + 1, mset2 m ⟨3, 0, fv, ft⟩, by go_num, by omega, HR.out, t1.below ((Below.refl _ _).alloc (Nat.le_refl _) _) t1.lt, hg.trans (t2.trans (grown_below ((Below.refl _ _).alloc (Nat.le_refl _) _)))⟩
              case measure => simp [intOf]; omega
            · have HQ4 := Lib.hid (H4.out hk)
              have hkb : (fk != 0) = true := by simpa using hk
              clear H4 H5 H0 HBM hk
              obtain ⟨⟨y0, y1, y2, y3, y4, y5, y6, y7⟩, z0, z1, z2, z3, z4, z5, z6, z7⟩ := hMr3.zero
              clear hMr3
              go_wp2_with fail
              (try simp only [Exit.inBlock, Exit.then])
              refine bodyPost_ret (v := .tuple #[.agg mzero.cells, .int .i64 4]) ?_ rfl ⟨by rw [HQ4.out], ?_⟩
              · rw [results_cell_tmp rfl]; go_simp; rfl
              · exact (below_set8 hWr (Nat.le_refl _) _ _ _ _ _ _ _ _).alloc (by simp; omega) _
          · by_cases hk : fk = 0
            · subst hk
              have HR := Lib.hid (H0.out rfl (by omega))
              clear H4 H5 H0 hMr3
              have x0 : wr.cell? ⟨w1.heap.size, 3, none⟩ = some (.int .u64 m.seq) := HBM.out.cell 3
              have z0 : wr.frozen? ⟨w1.heap.size, 3, none⟩ = false := by simp [World.frozen?, show wr.heap[w1.heap.size]? = _ from HBM.out]
              go_wp2_with fail
              go_roundw
              case rel =>
                obtain ⟨t1, t2⟩ := take_post (i := 3) (v := .int .u64 fv) HBM.out (Below.refl _ wr) (mset2 m ⟨4, 0, fv, ft⟩) rfl
                exact ⟨j + 1, mset2 m ⟨4, 0, fv, ft⟩, by go_num, by omega, HR.out, t1.below ((Below.refl _ _).alloc (Nat.le_refl _) _) t1.lt, hg.trans (t2.trans (grown_below ((Below.refl _ _).alloc (Nat.le_refl _) _)))⟩
              case measure => simp [intOf]; omega
            · have HQ4 := Lib.hid (H4.out hk)
              have hkb : (fk != 0) = true := by simpa using hk
              clear H4 H5 H0 HBM hk
              obtain ⟨⟨y0, y1, y2, y3, y4, y5, y6, y7⟩, z0, z1, z2, z3, z4, z5, z6, z7⟩ := hMr3.zero
              clear hMr3
              go_wp2_with fail
              (try simp only [Exit.inBlock, Exit.then])
              refine bodyPost_ret (v := .tuple #[.agg mzero.cells, .int .i64 4]) ?_ rfl ⟨by rw [HQ4.out], ?_⟩
              · rw [results_cell_tmp rfl]; go_simp; rfl
              · exact (below_set8 hWr (Nat.le_refl _) _ _ _ _ _ _ _ _).alloc (by simp; omega) _
          · by_cases hk : fk = 2
            · subst hk
              have HR := Lib.hid (H0.out rfl (by omega))
              clear H4 H5 H0 hMr3
              have x0 : wr.cell? ⟨w1.heap.size, 4, none⟩ = some (.string m.file) := HBM.out.cell 4
              have z0 : wr.frozen? ⟨w1.heap.size, 4, none⟩ = false := by simp [World.frozen?, show wr.heap[w1.heap.size]? = _ from HBM.out]
              go_wp2_with fail
              go_roundw
              case rel =>
                obtain ⟨t1, t2⟩ := take_post (i := 4) (v := .string ft) HBM.out (Below.refl _ wr) (mset2 m ⟨5, 2, fv, ft⟩) rfl
                exact ⟨j + 1, mset2 m ⟨5, 2, fv, ft⟩, by go_num, by omega, HR.out, t1.below ((Below.refl _ _).alloc (Nat.le_refl _) _) t1.lt, hg.trans (t2.trans (grown_below ((Below.refl _ _).alloc (Nat.le_refl _) _)))⟩
              case measure => simp [intOf]; omega
            · have HQ4 := Lib.hid (H4.out hk)
              have hkb : (fk != 2) = true := by simpa using hk
              clear H4 H5 H0 HBM hk
              obtain ⟨⟨y0, y1, y2, y3, y4, y5, y6, y7⟩, z0, z1, z2, z3, z4, z5, z6, z7⟩ := hMr3.zero
              clear hMr3
              go_wp2_with fail
              (try simp only [Exit.inBlock, Exit.then])
              refine bodyPost_ret (v := .tuple #[.agg mzero.cells, .int .i64 4]) ?_ rfl ⟨by rw [HQ4.out], ?_⟩
              · rw [results_cell_tmp rfl]; go_simp; rfl
              · exact (below_set8 hWr (Nat.le_refl _) _ _ _ _ _ _ _ _).alloc (by simp; omega) _
          · by_cases hk : fk = 2
            · subst hk
              have HR := Lib.hid (H0.out rfl (by omega))
              clear H4 H5 H0 hMr3
              have x0 : wr.cell? ⟨w1.heap.size, 5, none⟩ = some (.string m.kind) := HBM.out.cell 5
              have z0 : wr.frozen? ⟨w1.heap.size, 5, none⟩ = false := by simp [World.frozen?, show wr.heap[w1.heap.size]? = _ from HBM.out]
              go_wp2_with fail
              go_roundw
              case rel =>
                obtain ⟨t1, t2⟩ := take_post (i := 5) (v := .string ft) HBM.out (Below.refl _ wr) (mset2 m ⟨6, 2, fv, ft⟩) rfl
                exact ⟨j + 1, mset2 m ⟨6, 2, fv, ft⟩, by go_num, by omega, HR.out, t1.below ((Below.refl _ _).alloc (Nat.le_refl _) _) t1.lt, hg.trans (t2.trans (grown_below ((Below.refl _ _).alloc (Nat.le_refl _) _)))⟩
              case measure => simp [intOf]; omega
            · have HQ4 := Lib.hid (H4.out hk)
              have hkb : (fk != 2) = true := by simpa using hk
              clear H4 H5 H0 HBM hk
              obtain ⟨⟨y0, y1, y2, y3, y4, y5, y6, y7⟩, z0, z1, z2, z3, z4, z5, z6, z7⟩ := hMr3.zero
              clear hMr3
              go_wp2_with fail
              (try simp only [Exit.inBlock, Exit.then])
              refine bodyPost_ret (v := .tuple #[.agg mzero.cells, .int .i64 4]) ?_ rfl ⟨by rw [HQ4.out], ?_⟩
              · rw [results_cell_tmp rfl]; go_simp; rfl
              · exact (below_set8 hWr (Nat.le_refl _) _ _ _ _ _ _ _ _).alloc (by simp; omega) _
          · by_cases hk : fk = 2
            · subst hk
              have HR := Lib.hid (H0.out rfl (by omega))
              clear H4 H5 H0 hMr3
              have x0 : wr.cell? ⟨w1.heap.size, 6, none⟩ = some (.string m.md5) := HBM.out.cell 6
              have z0 : wr.frozen? ⟨w1.heap.size, 6, none⟩ = false := by simp [World.frozen?, show wr.heap[w1.heap.size]? = _ from HBM.out]
              go_wp2_with fail
              go_roundw
              case rel =>
                obtain ⟨t1, t2⟩ := take_post (i := 6) (v := .string ft) HBM.out (Below.refl _ wr) (mset2 m ⟨7, 2, fv, ft⟩) rfl
                exact ⟨j + 1, mset2 m ⟨7, 2, fv, ft⟩, by go_num, by omega, HR.out, t1.below ((Below.refl _ _).alloc (Nat.le_refl _) _) t1.lt, hg.trans (t2.trans (grown_below ((Below.refl _ _).alloc (Nat.le_refl _) _)))⟩
              case measure => simp [intOf]; omega
            · have HQ4 := Lib.hid (H4.out hk)
              have hkb : (fk != 2) = true := by simpa using hk
              clear H4 H5 H0 HBM hk
              obtain ⟨⟨y0, y1, y2, y3, y4, y5, y6, y7⟩, z0, z1, z2, z3, z4, z5, z6, z7⟩ := hMr3.zero
              clear hMr3
              go_wp2_with fail
              (try simp only [Exit.inBlock, Exit.then])
              refine bodyPost_ret (v := .tuple #[.agg mzero.cells, .int .i64 4]) ?_ rfl ⟨by rw [HQ4.out], ?_⟩
              · rw [results_cell_tmp rfl]; go_simp; rfl
              · exact (below_set8 hWr (Nat.le_refl _) _ _ _ _ _ _ _ _).alloc (by simp; omega) _
          · by_cases hk : fk = 2
            · subst hk
              have HR := Lib.hid (H0.out rfl (by omega))
              clear H4 H5 H0 hMr3
              have x0 : wr.cell? ⟨w1.heap.size, 7, none⟩ = some (.string m.desc) := HBM.out.cell 7
              have z0 : wr.frozen? ⟨w1.heap.size, 7, none⟩ = false := by simp [World.frozen?, show wr.heap[w1.heap.size]? = _ from HBM.out]
              go_wp2_with fail
              go_roundw
              case rel =>
                obtain ⟨t1, t2⟩ := take_post (i := 7) (v := .string ft) HBM.out (Below.refl _ wr) (mset2 m ⟨8, 2, fv, ft⟩) rfl
                exact ⟨j + 1, mset2 m ⟨8, 2, fv, ft⟩, by go_num, by omega, HR.out, t1.below ((Below.refl _ _).alloc (Nat.le_refl _) _) t1.lt, hg.trans (t2.trans (grown_below ((Below.refl _ _).alloc (Nat.le_refl _) _)))⟩
              case measure => simp [intOf]; omega
            · have HQ4 := Lib.hid (H4.out hk)
              have hkb : (fk != 2) = true := by simpa using hk
              clear H4 H5 H0 HBM hk
              obtain ⟨⟨y0, y1, y2, y3, y4, y5, y6, y7⟩, z0, z1, z2, z3, z4, z5, z6, z7⟩ := hMr3.zero
              clear hMr3
              go_wp2_with fail
              (try simp only [Exit.inBlock, Exit.then])
              refine bodyPost_ret (v := .tuple #[.agg mzero.cells, .int .i64 4]) ?_ rfl ⟨by rw [HQ4.out], ?_⟩
              · rw [results_cell_tmp rfl]; go_simp; rfl
              · exact (below_set8 hWr (Nat.le_refl _) _ _ _ _ _ _ _ _).alloc (by simp; omega) _
      · rw [List.drop_eq_nil_of_le (by omega)] at HM
        have hq : q = (m, 0) := HM.out.symm
        subst hq
        have hW3 := below_of_grown hW2 hg (by omega) (Nat.le_refl _)
        have hMr3 : BoxM wr w.heap.size mzero := (hg.block _ (by omega) (fun e => by have := Option.some.inj e; omega)).trans hMr2
        obtain ⟨⟨y0, y1, y2, y3, y4, y5, y6, y7⟩, z0, z1, z2, z3, z4, z5, z6, z7⟩ := hMr3.zero
        obtain ⟨m1, m2, m3, m4, m5, m6, m7, m8⟩ := m
        obtain ⟨x0, x1, x2, x3, x4, x5, x6, x7⟩ := hM2.cells8
        clear hM2 hMr3 hMr2 HM HQ HIN hg
        go_wp2_with fail
        (try simp only [Exit.inBlock, Exit.then])
        refine bodyPost_ret (v := .tuple #[.agg #[.bool m1, .string m2, .int .u64 m3, .int .u64 m4, .string m5, .string m6, .string m7, .string m8], .int .i64 0]) ?_ rfl ⟨rfl, ?_⟩
        · rw [results_cell_tmp rfl]; go_simp
        · exact below_set8 hW3 (Nat.le_refl _) _ _ _ _ _ _ _ _
  · rw [if_neg h0] at hq
    have HQ := Lib.hid hq
    have hbe : ((er : Int) != 0) = true := by simp; omega
    clear hq h0
    go_enter Try.func29, Try.ntmps29
    go_wp2_with fail
    have hE0 := (Below.refl w.heap.size w).alloc (Nat.le_refl _) (Obj.cells mzero.cells 24)
    have hMr0 : BoxM (w.alloc (Obj.cells mzero.cells 24)) w.heap.size mzero := World.alloc_heap_new w _
    refine (hof _ hE0).mono ?_
    rintro e w1 ⟨B1, d1, rfl, ho1, hB1⟩
    have hMr1 := hMr0.below hB1 hMr0.lt
    have hW1 := bel_step hE0 hB1
    obtain ⟨⟨y0, y1, y2, y3, y4, y5, y6, y7⟩, z0, z1, z2, z3, z4, z5, z6, z7⟩ := hMr1.zero
    clear hof hE0 hMr0 hB1 ho1 hMr1
    go_wp2_with fail
    (try simp only [Exit.inBlock, Exit.then])
    refine bodyPost_ret (v := .tuple #[.agg mzero.cells, .int .i64 er]) ?_ rfl ⟨by rw [← HQ.out], ?_⟩
    · rw [results_cell_tmp rfl]; go_simp; rfl
    · exact below_set8 hW1 (Nat.le_refl _) _ _ _ _ _ _ _ _
end Go.Proofs.Ytkanhggmhjldmaa

/- LAW WALK: MetaPuts -/
namespace Go.Proofs.Ytkanhggmhjldmaa
open Go.RowKit Plain

theorem strB {w : World} {B : Nat} {A : Option Addr} {l : List UInt8} (hr : Rd w B A (bcl l)) {n : Nat} (hn : l.length = n) (c : Nat) :
    (convert 25 9 (.slice A n c)).run Try.prog w = .ok (.string ⟨l.toArray⟩) w :=
  hn ▸ run_str _ _ _ Try.underlying25 Try.underlying5 Try.underlying9 hr c
theorem str_ever {base : Nat} {w : World} {A : Option Addr} {n c : Nat} {l : List UInt8} (h : w.ownsRow base 5 1 (.slice A n c) n (bcl l)) (hn : l.length = n) :
    ∀ W, Below w.heap.size w W → (convert 25 9 (.slice A n c)).run Try.prog W = .ok (.string ⟨l.toArray⟩) W :=
  fun _ hW => strB ((Rd.of_own h).below hW (Nat.le_refl _)) hn c
theorem mput_x (w : World) : Calls Try.prog 12 #[.agg #[.bool false, .string ⟨#[]⟩, .int .u64 0, .int .u64 0, .string ⟨#[]⟩, .string ⟨#[]⟩, .string ⟨#[]⟩, .string ⟨#[120]⟩]] w fun e w' => ∃ A c, e = .returned (.tuple #[.slice A 3 c, .int .i64 0]) ∧
    (convert 25 9 (.slice A 3 c)).run Try.prog w' = .ok (.string ⟨#[66, 1, 120]⟩) w' ∧ (convert 25 9 (.slice A 3 c)).run Try.prog w'.drew = .ok (.string ⟨#[66, 1, 120]⟩) w'.drew ∧ Below w.heap.size w w' := by
  refine (mput_any ⟨false, ⟨#[]⟩, 0, 0, ⟨#[]⟩, ⟨#[]⟩, ⟨#[]⟩, ⟨#[120]⟩⟩ ⟨by decide, by decide⟩ w).mono ?_
  rintro e w1 ⟨A, c, rfl, hown, hB⟩
  have e1 : wput (mfields ⟨false, ⟨#[]⟩, 0, 0, ⟨#[]⟩, ⟨#[]⟩, ⟨#[]⟩, ⟨#[120]⟩⟩) = ([66, 1, 120], 0) := by decide +kernel
  rw [e1] at hown ⊢
  exact ⟨A, c, rfl, str_ever hown rfl w1 (Below.refl _ _), str_ever hown rfl w1.drew (Below.refl _ _).drew, hB⟩
theorem awake6_any (w : World) : Calls Try.prog 16 #[] w fun e w' => e = .returned (.bool true) ∧ Below w.heap.size w w' := by
  go_enter Try.func16, Try.ntmps16
  go_wp2_with fail
  refine (mput_x w).mono ?_
  rintro e w1 ⟨A, c, rfl, hs1, hs2, hB⟩
  go_wp2_with fail
  go_ret
  exact ⟨rfl, hB⟩
set_option maxRecDepth 100000 in
set_option maxHeartbeats 4000000 in
theorem mputs_any (m n : MM) (hm : MOk m) (hn : MOk n) (w : World) :
    Calls Try.prog 3 #[.agg m.cells, .agg n.cells] w fun e w' => e = .returned (.bool true) ∧ Below w.heap.size w w' := by
  have hpa := mput_any m hm
  have hra := rmput_any m hm
  have hja := mjoined_any m n
  have hrj := rmjoined_any m n
  obtain ⟨J, hJ⟩ : ∃ J, mjoin m n = J := ⟨_, rfl⟩
  rw [hJ] at hja hrj
  clear hJ
  obtain ⟨j1, j2, j3, j4, j5, j6, j7, j8⟩ := J
  obtain ⟨m1, m2, m3, m4, m5, m6, m7, m8⟩ := m
  obtain ⟨n1, n2, n3, n4, n5, n6, n7, n8⟩ := n
  unfold MM.cells at hja hrj ⊢
  go_enter Try.func3, Try.ntmps3
  go_wp2_with fail
  refine (hpa _).mono ?_
  rintro e w1 ⟨A1, c1, rfl, hown1, hB1⟩
  generalize hL : wput (mfields ⟨m1, m2, m3, m4, m5, m6, m7, m8⟩) = r at *
  obtain ⟨l, er⟩ := r
  have hMm : BoxM w1 w.heap.size ⟨m1, m2, m3, m4, m5, m6, m7, m8⟩ := by
    refine (hB1.block _ (by simp; omega)).trans ?_
    rw [Below.heap_alloc _ _ _ (by simp)]
    exact World.alloc_heap_new w _
  have hMn : BoxM w1 (w.heap.size + 1) ⟨n1, n2, n3, n4, n5, n6, n7, n8⟩ := by
    refine (hB1.block _ (by simp)).trans ?_
    have := World.alloc_heap_new (w.alloc (Obj.cells #[.bool m1, .string m2, .int .u64 m3, .int .u64 m4, .string m5, .string m6, .string m7, .string m8] 24)) (Obj.cells #[.bool n1, .string n2, .int .u64 n3, .int .u64 n4, .string n5, .string n6, .string n7, .string n8] 24)
    rw [World.size_alloc] at this
    exact this
  have hW : Below w.heap.size w w1 := (((Below.refl _ w).alloc (Nat.le_refl _) _).alloc (by simp) _).trans (hB1.mono (by simp; omega))
  clear hB1 hpa
  obtain ⟨x0, x1, x2, x3, x4, x5, x6, x7⟩ := hMm.cells8
  go_wp2_with fail
  refine (hra _).mono ?_
  rintro e w2 ⟨A2, c2, rfl, hown2, hB2⟩
  rw [hL] at hown2 ⊢
  have hown1' := own_kept hown1 hB2 (Nat.le_refl _)
  have hMm2 := hMm.below hB2 hMm.lt
  have hMn2 := hMn.below hB2 hMn.lt
  have hW2 := bel_step hW hB2
  have hs1 := str_ever hown1' rfl
  have hs2 := str_ever hown2 rfl
  clear hown1 hown1' hown2 hB2 hW hMm hMn hra hL x0 x1 x2 x3 x4 x5 x6 x7
  have hW3 : Below w.heap.size w w2.drew := hW2.drew
  have hMm3 : BoxM w2.drew w.heap.size _ := hMm2
  have hMn3 : BoxM w2.drew (w.heap.size + 1) _ := hMn2
  have hs3 : ∀ W, Below w2.drew.heap.size w2.drew W → (convert 25 9 (.slice A1 l.length c1)).run Try.prog W = .ok (.string ⟨l.toArray⟩) W := fun W h => hs1 W ((Below.refl _ w2).drew.trans h)
  have hs4 : ∀ W, Below w2.drew.heap.size w2.drew W → (convert 25 9 (.slice A2 l.length c2)).run Try.prog W = .ok (.string ⟨l.toArray⟩) W := fun W h => hs2 W ((Below.refl _ w2).drew.trans h)
  clear hs1 hs2 hW2 hMm2 hMn2
  go_wp2_with fail
  refine wp_region_L 23 [0, 1, 2, 3, 4, 5, 6, 7, 8, 9, 10, 11, 12, 14, 15, 13, 16, 17, 18, 19, 20, 21, 22] rfl (by decide) (by decide) (by kernel_rfl) ?_
  generalize w2.drew = W2 at *
  have xm0 : ∀ u, Below W2.heap.size W2 u → u.cell? ⟨w.heap.size, 0, none⟩ = some (.bool m1) := fun u hu => (hMm3.below hu hMm3.lt).cell 0
  have xm1 : ∀ u, Below W2.heap.size W2 u → u.cell? ⟨w.heap.size, 1, none⟩ = some (.string m2) := fun u hu => (hMm3.below hu hMm3.lt).cell 1
  have xm2 : ∀ u, Below W2.heap.size W2 u → u.cell? ⟨w.heap.size, 2, none⟩ = some (.int .u64 m3) := fun u hu => (hMm3.below hu hMm3.lt).cell 2
  have xm3 : ∀ u, Below W2.heap.size W2 u → u.cell? ⟨w.heap.size, 3, none⟩ = some (.int .u64 m4) := fun u hu => (hMm3.below hu hMm3.lt).cell 3
  have xm4 : ∀ u, Below W2.heap.size W2 u → u.cell? ⟨w.heap.size, 4, none⟩ = some (.string m5) := fun u hu => (hMm3.below hu hMm3.lt).cell 4
  have xm5 : ∀ u, Below W2.heap.size W2 u → u.cell? ⟨w.heap.size, 5, none⟩ = some (.string m6) := fun u hu => (hMm3.below hu hMm3.lt).cell 5
  have xm6 : ∀ u, Below W2.heap.size W2 u → u.cell? ⟨w.heap.size, 6, none⟩ = some (.string m7) := fun u hu => (hMm3.below hu hMm3.lt).cell 6
  have xm7 : ∀ u, Below W2.heap.size W2 u → u.cell? ⟨w.heap.size, 7, none⟩ = some (.string m8) := fun u hu => (hMm3.below hu hMm3.lt).cell 7
  have xn0 : ∀ u, Below W2.heap.size W2 u → u.cell? ⟨w.heap.size + 1, 0, none⟩ = some (.bool n1) := fun u hu => (hMn3.below hu hMn3.lt).cell 0
  have xn1 : ∀ u, Below W2.heap.size W2 u → u.cell? ⟨w.heap.size + 1, 1, none⟩ = some (.string n2) := fun u hu => (hMn3.below hu hMn3.lt).cell 1
  have xn2 : ∀ u, Below W2.heap.size W2 u → u.cell? ⟨w.heap.size + 1, 2, none⟩ = some (.int .u64 n3) := fun u hu => (hMn3.below hu hMn3.lt).cell 2
  have xn3 : ∀ u, Below W2.heap.size W2 u → u.cell? ⟨w.heap.size + 1, 3, none⟩ = some (.int .u64 n4) := fun u hu => (hMn3.below hu hMn3.lt).cell 3
  have xn4 : ∀ u, Below W2.heap.size W2 u → u.cell? ⟨w.heap.size + 1, 4, none⟩ = some (.string n5) := fun u hu => (hMn3.below hu hMn3.lt).cell 4
  have xn5 : ∀ u, Below W2.heap.size W2 u → u.cell? ⟨w.heap.size + 1, 5, none⟩ = some (.string n6) := fun u hu => (hMn3.below hu hMn3.lt).cell 5
  have xn6 : ∀ u, Below W2.heap.size W2 u → u.cell? ⟨w.heap.size + 1, 6, none⟩ = some (.string n7) := fun u hu => (hMn3.below hu hMn3.lt).cell 6
  have xn7 : ∀ u, Below W2.heap.size W2 u → u.cell? ⟨w.heap.size + 1, 7, none⟩ = some (.string n8) := fun u hu => (hMn3.below hu hMn3.lt).cell 7
  simp only [List.filterMap_cons, List.filterMap_nil, List.getElem?_cons_zero, List.getElem?_cons_succ, Option.map_some]
  repeat (first
    | (refine wpL_take (v := ?_) (by kernel_rfl) (by kernel_rfl) (by kernel_rfl) (fun _ _ _ h => h) (by rfl) (fun u hu => ?_) ?_
       rotate_left
       focus
         unfold Grows at hu
         go_simp
         try with_reducible rfl
       simp only [Act.put, List.setIfInBounds_toArray, List.set_cons_zero, List.set_cons_succ])
    | (refine wpL_pass (by kernel_rfl) (by kernel_rfl) (by kernel_rfl) (fun _ _ _ h => h) (by rfl) ?_; simp only [Act.put, List.setIfInBounds_toArray, List.set_cons_zero, List.set_cons_succ])
    | (refine wpL_do (by kernel_rfl) (by rfl) (fun K hK => ?_); go_simp; go_at_call 14; refine (hja _).mono ?_; rintro e w1 ⟨rfl, hB1⟩; replace hW3 := bel_step hW3 hB1; refine hK _ _ hB1 ?_; clear hK K hB1)
    | (refine wpL_do (by kernel_rfl) (by rfl) (fun K hK => ?_); go_simp; go_at_call 15; refine (hrj _).mono ?_; rintro e w1 ⟨rfl, hB1⟩; replace hW3 := bel_step hW3 hB1; refine hK _ _ hB1 ?_; clear hK K hB1)
    | (refine wpL_do (by kernel_rfl) (by rfl) (fun K hK => ?_); go_simp; go_at_call 16; refine (awake6_any _).mono ?_; rintro e w1 ⟨rfl, hB1⟩; replace hW3 := bel_step hW3 hB1; refine hK _ _ hB1 ?_; clear hK K hB1))
  refine wpL_done (by kernel_rfl) ?_
  go_wp2_with fail
  go_ret
  exact ⟨rfl, hW3⟩
end Go.Proofs.Ytkanhggmhjldmaa

/- THE ROW's STEP, in general: a law that answers true and writes nothing that was there; arguments opened into the words of XBase. -/
namespace Go.Proofs.Ytkanhggmhjldmaa
open Go.ChangeShapes Go.WideShapes Go.ChangeAt Go.RowKit

section
variable {H : Type} {enc : TypeId × Value → H} {P : Program}

theorem trodAll_stays (hl : laidOutB P = true) {W W' : World} (bel : Below W.heap.size W W') :
    ∀ {ts : List TypeId} {vs : List Value} {ds : List (DataW H)} {ps : List MemPlace}, (ts.all fun t => P.readableRec t && decide (t < P.types.size)) = true →
      DataW.TrodAll enc P W 0 (fun _ => true) true ts vs ds ps → (∀ x ∈ ps, x.block < W.heap.size) → DataW.TrodAll enc P W' 0 (fun b => decide (b < W.heap.size)) true ts vs ds ps := by
  intro ts
  induction ts with
  | nil =>
    intro vs ds ps _ h _
    obtain ⟨rfl, rfl, rfl⟩ := trodAll_nil h
    exact trodAll_mk0
  | cons t ts ih =>
    intro vs ds ps hr h hlt
    obtain ⟨v, vs', d, ds', p, q, rfl, rfl, rfl, h1, h2⟩ := trodAll_cons h
    simp only [List.all_cons, Bool.and_eq_true, decide_eq_true_eq] at hr
    exact trodAll_cons_mk (Below.trod hl hr.1.1 hr.1.2 h1 bel (fun x hx => hlt x (List.mem_append.2 (.inl hx))))
      (ih (by simpa only [List.all_eq_true, Bool.and_eq_true, decide_eq_true_eq] using hr.2) h2 (fun x hx => hlt x (List.mem_append.2 (.inr hx))))

theorem law_post {f : Func} {s : ChangeSpec} {W W' : World} {args : Array Value} {ds gs : List (DataW H)} {before : List MemPlace} {tb : TypeId}
    (hW : DataW.Whole enc P f.params.toList s.vars false W args.toList ds gs before) (hv : s.vars = [])
    (hs : s.fn H (ds ++ gs) = { results := [.lit (.bool true)], args := ds }) (hT : f.resultTypes = #[tb]) (hb : P.underlying tb = some .bool)
    (hl : laidOutB P = true) (hr : (f.params.toList.all fun t => P.readableRec t && decide (t < P.types.size)) = true) (bel : Below W.heap.size W W') :
    s.post enc P f false true false false W args (.bool true) W' := by
  have hW' := hW
  have hlt := hW.lt
  obtain ⟨p, q, hA, hV, rfl, hfz, hnd⟩ := hW
  rw [hv] at hV
  obtain ⟨rfl, rfl⟩ := trodVars_none hV
  simp only [List.append_nil] at hlt hW'
  refine ⟨ds, [], p, [], p, [], hW', ?_, ?_, ?_, bel.frame _, fun h => by cases h⟩
  · rw [hs, hT]
    exact trodAll_mk1 (shut_bool hb _)
  · rw [hs]
    exact trodAll_stays hl bel hr hA hlt
  · rw [hs, hv]
    rfl

/-- []byte: nil, empty or not -/
theorem open_bytes {r : Reach} {b0 : Nat} {W : World} {t e : TypeId} {v : Value} {d : DataW H} {p : List MemPlace} (ht : P.underlying t = some (.slice e)) (he : P.underlying e = some (.int .u8)) (hC : P.cellsOf e = 1)
    (hv : Value.okWide P W r b0 t v) (h : DataW.Trod enc P W 0 (fun _ => true) true t v d p) :
    ∃ A c l, v = .slice A l.length c ∧ l.length ≤ c ∧ c ≤ maxLen ∧ Rd W W.heap.size A (bcl l) ∧ (l = [] ∨ ∃ es sp, d = .slice es sp ∧ es.length = l.length) := by
  obtain ⟨a, n, c, rfl⟩ := okWide_slice ht hv
  obtain ⟨fuel, hf⟩ := h
  rcases open_ints ht he hC hf with ⟨hcs, _⟩ | ⟨x, l, c', zs, hcs, _, hl, hm, hz, hx, hcell, hwz⟩
  · simp [Value.cells] at hcs
    obtain ⟨rfl, rfl, rfl⟩ := hcs
    exact ⟨none, 0, [], rfl, Nat.le_refl _, by simp [maxLen], Rd.nil, .inl rfl⟩
  · simp [Value.cells] at hcs
    obtain ⟨rfl, rfl, rfl⟩ := hcs
    simp at hz
    obtain ⟨hd, hp⟩ := Prod.mk.inj hx
    refine ⟨some x, c, (zs.take n).map fun z => UInt8.ofNat z.toNat, by simp [hz, Nat.min_eq_left hl], by simp [hz, Nat.min_eq_left hl, hl], hm, ?_, .inr ⟨_, _, hd, by simp [lits]⟩⟩
    rcases Nat.eq_zero_or_pos n with rfl | hn
    · exact .inl (by simp [bcl])
    · obtain ⟨b, off, spot⟩ := x
      have hc0 := hcell 0 (by omega)
      have hspot : spot = none := by simpa [Addr.add] using World.cell?_spot hc0
      subst hspot
      refine .inr ⟨b, off, rfl, World.block_lt_of_cell? W _ hc0, fun i hi => ?_⟩
      have hi' : i < n := by simp [bcl, hz] at hi; omega
      clear hi
      have hci := hcell i (by omega)
      rw [Addr.add_lit] at hci
      rw [hci]
      have hw := hwz (zs[i]'(by omega)) (List.getElem_mem _)
      have hb : 0 ≤ zs[i]'(by omega) ∧ zs[i]'(by omega) ≤ 255 := by simpa [Lit.wf, IntKind.min, IntKind.max, IntKind.signed, IntKind.bits] using hw
      have hg : zs.getD i 0 = zs[i]'(by omega) := by simp [List.getD, List.getElem?_eq_getElem (show i < zs.length by omega)]
      rw [hg]
      simp only [bcl, List.getElem?_map, List.getElem?_take_of_lt hi', List.getElem?_eq_getElem (show i < zs.length by omega), Option.map_some, UInt8.toNat_ofNat']
      congr 2
      omega
/-- the form's own reach, and a stated bound on the bulk, as bounds on a list's length -/
theorem reach_bytes {ts : List TypeId} {ds : List (DataW H)} (h : (DataW.weightsEach P ts ds).all (· ≤ reachBytes) = true) {j : Nat} {t e : TypeId} {d : DataW H} {l : List UInt8}
    (ht : ts[j]? = some t) (hd : ds[j]? = some d) (hu : P.underlying t = some (.slice e)) (hb : P.bytesOf e = 1) (q : l = [] ∨ ∃ es sp, d = .slice es sp ∧ es.length = l.length) : l.length ≤ 140737488351232 := by
  rcases q with rfl | ⟨es, sp, rfl, e⟩
  · simp
  · have := sized_slice h ht hd hu
    rw [hb] at this
    simp only [reachBytes] at this
    omega
theorem nat_of_u64 {x : Int} (h : (Lit.int .u64 x).wf = true) : ∃ n : Nat, x = n ∧ n < 18446744073709551616 := by
  have hb : 0 ≤ x ∧ x ≤ 18446744073709551615 := by simpa [Lit.wf, IntKind.min, IntKind.max, IntKind.signed, IntKind.bits] using h
  exact ⟨x.toNat, by omega, by omega⟩
theorem nat_of_u32 {x : Int} (h : (Lit.int .u32 x).wf = true) : ∃ n : Nat, x = n ∧ n < 4294967296 := by
  have hb : 0 ≤ x ∧ x ≤ 4294967295 := by simpa [Lit.wf, IntKind.min, IntKind.max, IntKind.signed, IntKind.bits] using h
  exact ⟨x.toNat, by omega, by omega⟩
theorem nat_of_u16 {x : Int} (h : (Lit.int .u16 x).wf = true) : ∃ n : Nat, x = n ∧ n < 65536 := by
  have hb : 0 ≤ x ∧ x ≤ 65535 := by simpa [Lit.wf, IntKind.min, IntKind.max, IntKind.signed, IntKind.bits] using h
  exact ⟨x.toNat, by omega, by omega⟩
theorem nat_of_u8 {x : Int} (h : (Lit.int .u8 x).wf = true) : ∃ n : Nat, x = n ∧ n < 256 := by
  have hb : 0 ≤ x ∧ x ≤ 255 := by simpa [Lit.wf, IntKind.min, IntKind.max, IntKind.signed, IntKind.bits] using h
  exact ⟨x.toNat, by omega, by omega⟩
theorem bd_of_i64 {x : Int} (h : (Lit.int .i64 x).wf = true) : -9223372036854775808 ≤ x ∧ x ≤ 9223372036854775807 := by
  simpa [Lit.wf, IntKind.min, IntKind.max, IntKind.signed, IntKind.bits] using h
end
end Go.Proofs.Ytkanhggmhjldmaa
