/- WALK: the reference's Of of layer 3 -/
import Derived.Test.YtkanhggmhjldmaaRWv
import Derived.Test.YtkanhggmhjldmaaWRo
namespace Go.Proofs.Ytkanhggmhjldmaa
open Go.RowKit Plain

set_option maxRecDepth 100000 in
set_option maxHeartbeats 4000000 in
theorem rof_any (b : List UInt8) (A : Option Addr) (n c : Nat) (hn : b.length = n) (hnc : n ≤ c) (w : World) (hr0 : Rd w w.heap.size A (bcl b)) (hbl : b.length ≤ 140737488355328) :
    Calls Try.prog 21 #[.slice A n c] w (OfPost b w) := by
  by_cases hlong : 4096 < b.length
  · have hb : decide ((4096 : Int) < (n : Int)) = true := decide_eq_true (by omega)
    have hw : wof b = ([], 3) := by unfold wof; rw [if_pos hlong]
    have HW := Lib.hid hw
    clear hlong hw hr0 hn hbl
    go_enter Try.func21, Try.ntmps21
    go_wp2_with fail
    go_ret2
    exact of_err (e := 3) HW.out (Below.refl _ _)
  · have hb : decide ((4096 : Int) < (n : Int)) = false := decide_eq_false (by omega)
    have hw : wof b = wrun b b.length ⟨0, [], []⟩ := by unfold wof; rw [if_neg hlong]
    have HW := Lib.hid hw
    have HN := Lib.hid hn
    have HR := Lib.hid hr0
    have HL : Hid (b.length ≤ 4096) := Lib.hid (by omega)
    clear hlong hw hr0 hn hbl
    go_enter Try.func21, Try.ntmps21
    go_wp2_with fail
    go_loopw [4, 5, 6] (fun o op at_ wr => ∃ (s : RSt) (f : Nat) (Ao Ax : Option Addr) (co cx N M : Nat), o = .slice Ax N cx ∧ op = .slice Ao M co ∧ at_ = .int .i64 s.at_ ∧ s.out.length = N ∧ s.opn.length = M ∧
      wr.ownsRow w.heap.size 3 1 (.slice Ao M co) M (icl s.opn) ∧ wr.ownsRow w.heap.size 49 4 (.slice Ax N cx) N (flc s.out) ∧ Below w.heap.size w wr ∧ wof b = wrun b f s ∧ b.length ≤ f + s.at_) (fun _ _ at_ _ => b.length - (intOf at_).toNat)
    case atStart => exact ⟨⟨0, [], []⟩, b.length, none, none, 0, 0, 0, 0, rfl, rfl, rfl, rfl, rfl, World.ownsRow_nil _ _ _ _, World.ownsRow_nil _ _ _ _, Below.refl _ _, HW.out, by simp⟩
    case round =>
      obtain ⟨s, f, Ao, Ax, co, cx, N, M, rfl, rfl, rfl, hNo, hMo, o1, o2, hB, hw, hf⟩ := hrel
      obtain ⟨p, opn, out⟩ := s
      (try simp only at hNo)
      (try simp only at hMo)
      (try simp only at o1)
      (try simp only at o2)
      (try simp only at hf)
      have HWW := Lib.hid hw
      have HF := Lib.hid hf
      clear hw hf
      by_cases hlt : p < b.length
      · have hlt2 : p < n := by rw [← HN.out]; exact hlt
        have hb2 : decide ((p : Int) < (n : Int)) = true := decide_eq_true (by omega)
        have hto := @wnext_to b ⟨p, opn, out⟩
        have hstep : ∃ f2, f = f2 + 1 ∧ wof b = if (wnext b ⟨p, opn, out⟩).1 = 0 then wrun b f2 (wnext b ⟨p, opn, out⟩).2 else ([], (wnext b ⟨p, opn, out⟩).1) := by
          cases f with
          | zero => have := HF.out; omega
          | succ f2 => exact ⟨f2, rfl, by rw [HWW.out, wrun, if_pos hlt]⟩
        obtain ⟨f2, rfl, hw2⟩ := hstep
        obtain ⟨E, s2, hE⟩ : ∃ E s2, wnext b ⟨p, opn, out⟩ = (E, s2) := ⟨_, _, rfl⟩
        rw [hE] at hto hw2
        have hnx := hE
        unfold wnext at hE
        have hvl := vget_lt b p
        have hcall := rvget_any A n c b HN.out (by have := HL.out; omega) p w.heap.size wr (HR.out.below hB (Nat.le_refl _))
        obtain ⟨r, hr⟩ : ∃ r, vget b p = r := ⟨_, rfl⟩
        simp only at hE hto hw2
        rw [hr] at hcall hvl hE
        obtain ⟨v, to, er⟩ := r
        simp only at hcall hvl hE
        have HW2 := Lib.hid hw2
        have HT := Lib.hid hto
        have HLT := Lib.hid hlt
        clear hto hw2 hlt hnx hr
        by_cases he : er = 0
        · subst he
          rw [if_pos rfl] at hE
          obtain ⟨num, hnm⟩ : ∃ num, v / 8 = num := ⟨_, rfl⟩
          obtain ⟨kind, hkd⟩ : ∃ kind, v % 8 = kind := ⟨_, rfl⟩
          rw [hnm, hkd] at hE
          have hnlt : num < 2305843009213693952 := by omega
          have hsh : (v : Int) / 8 = (num : Int) := by omega
          have hmd : (v : Int) % 8 = (kind : Int) := by omega
          have HM := Lib.hid hMo
          have HNO := Lib.hid hNo
          have HHE := Lib.hid hE
          clear hvl hnm hkd hE hMo hNo
          go_wp2_with fail
          refine hcall.mono ?_
          rintro e w1 ⟨rfl, rfl⟩
          clear hcall
          have hbs := hB.size
          go_wp2_with (at_builtin; refine wpList_app1 rfl _ _ _ rfl elemI rfl o1 rfl rfl (by intro u hu; simp at hu; subst hu; rfl) (by unfold maxLen; omega) (by omega) hbs ?_; intro A5 c5 w5 ho5 hg5 _)
          · have hg : (num : Int) < 1 ∨ 536870912 ≤ (num : Int) := by assumption
            have hE := HHE.out
            rw [if_pos (by omega)] at hE
            obtain ⟨rfl, rfl⟩ := Prod.mk.inj hE
            go_ret2
            exact of_err (by rw [HW2.out, if_neg (by decide)]) hB
          · have hg : 1 ≤ (num : Int) ∧ (num : Int) < 536870912 := by assumption
            have hk3 : kind = 3 := by have := eq_of_beq (by assumption : ((kind : Int) == 3) = true); omega
            have h8 : (8 : Int) ≤ (M : Int) := by assumption
            have hE := HHE.out
            rw [if_neg (by omega), if_pos hk3, if_pos (by rw [HM.out]; omega)] at hE
            obtain ⟨rfl, rfl⟩ := Prod.mk.inj hE
            go_ret2
            exact of_err (by rw [HW2.out, if_neg (by decide)]) hB
          · have hg : 1 ≤ (num : Int) ∧ (num : Int) < 536870912 := by assumption
            have hk3 : kind = 3 := by have := eq_of_beq (by assumption : ((kind : Int) == 3) = true); omega
            have h8 : (M : Int) < 8 := by assumption
            have hE := HHE.out
            rw [if_neg (by omega), if_pos hk3, if_neg (by rw [HM.out]; omega)] at hE
            obtain ⟨rfl, rfl⟩ := Prod.mk.inj hE
            have ho2 := own_other o2 hg5 (fun g cur hh => own_ne o1 (by decide) hh)
            have hBB := own_grown hB o1 hbs hg5
            refine ⟨⟨⟨to, opn ++ [num], out⟩, f2, A5, Ax, c5, cx, N, M + 1, rfl, rfl, rfl, HNO.out, by simp [HM.out], by simpa [icl] using ho5, ho2, hBB, by rw [HW2.out, if_pos rfl], ?_⟩, ?_⟩
            · have := HT.out rfl; have := HF.out; simp only at *; omega
            · have := HT.out rfl; have := HLT.out; simp only [intOf] at *; simp; omega
          · have hg : 1 ≤ (num : Int) ∧ (num : Int) < 536870912 := by assumption
            have hk3 : ¬ kind = 3 := by have a : ¬ (kind : Int) = 3 := (by simpa using (by assumption : ((kind : Int) == 3) = false)); omega
            have hk4 : kind = 4 := by have := eq_of_beq (by assumption : ((kind : Int) == 4) = true); omega
            have h0 : opn = [] := List.eq_nil_of_length_eq_zero (by rw [HM.out]; first | assumption | rfl)
            have hE := HHE.out
            rw [if_neg (by omega), if_neg hk3, if_pos hk4, if_neg (by rw [h0]; simp)] at hE
            obtain ⟨rfl, rfl⟩ := Prod.mk.inj hE
            go_ret2
            exact of_err (by rw [HW2.out, if_neg (by decide)]) hB
          · have hg : 1 ≤ (num : Int) ∧ (num : Int) < 536870912 := by assumption
            have hk3 : ¬ kind = 3 := by have a : ¬ (kind : Int) = 3 := (by simpa using (by assumption : ((kind : Int) == 3) = false)); omega
            have hk4 : kind = 4 := by have := eq_of_beq (by assumption : ((kind : Int) == 4) = true); omega
            have hM0 : ¬ M = 0 := by assumption
            have hE := HHE.out
            rw [if_neg (by omega), if_neg hk3, if_pos hk4] at hE
            rcases List.eq_nil_or_concat opn with h0 | ⟨l, x, h0⟩
            · exact absurd (by rw [← HM.out, h0]; rfl) hM0
            obtain ⟨g, rfl⟩ : ∃ g, Ao = some ⟨g, 0, none⟩ := by
              rcases o1.2 with ⟨_, h00⟩ | ⟨g, cap, cur, hv, _⟩
              · exact absurd h00 hM0
              · injection hv with hA
                exact ⟨g, hA⟩
            obtain ⟨m, hm⟩ : ∃ m, l.length = m := ⟨_, rfl⟩
            have hMm : M = m + 1 := by rw [← HM.out, h0, ← hm]; simp
            have hcap := own_cap o1
            have hx : wr.cell? ⟨g, m, none⟩ = some (.int .i64 x) := by
              have := o1.cellAt m (by omega)
              rw [this, h0]
              simp [icl, ← hm]
            have o3 : wr.ownsRow w.heap.size 3 1 (.slice (some ⟨g, 0, none⟩) m co) m (icl l) := by
              have := own_prefix o1 (m := m) (by omega)
              rwa [show (icl opn).take m = icl l by rw [h0]; simp [icl, ← hm]] at this
            have hw1 : wrap64 ((M : Int) - 1) = (m : Int) := by unfold wrap64; omega
            have hw2 : IntKind.i64.wrap ((M : Int) - 1) = (m : Int) := by rw [show (M : Int) - 1 = (m : Int) by omega]; exact wrap_small m (by omega)
            have hlt1 : (m : Int) < (M : Int) := by omega
            have hlt2' : m < M := by omega
            have hle3 : (m : Int) ≤ (co : Int) := by omega
            have hle4 : m ≤ co := by omega
            have hlast : opn.getLast? = some num ↔ x = num := by rw [h0]; simp
            have hdrop : opn.dropLast = l := by rw [h0]; simp
            rw [hdrop] at hE
            by_cases hxn : x = num
            · rw [if_pos (hlast.2 hxn)] at hE
              obtain ⟨rfl, rfl⟩ := Prod.mk.inj hE
              have hbx : ((x : Int) != (num : Int)) = false := by simp; omega
              clear hlast hdrop hcap hMm hE o1 hg hk3 hk4
              go_simp
              go_wp2_with fail
              refine ⟨⟨⟨to, l, out⟩, f2, some ⟨g, 0, none⟩, Ax, co, cx, N, m, rfl, rfl, rfl, HNO.out, hm, o3, o2, hB, by rw [HW2.out, if_pos rfl], ?_⟩, ?_⟩
              · have := HT.out rfl; have := HF.out; simp only at *; omega
              · have := HT.out rfl; have := HLT.out; simp only [intOf] at *; simp; omega
            · rw [if_neg (fun h => hxn (hlast.1 h))] at hE
              obtain ⟨rfl, rfl⟩ := Prod.mk.inj hE
              have hbx : ((x : Int) != (num : Int)) = true := by simp; omega
              clear hlast hdrop hcap hMm hE o1 hg hk3 hk4
              go_simp
              go_wp2_with fail
              go_ret2
              exact of_err (by rw [HW2.out, if_neg (by decide)]) hB
          · have hg : 1 ≤ (num : Int) ∧ (num : Int) < 536870912 := by assumption
            have hk3 : ¬ kind = 3 := by have a : ¬ (kind : Int) = 3 := (by simpa using (by assumption : ((kind : Int) == 3) = false)); omega
            have hk4 : ¬ kind = 4 := by have a : ¬ (kind : Int) = 4 := (by simpa using (by assumption : ((kind : Int) == 4) = false)); omega
            have hE := HHE.out
            rw [if_neg (by omega), if_neg hk3, if_neg hk4] at hE
            refine (rvalue_any b A n c HN.out hnc (by have := HL.out; omega) to num kind w.heap.size wr hbs (HR.out.below hB (Nat.le_refl _))).mono ?_
            rintro e w2 ⟨rfl, hB2⟩
            obtain ⟨V, hV⟩ : ∃ V, wval b to kind = V := ⟨_, rfl⟩
            rw [hV] at hE ⊢
            obtain ⟨vv, vt, vto, verr⟩ := V
            simp only at hE ⊢
            have o1' := own_kept o1 hB2 (Nat.le_refl _)
            have o2' := own_kept o2 hB2 (Nat.le_refl _)
            have hB3 := bel_step hB hB2
            have hbs3 := hB3.size
            clear o1 o2 hB hB2 hV hbs HHE hg hk3 hk4
            by_cases hve : verr = 0
            · subst hve
              rw [if_pos rfl] at hE
              rw [HM.out, HNO.out] at hE
              by_cases hM0 : M = 0
              · rw [if_pos hM0] at hE
                by_cases hfl : 256 ≤ N
                · rw [if_pos hfl] at hE
                  obtain ⟨rfl, rfl⟩ := Prod.mk.inj hE
                  have hbf : decide ((256 : Int) ≤ (N : Int)) = true := decide_eq_true (by omega)
                  clear hE
                  go_wp2_with fail
                  go_ret2
                  first | exact of_err (by rw [HW2.out, if_neg (by decide)]) hB3 | exact of_err (by rw [HW2.out, if_neg (by decide)]) (hB3.alloc hbs3 _)
                · rw [if_neg hfl] at hE
                  obtain ⟨rfl, rfl⟩ := Prod.mk.inj hE
                  have hbf : decide ((256 : Int) ≤ (N : Int)) = false := decide_eq_false (by omega)
                  clear hE
                  go_wp2_with (at_builtin; refine wpList_appF1 rfl _ _ rfl rfl (o2'.alloc (Obj.cells #[.int .i64 num, .int .i64 kind, .int .u64 vv, .string vt] 49)) ⟨num, kind, vv, vt⟩ rfl (by simp) (by omega) (by simp; omega) ?_; intro A5 c5 w5 ho5 hg5)
                  have o1'' := own_other (o1'.alloc (Obj.cells #[.int .i64 num, .int .i64 kind, .int .u64 vv, .string vt] 49)) hg5 (fun g cur hh => own_ne (o2'.alloc (Obj.cells #[.int .i64 num, .int .i64 kind, .int .u64 vv, .string vt] 49)) (by decide) hh)
                  have hBB := own_grown (hB3.alloc hbs3 (Obj.cells #[.int .i64 num, .int .i64 kind, .int .u64 vv, .string vt] 49)) (o2'.alloc (Obj.cells #[.int .i64 num, .int .i64 kind, .int .u64 vv, .string vt] 49)) (by simp; omega) hg5
                  go_roundw
                  case rel => exact ⟨⟨vto, opn, out ++ [⟨num, kind, vv, vt⟩]⟩, f2, Ao, A5, co, c5, N + 1, M, rfl, by rw [hM0], rfl, by simp [HNO.out], HM.out, o1'', ho5, hBB, by rw [HW2.out, if_pos rfl], by have := HT.out rfl; have := HF.out; simp only at *; omega⟩
                  case measure => have := HT.out rfl; have := HLT.out; simp only [intOf] at *; simp; omega
              · have hMp : 0 < M := by omega
                rw [if_neg hM0] at hE
                obtain ⟨rfl, rfl⟩ := Prod.mk.inj hE
                clear hE
                go_wp2_with fail
                go_roundw
                case rel => exact ⟨⟨vto, opn, out⟩, f2, Ao, Ax, co, cx, N, M, rfl, rfl, rfl, HNO.out, HM.out, o1'.alloc _, o2'.alloc _, hB3.alloc hbs3 _, by rw [HW2.out, if_pos rfl], by have := HT.out rfl; have := HF.out; simp only at *; omega⟩
                case measure => have := HT.out rfl; have := HLT.out; simp only [intOf] at *; simp; omega
            · rw [if_neg hve] at hE
              obtain ⟨rfl, rfl⟩ := Prod.mk.inj hE
              have hbv : ((verr : Int) != 0) = true := by simp; omega
              have HVE := Lib.hid hve
              clear hE hve
              go_wp2_with fail
              go_ret2
              first | exact of_err (by rw [HW2.out, if_neg HVE.out]) hB3 | exact of_err (by rw [HW2.out, if_neg HVE.out]) (hB3.alloc hbs3 _)
          · have hg : (num : Int) < 1 := by assumption
            have hE := HHE.out
            rw [if_pos (by omega)] at hE
            obtain ⟨rfl, rfl⟩ := Prod.mk.inj hE
            go_ret2
            exact of_err (by rw [HW2.out, if_neg (by decide)]) hB
        · rw [if_neg he] at hE
          obtain ⟨rfl, rfl⟩ := Prod.mk.inj hE
          have hbe : ((er : Int) != 0) = true := by simp; omega
          have HE := Lib.hid he
          clear he hE hvl
          go_wp2_with fail
          refine hcall.mono ?_
          rintro e w1 ⟨rfl, rfl⟩
          go_wp2_with fail
          go_ret2
          exact of_err (by rw [HW2.out, if_neg HE.out]) hB
      · have hlt2 : ¬ p < n := by rw [← HN.out]; exact hlt
        have hb2 : decide ((p : Int) < (n : Int)) = false := decide_eq_false (by omega)
        have hw2 := HWW.out
        rw [wrun_stop hlt] at hw2
        have HW2 := Lib.hid hw2
        clear hw2 hlt
        by_cases ho : M = 0
        · subst ho
          have HMO := Lib.hid hMo
          subst hNo
          clear hMo
          go_wp2_with fail
          go_ret2
          have hw3 : wof b = (out, 0) := by rw [HW2.out, if_pos HMO.out]
          exact ⟨Ax, cx, by rw [hw3]; rfl, by rw [hw3]; exact o2, hB⟩
        · have hpos : 0 < M := by omega
          have HO : Hid (¬ opn.length = 0) := Lib.hid (by rw [hMo]; exact ho)
          clear ho hMo
          go_wp2_with fail
          go_ret2
          exact of_err (e := 2) (by rw [HW2.out, if_neg HO.out]) hB
end Go.Proofs.Ytkanhggmhjldmaa
