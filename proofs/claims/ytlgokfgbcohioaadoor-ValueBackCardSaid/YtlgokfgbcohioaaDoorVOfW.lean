/- WALKS: value.Of -/
import Derived.Test.YtlgokfgbcohioaaDoorVOf
import Derived.LoopTactic
import Derived.Laws.ResultCell
import Derived.RangeFuncRecord
import Derived.BigQuiet
import Derived.Deep.QuietTactic
namespace Go.Proofs.YtlgokfgbcohioaaDoor
open Go.RowKit Plain

def Box3 (W : World) (B : Nat) (v : VV) : Prop := W.heap[B]? = some (.cells v.cells 42 (0, 0))
theorem Box3.cell {W : World} {B : Nat} {v : VV} (h : Box3 W B v) (i : Nat) : W.cell? ⟨B, i, none⟩ = v.cells[i]? := by simp [World.cell?, show W.heap[B]? = _ from h]
theorem Box3.frozen {W : World} {B : Nat} {v : VV} (h : Box3 W B v) (i : Nat) : W.frozen? ⟨B, i, none⟩ = false := by simp [World.frozen?, show W.heap[B]? = _ from h]
theorem Box3.new (W : World) (v : VV) : Box3 (W.alloc (.cells v.cells 42)) W.heap.size v := World.alloc_heap_new W _

theorem Box3.alloc {W : World} {B : Nat} {v : VV} (h : Box3 W B v) (o : Obj) : Box3 (W.alloc o) B v := (Below.heap_alloc W o B (Array.getElem?_eq_some_iff.1 h).1).trans h
theorem Box3.set3 {W : World} {B : Nat} {v : VV} (h : Box3 W B v) (u : VV) : Box3 (((W.setCell ⟨B, 0, none⟩ (.int .i64 u.k)).setCell ⟨B, 1, none⟩ (.int .u64 u.n)).setCell ⟨B, 2, none⟩ (.string u.s)) B u := by
  have h1 := heap_setCell_same W B 0 v.cells _ (.int .i64 u.k) h
  have h2 := heap_setCell_same _ B 1 _ _ (.int .u64 u.n) h1
  exact heap_setCell_same _ B 2 _ _ (.string u.s) h2
theorem Box3.other3 {W : World} {B C : Nat} {v : VV} (h : Box3 W B v) (hne : C ≠ B) (x y z : Value) : Box3 (((W.setCell ⟨C, 0, none⟩ x).setCell ⟨C, 1, none⟩ y).setCell ⟨C, 2, none⟩ z) B v :=
  ((heap_setCell_other _ ⟨C, 2, none⟩ B z hne.symm).trans ((heap_setCell_other _ ⟨C, 1, none⟩ B y hne.symm).trans (heap_setCell_other _ ⟨C, 0, none⟩ B x hne.symm))).trans h
theorem Box3.drewN {W : World} {B : Nat} {v : VV} (h : Box3 W B v) (n : Nat) : Box3 (W.drewN n) B v := h
/-- in a round: the result's box, v's, f's; the table -/
structure InB (w W : World) (fb : Nat) (acc : VV) (f : Fld) : Prop where
  R : Box3 W w.heap.size VV.zero
  V : Box3 W (w.heap.size + 1) acc
  F : W.heap[fb]? = some (.cells #[.int .i64 f.num, .int .i64 f.kind, .int .u64 f.val, .string f.text] 73 (0, 0))
  K : Kinds W
  bel : Below w.heap.size w W
theorem InB.drewN {w W : World} {fb : Nat} {acc : VV} {f : Fld} (h : InB w W fb acc f) (n : Nat) : InB w (W.drewN n) fb acc f := ⟨h.R, h.V, h.F, h.K, below_drewN h.bel n⟩
theorem InB.cells {w W : World} {fb : Nat} {acc : VV} {f : Fld} (h : InB w W fb acc f) :
    W.cell? ⟨fb, 0, none⟩ = some (.int .i64 f.num) ∧ W.cell? ⟨fb, 1, none⟩ = some (.int .i64 f.kind) ∧ W.cell? ⟨fb, 2, none⟩ = some (.int .u64 f.val) ∧ W.cell? ⟨fb, 3, none⟩ = some (.string f.text) := by
  refine ⟨?_, ?_, ?_, ?_⟩ <;> simp [World.cell?, h.F]
theorem InB.boxes {w W : World} {fb : Nat} {acc : VV} {f : Fld} (h : InB w W fb acc f) :
    (W.cell? ⟨w.heap.size, 0, none⟩ = some (.int .i64 0) ∧ W.cell? ⟨w.heap.size, 1, none⟩ = some (.int .u64 0) ∧ W.cell? ⟨w.heap.size, 2, none⟩ = some (.string ⟨#[]⟩)) ∧
    (W.cell? ⟨w.heap.size + 1, 0, none⟩ = some (.int .i64 acc.k) ∧ W.cell? ⟨w.heap.size + 1, 1, none⟩ = some (.int .u64 acc.n) ∧ W.cell? ⟨w.heap.size + 1, 2, none⟩ = some (.string acc.s)) ∧
    (W.frozen? ⟨w.heap.size, 0, none⟩ = false ∧ W.frozen? ⟨w.heap.size, 1, none⟩ = false ∧ W.frozen? ⟨w.heap.size, 2, none⟩ = false) ∧
    (W.frozen? ⟨w.heap.size + 1, 0, none⟩ = false ∧ W.frozen? ⟨w.heap.size + 1, 1, none⟩ = false ∧ W.frozen? ⟨w.heap.size + 1, 2, none⟩ = false) :=
  ⟨⟨h.R.cell 0, h.R.cell 1, h.R.cell 2⟩, ⟨h.V.cell 0, h.V.cell 1, h.V.cell 2⟩, ⟨h.R.frozen 0, h.R.frozen 1, h.R.frozen 2⟩, ⟨h.V.frozen 0, h.V.frozen 1, h.V.frozen 2⟩⟩
theorem below_set3 {w W : World} {B : Nat} (h : Below w.heap.size w W) (hB : w.heap.size ≤ B) (x y z : Value) : Below w.heap.size w (((W.setCell ⟨B, 0, none⟩ x).setCell ⟨B, 1, none⟩ y).setCell ⟨B, 2, none⟩ z) :=
  ((h.setCell (p := ⟨B, 0, none⟩) hB _).setCell (p := ⟨B, 1, none⟩) hB _).setCell (p := ⟨B, 2, none⟩) hB _
theorem InB.fresh {w wr : World} {acc : VV} {f : Fld} (hR : Box3 wr w.heap.size VV.zero) (hV : Box3 wr (w.heap.size + 1) acc) (hK : Kinds wr) (hB : Below w.heap.size w wr) :
    InB w (wr.alloc (.cells #[.int .i64 f.num, .int .i64 f.kind, .int .u64 f.val, .string f.text] 73)) wr.heap.size acc f :=
  ⟨hR.alloc _, hV.alloc _, World.alloc_heap_new wr _, hK.below ((Below.refl wr.heap.size wr).alloc (Nat.le_refl _) _) hK.pos, hB.alloc hB.size _⟩
theorem vkof_bd {num base : Int} {raw : Bool} (h : ¬ vkof num base raw = 0) : 1 ≤ vkof num base raw ∧ vkof num base raw ≤ 7 := by
  unfold vkof at h ⊢
  split at h
  · rename_i h1; rw [if_pos h1]; omega
  · omega
theorem vgreat_lim {k : Int} {n : Nat} (hk0 : 1 ≤ k) (hk1 : k ≤ 7) (hn : n < 18446744073709551616) : vgreat k n = (!vtextual k && decide (vlimit k < (n : Int))) := by
  have h : k = 1 ∨ k = 2 ∨ k = 3 ∨ k = 4 ∨ k = 5 ∨ k = 6 ∨ k = 7 := by omega
  rcases h with rfl | rfl | rfl | rfl | rfl | rfl | rfl <;> simp [vgreat, vtextual, vlimit] <;> omega

set_option maxHeartbeats 1000000 in
theorem vof_any (l : List Fld) (A : Option Addr) (c : Nat) (base : Int) (raw : Bool) (hl : l.length ≤ 9223372036854775807) (hwf : ∀ f ∈ l, -9223372036854775808 ≤ f.num ∧ f.num ≤ 9223372036854775807 ∧ f.val < 18446744073709551616) (w : World) (hr : Rd w w.heap.size A (flc l)) (hK : Kinds w) :
    Calls Tryd.prog 31 #[.slice A l.length c, .int .i64 base, .bool raw] w fun e w' => e = .returned (.tuple #[.agg (vof base raw l).1.cells, .int .i64 (vof base raw l).2]) ∧ Below w.heap.size w w' := by
  by_cases hb : 1 ≤ base ∧ base ≤ 1000
  · have hbd : decide (1 ≤ base ∧ base ≤ 1000) = true := by simpa using hb
    have hv : vof base raw l = vofs base raw l VV.zero := by unfold vof; rw [if_pos hb]
    rw [hv]
    have HR := Lib.hid hr
    have HWF := Lib.hid hwf
    have HKK := Lib.hid hK
    clear hr hv hwf hK
    generalize hres : vofs base raw l VV.zero = res at *
    have HRES := Lib.hid hres
    clear hres
    go_enter Tryd.func31, Tryd.ntmps31
    go_wp2_with (go_at_call 52; refine (based_any _ _).mono ?_; rintro e w1 ⟨rfl, rfl⟩)
    go_loopw [18] (fun i wr => ∃ (j : Nat) (acc : VV), i = .int .i64 j ∧ j ≤ l.length ∧ vofs base raw (l.drop j) acc = res ∧ Box3 wr w.heap.size VV.zero ∧ Box3 wr (w.heap.size + 1) acc ∧ Below w.heap.size w wr) (fun i _ => l.length - (intOf i).toNat)
    case atStart =>
      refine ⟨0, VV.zero, rfl, Nat.zero_le _, HRES.out, ?_, ?_, ((Below.refl _ w).alloc (Nat.le_refl _) _).alloc (by simp) _⟩
      · exact (Below.heap_alloc _ _ _ (by simp)).trans (Box3.new w VV.zero)
      · have := Box3.new (w.alloc (.cells VV.zero.cells 42)) VV.zero
        rw [World.size_alloc] at this
        exact this
    case round =>
      obtain ⟨j, acc, rfl, hj, he, hbR, hbV, hB⟩ := hrel
      have r0 : wr.cell? ⟨w.heap.size, 0, none⟩ = some (.int .i64 0) := hbR.cell 0
      have r1 : wr.cell? ⟨w.heap.size, 1, none⟩ = some (.int .u64 0) := hbR.cell 1
      have r2 : wr.cell? ⟨w.heap.size, 2, none⟩ = some (.string ⟨#[]⟩) := hbR.cell 2
      have v0 : wr.cell? ⟨w.heap.size + 1, 0, none⟩ = some (.int .i64 acc.k) := hbV.cell 0
      have v1 : wr.cell? ⟨w.heap.size + 1, 1, none⟩ = some (.int .u64 acc.n) := hbV.cell 1
      have v2 : wr.cell? ⟨w.heap.size + 1, 2, none⟩ = some (.string acc.s) := hbV.cell 2
      have f0 := hbR.frozen 0
      have f1 := hbR.frozen 1
      have f2 := hbR.frozen 2
      have f3 := hbV.frozen 0
      have f4 := hbV.frozen 1
      have f5 := hbV.frozen 2
      have HE := Lib.hid he
      clear he
      by_cases hlt : j < l.length
      · obtain ⟨f, hf⟩ : ∃ f, l[j]? = some f := ⟨_, List.getElem?_eq_getElem hlt⟩
        have hdrop : l.drop j = f :: l.drop (j + 1) := by
          obtain ⟨h1, h2⟩ := List.getElem?_eq_some_iff.1 hf
          rw [List.drop_eq_getElem_cons h1, h2]
        obtain ⟨hn0, hn1, hn2⟩ := HWF.out f (List.mem_of_getElem? hf)
        have hlen := flc_len l
        obtain ⟨b1, o1, rfl, hb1, hc1⟩ := (HR.out.below hB (by omega)).some_ (by omega)
        have g1 : ∀ i, i < 4 → wr.cell? ⟨b1, o1 + j * 4 + i, none⟩ = f.cells[i]? := fun i hi => by
          rw [show o1 + j * 4 + i = o1 + (4 * j + i) by omega]; exact (hc1 _ (by omega)).trans (flc_at hf i hi)
        have g10 : wr.cell? ⟨b1, o1 + j * 4, none⟩ = some (.int .i64 f.num) := g1 0 (by omega)
        have g11 : wr.cell? ⟨b1, o1 + j * 4 + 1, none⟩ = some (.int .i64 f.kind) := g1 1 (by omega)
        have g12 : wr.cell? ⟨b1, o1 + j * 4 + 2, none⟩ = some (.int .u64 f.val) := g1 2 (by omega)
        have g13 : wr.cell? ⟨b1, o1 + j * 4 + 3, none⟩ = some (.string f.text) := g1 3 (by omega)
        have hKw : Kinds wr := HKK.out.below hB HKK.out.pos
        obtain ⟨hb10, hb11⟩ := hb
        have hstep : vofs base raw (f :: l.drop (j + 1)) acc = res := hdrop ▸ HE.out
        have HS := Lib.hid hstep
        clear hstep hdrop hc1 g1 hlen hf HWF HR HE
        generalize hkk : vkof f.num base raw = kk at *
        have HKV := Lib.hid hkk
        clear hkk
        by_cases hk0 : kk = 0
        · subst hk0
          go_wp2_with (go_at_call 55; refine (kindOf_any _ _ _ hn0 hn1 hb10 hb11 _).mono ?_; rintro e w1 ⟨rfl, rfl⟩; rw [HKV.out])
          go_roundw
          case rel => exact ⟨j + 1, acc, by go_num, by omega, by have e := HS.out; rwa [vofs, if_pos HKV.out] at e, hbR.alloc _, hbV.alloc _, hB.alloc hB.size _⟩
          case measure => simp [intOf]; omega
        · have hk0' : (kk == 0) = false := by simpa using hk0
          have hkb : 1 ≤ kk ∧ kk ≤ 7 := by rw [← HKV.out]; exact vkof_bd (by rw [HKV.out]; exact hk0)
          obtain ⟨hkb0, hkb1⟩ := hkb
          have hgl := vgreat_lim hkb0 hkb1 hn2
          have hnz : ¬ vkof f.num base raw = 0 := by rw [HKV.out]; exact hk0
          have hs2 : res = if ¬ f.kind = vkind kk then (VV.zero, 4) else if vgreat kk f.val = true then (VV.zero, 5) else vofs base raw (l.drop (j + 1)) ⟨kk, f.val, f.text⟩ := by
            have e := HS.out
            rw [vofs, if_neg hnz, HKV.out] at e
            exact e.symm
          have HS2 := Lib.hid hs2
          have HGL := Lib.hid hgl
          have hin := InB.fresh (f := f) hbR hbV hKw hB
          go_wp2_with (go_at_call 55; refine (kindOf_any _ _ _ hn0 hn1 hb10 hb11 _).mono ?_; rintro e w1 ⟨rfl, rfl⟩; rw [HKV.out])
          generalize hfb : wr.heap.size = fb at *
          generalize wr.alloc (.cells #[.int .i64 f.num, .int .i64 f.kind, .int .u64 f.val, .string f.text] 73) = W2 at *
          obtain ⟨e0, e1, e2, e3⟩ := hin.cells
          have hKk : W2.cell? ⟨0, kk.toNat, none⟩ = some (.int .i64 (vkind kk)) := by
            have := hin.K kk.toNat (by omega)
            rwa [show ((kk.toNat : Nat) : Int) = kk by omega] at this
          have hk8 : kk < 8 := by omega
          have hk00 : 0 ≤ kk := by omega
          clear hs2 hgl hnz r0 r1 r2 v0 v1 v2 f0 f1 f2 f3 f4 f5 g10 g11 g12 g13 hbR hbV hKw hB hfb HS
          obtain ⟨⟨r0, r1, r2⟩, ⟨v0, v1, v2⟩, ⟨f0, f1, f2⟩, f3, f4, f5⟩ := hin.boxes
          by_cases hkd : f.kind = vkind kk
          · have hkb : (f.kind != vkind kk) = false := by simpa using hkd
            have HKD := Lib.hid hkd
            clear hkd
            go_quiet (fail)
            go_wp2_with fail
            clear r0 r1 r2 v0 v1 v2 f0 f1 f2 f3 f4 f5 e0 e1 e2 e3 hKk
            have hin3 := hin.drewN nq
            clear hin
            generalize W2.drewN nq = W3 at *
            obtain ⟨⟨r0, r1, r2⟩, ⟨v0, v1, v2⟩, ⟨f0, f1, f2⟩, f3, f4, f5⟩ := hin3.boxes
            obtain ⟨e0, e1, e2, e3⟩ := hin3.cells
            have hin := hin3
            cases hT : vtextual kk
            · cases hd : decide (vlimit kk < (f.val : Int))
              · go_quiet (first | (go_at_call 53; exact Calls.quiet_of_same ((textual_any kk _).mono fun _ _ h => ⟨h.1, h.2.symm⟩)) | (go_at_call 54; exact Calls.quiet_of_same ((limit_any kk _).mono fun _ _ h => ⟨h.1, h.2.symm⟩)))
                go_wp2_with fail
                go_roundw
                case rel => exact ⟨j + 1, ⟨kk, f.val, f.text⟩, by go_num, by omega, by rw [HS2.out, if_neg (fun h => h HKD.out), if_neg (by rw [HGL.out, hT, hd]; simp)], (hin.R.other3 (by omega) _ _ _).drewN _, (hin.V.set3 ⟨kk, f.val, f.text⟩).drewN _, below_drewN (below_set3 hin.bel (by omega) _ _ _) _⟩
                case measure => simp [intOf]; omega
              · go_quiet (first | (go_at_call 53; exact Calls.quiet_of_same ((textual_any kk _).mono fun _ _ h => ⟨h.1, h.2.symm⟩)) | (go_at_call 54; exact Calls.quiet_of_same ((limit_any kk _).mono fun _ _ h => ⟨h.1, h.2.symm⟩)))
                go_wp2_with fail
                (try simp only [Exit.inBlock, Exit.then])
                refine bodyPost_ret (v := .tuple #[.agg VV.zero.cells, .int .i64 5]) ?_ rfl ⟨?_, below_set3 (below_drewN hin.bel _) (Nat.le_refl _) _ _ _⟩
                · rw [results_cell_tmp rfl]; go_simp; rfl
                · rw [HS2.out, if_neg (fun h => h HKD.out), if_pos (by rw [HGL.out, hT, hd]; rfl)]
            · go_quiet (first | (go_at_call 53; exact Calls.quiet_of_same ((textual_any kk _).mono fun _ _ h => ⟨h.1, h.2.symm⟩)) | (go_at_call 54; exact Calls.quiet_of_same ((limit_any kk _).mono fun _ _ h => ⟨h.1, h.2.symm⟩)))
              go_wp2_with fail
              go_roundw
              case rel => exact ⟨j + 1, ⟨kk, f.val, f.text⟩, by go_num, by omega, by rw [HS2.out, if_neg (fun h => h HKD.out), if_neg (by rw [HGL.out, hT]; simp)], (hin.R.other3 (by omega) _ _ _).drewN _, (hin.V.set3 ⟨kk, f.val, f.text⟩).drewN _, below_drewN (below_set3 hin.bel (by omega) _ _ _) _⟩
              case measure => simp [intOf]; omega
          · have hkb : (f.kind != vkind kk) = true := by simpa using hkd
            have HKD := Lib.hid hkd
            clear hkd
            go_quiet (fail)
            go_wp2_with fail
            (try simp only [Exit.inBlock, Exit.then])
            refine bodyPost_ret (v := .tuple #[.agg VV.zero.cells, .int .i64 4]) ?_ rfl ⟨?_, below_set3 (below_drewN hin.bel _) (Nat.le_refl _) _ _ _⟩
            · rw [results_cell_tmp rfl]; go_simp; rfl
            · rw [HS2.out, if_pos HKD.out]
      · go_wp2_with fail
        (try simp only [Exit.inBlock, Exit.then])
        refine bodyPost_ret (v := .tuple #[.agg acc.cells, .int .i64 0]) ?_ rfl ⟨?_, ((hB.setCell (p := ⟨w.heap.size, 0, none⟩) (Nat.le_refl _) _).setCell (p := ⟨w.heap.size, 1, none⟩) (Nat.le_refl _) _).setCell (p := ⟨w.heap.size, 2, none⟩) (Nat.le_refl _) _⟩
        · rw [results_cell_tmp rfl]; go_simp; rfl
        · have e := HE.out
          rw [List.drop_eq_nil_of_le (by omega)] at e
          rw [← e]; rfl
  · have hbd : decide (1 ≤ base ∧ base ≤ 1000) = false := by simpa using hb
    have hv : vof base raw l = (VV.zero, 1) := by unfold vof; rw [if_neg hb]
    rw [hv]
    clear hv hb hr hwf hK
    go_enter Tryd.func31, Tryd.ntmps31
    go_wp2_with (go_at_call 52; refine (based_any _ _).mono ?_; rintro e w1 ⟨rfl, rfl⟩)
    (try simp only [Exit.inBlock, Exit.then])
    refine bodyPost_ret (v := .tuple #[.agg VV.zero.cells, .int .i64 1]) ?_ rfl ⟨rfl, ((Below.refl _ w).alloc (Nat.le_refl _) _).alloc (by simp) _⟩
    rw [results_cell_tmp rfl]; go_simp; rfl
end Go.Proofs.YtlgokfgbcohioaaDoor
