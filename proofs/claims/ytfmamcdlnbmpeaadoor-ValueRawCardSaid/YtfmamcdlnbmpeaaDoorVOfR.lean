/- WALKS: the reference's Of -/
import Derived.Test.YtfmamcdlnbmpeaaDoorVOfW
import Derived.StillTailTactics
namespace Go.Proofs.YtfmamcdlnbmpeaaDoor
open Go.RowKit Plain

structure InB2 (w W : World) (acc : VV) : Prop where
  R : Box3 W w.heap.size VV.zero
  V : Box3 W (w.heap.size + 1) acc
  bel : Below w.heap.size w W
theorem InB2.drewN {w W : World} {acc : VV} (h : InB2 w W acc) (n : Nat) : InB2 w (W.drewN n) acc := ⟨h.R, h.V, below_drewN h.bel n⟩
theorem InB2.boxes {w W : World} {acc : VV} (h : InB2 w W acc) :
    (W.cell? ⟨w.heap.size, 0, none⟩ = some (.int .i64 0) ∧ W.cell? ⟨w.heap.size, 1, none⟩ = some (.int .u64 0) ∧ W.cell? ⟨w.heap.size, 2, none⟩ = some (.string ⟨#[]⟩)) ∧
    (W.cell? ⟨w.heap.size + 1, 0, none⟩ = some (.int .i64 acc.k) ∧ W.cell? ⟨w.heap.size + 1, 1, none⟩ = some (.int .u64 acc.n) ∧ W.cell? ⟨w.heap.size + 1, 2, none⟩ = some (.string acc.s)) ∧
    (W.frozen? ⟨w.heap.size, 0, none⟩ = false ∧ W.frozen? ⟨w.heap.size, 1, none⟩ = false ∧ W.frozen? ⟨w.heap.size, 2, none⟩ = false) ∧
    (W.frozen? ⟨w.heap.size + 1, 0, none⟩ = false ∧ W.frozen? ⟨w.heap.size + 1, 1, none⟩ = false ∧ W.frozen? ⟨w.heap.size + 1, 2, none⟩ = false) :=
  ⟨⟨h.R.cell 0, h.R.cell 1, h.R.cell 2⟩, ⟨h.V.cell 0, h.V.cell 1, h.V.cell 2⟩, ⟨h.R.frozen 0, h.R.frozen 1, h.R.frozen 2⟩, ⟨h.V.frozen 0, h.V.frozen 1, h.V.frozen 2⟩⟩

/-- a field stands at o -/
def InF (W : World) (b o : Nat) (f : Fld) : Prop :=
  W.cell? ⟨b, o, none⟩ = some (.int .i64 f.num) ∧ W.cell? ⟨b, o + 1, none⟩ = some (.int .i64 f.kind) ∧ W.cell? ⟨b, o + 2, none⟩ = some (.int .u64 f.val) ∧ W.cell? ⟨b, o + 3, none⟩ = some (.string f.text)
theorem InF.drewN {W : World} {b o : Nat} {f : Fld} (h : InF W b o f) (n : Nat) : InF (W.drewN n) b o f := h

set_option maxHeartbeats 2000000 in
theorem rvof_any (l : List Fld) (A : Option Addr) (c : Nat) (base : Int) (raw : Bool) (hl : l.length ≤ 9223372036854775807) (hwf : ∀ f ∈ l, -9223372036854775808 ≤ f.num ∧ f.num ≤ 9223372036854775807 ∧ f.val < 18446744073709551616) (w : World) (hr : Rd w w.heap.size A (flc l)) :
    Calls Tryd.prog 15 #[.slice A l.length c, .int .i64 base, .bool raw] w fun e w' => e = .returned (.tuple #[.agg (vof base raw l).1.cells, .int .i64 (vof base raw l).2]) ∧ Below w.heap.size w w' := by
  by_cases hb : 1 ≤ base ∧ base ≤ 1000
  · have hv : vof base raw l = vofs base raw l VV.zero := by unfold vof; rw [if_pos hb]
    rw [hv]
    have HR := Lib.hid hr
    have HWF := Lib.hid hwf
    obtain ⟨hb10, hb11⟩ := hb
    clear hr hv hwf
    generalize hres : vofs base raw l VV.zero = res at *
    have HRES := Lib.hid hres
    clear hres
    obtain ⟨M, hM⟩ : ∃ M : Int, M = if raw = true then 7 else 6 := ⟨_, rfl⟩
    have HM := Lib.hid hM
    have hcase : raw = true ∧ M = 7 ∨ raw = false ∧ M = 6 := by cases raw <;> simp [hM]
    have hi0 : (w.alloc (Obj.cells #[Value.int IntKind.i64 0, Value.int IntKind.u64 0, Value.string ⟨#[]⟩] 24)).heap.size = w.heap.size + 1 := by simp
    clear hM
    rcases hcase with ⟨rfl, rfl⟩ | ⟨rfl, rfl⟩
    · go_enter Tryd.func15, Tryd.ntmps15
      go_wp2_with fail
      go_loopw [10] (fun i wr => ∃ (j : Nat) (acc : VV), i = .int .i64 j ∧ j ≤ l.length ∧ vofs base true (l.drop j) acc = res ∧ InB2 w wr acc) (fun i _ => l.length - (intOf i).toNat)
      case atStart =>
        refine ⟨0, VV.zero, rfl, Nat.zero_le _, HRES.out, ?_, ?_, ((Below.refl _ w).alloc (Nat.le_refl _) _).alloc (by simp) _⟩
        · exact (Below.heap_alloc _ _ _ (by simp)).trans (Box3.new w VV.zero)
        · have := Box3.new (w.alloc (.cells VV.zero.cells 24)) VV.zero
          rw [World.size_alloc] at this
          exact this
      case round =>
        obtain ⟨j, acc, rfl, hj, he, hin⟩ := hrel
        obtain ⟨⟨r0, r1, r2⟩, ⟨v0, v1, v2⟩, ⟨f0, f1, f2⟩, f3, f4, f5⟩ := hin.boxes
        have HE := Lib.hid he
        clear he
        by_cases hlt : j < l.length
        · obtain ⟨f, hf⟩ : ∃ f, l[j]? = some f := ⟨_, List.getElem?_eq_getElem hlt⟩
          have hdrop : l.drop j = f :: l.drop (j + 1) := by
            obtain ⟨h1, h2⟩ := List.getElem?_eq_some_iff.1 hf
            rw [List.drop_eq_getElem_cons h1, h2]
          obtain ⟨hn0, hn1, hn2⟩ := HWF.out f (List.mem_of_getElem? hf)
          have hlen := flc_len l
          obtain ⟨b1, o1, rfl, hb1, hc1⟩ := (HR.out.below hin.bel (by omega)).some_ (by omega)
          have g1 : ∀ i, i < 4 → wr.cell? ⟨b1, o1 + j * 4 + i, none⟩ = f.cells[i]? := fun i hi => by
            rw [show o1 + j * 4 + i = o1 + (4 * j + i) by omega]; exact (hc1 _ (by omega)).trans (flc_at hf i hi)
          have g10 : wr.cell? ⟨b1, o1 + j * 4, none⟩ = some (.int .i64 f.num) := g1 0 (by omega)
          have g11 : wr.cell? ⟨b1, o1 + j * 4 + 1, none⟩ = some (.int .i64 f.kind) := g1 1 (by omega)
          have g12 : wr.cell? ⟨b1, o1 + j * 4 + 2, none⟩ = some (.int .u64 f.val) := g1 2 (by omega)
          have g13 : wr.cell? ⟨b1, o1 + j * 4 + 3, none⟩ = some (.string f.text) := g1 3 (by omega)
          have hstep : vofs base true (f :: l.drop (j + 1)) acc = res := hdrop ▸ HE.out
          have HS := Lib.hid hstep
          clear hstep hdrop hc1 g1 hlen hf HWF HR HE
          by_cases hlo : f.num < base
          · have hk0 : vkof f.num base true = 0 := by unfold vkof; rw [if_neg (by omega)]
            have HK0 := Lib.hid hk0
            clear hk0
            go_wp2_with fail
            go_roundw
            case rel => exact ⟨j + 1, acc, by go_num, by omega, by have e := HS.out; rwa [vofs, if_pos HK0.out] at e, hin⟩
            case measure => simp [intOf]; omega
          by_cases hhi : base + 7 ≤ f.num
          · have hk0 : vkof f.num base true = 0 := by unfold vkof; rw [if_neg (by omega)]
            have HK0 := Lib.hid hk0
            clear hk0
            go_wp2_with fail
            go_roundw
            case rel => exact ⟨j + 1, acc, by go_num, by omega, by have e := HS.out; rwa [vofs, if_pos HK0.out] at e, hin⟩
            case measure => simp [intOf]; omega
          have hkv : vkof f.num base true = f.num - base + 1 := by unfold vkof; rw [if_pos ⟨by omega, by omega, fun _ => rfl⟩]
          have hs2 : res = if ¬ f.kind = vkind (f.num - base + 1) then (VV.zero, 4) else if vgreat (f.num - base + 1) f.val = true then (VV.zero, 5) else vofs base true (l.drop (j + 1)) ⟨f.num - base + 1, f.val, f.text⟩ := by
            have e := HS.out
            rw [vofs, if_neg (by rw [hkv]; omega), hkv] at e
            exact e.symm
          have HS2 := Lib.hid hs2
          clear hs2 hkv HS
          have hF : InF wr b1 (o1 + j * 4) f := ⟨g10, g11, g12, g13⟩
          by_cases hkd : f.kind = vkind (f.num - base + 1)
          · have hkb : (f.kind != vkind (f.num - base + 1)) = false := by simpa using hkd
            have HKD := Lib.hid hkd
            clear hkd
            go_wp2_with fail
            go_quiet (first | (go_at_call 17; exact Calls.quiet_of_same ((kind_any _ _).mono fun _ _ h => ⟨h.1, h.2.symm⟩)) | (go_at_call 20; exact Calls.quiet_of_same ((great_any _ _ _).mono fun _ _ h => ⟨h.1, h.2.symm⟩)))
            go_wp2_with fail
            have hin3 := hin.drewN nq
            have hF3 := hF.drewN nq
            clear hin hF r0 r1 r2 v0 v1 v2 f0 f1 f2 f3 f4 f5 g10 g11 g12 g13
            generalize wr.drewN nq = W3 at *
            obtain ⟨⟨r0, r1, r2⟩, ⟨v0, v1, v2⟩, ⟨f0, f1, f2⟩, f3, f4, f5⟩ := hin3.boxes
            obtain ⟨g10, g11, g12, g13⟩ := id hF3
            refine (great_any _ _ _).mono ?_
            rintro e w4 ⟨rfl, rfl⟩
            cases hgr : vgreat (f.num - base + 1) f.val
            · go_wp2_with fail
              go_still_tail 12, (by kernel_rfl)
              change wpList _ _ _ _ _ W3.drew
              have hin4 : InB2 w W3.drew acc := ⟨hin3.R, hin3.V, hin3.bel.drew⟩
              clear hin3 hF3 r0 r1 r2 v0 v1 v2 f0 f1 f2 f3 f4 f5 g10 g11 g12 g13
              generalize W3.drew = W4 at *
              obtain ⟨⟨r0, r1, r2⟩, ⟨v0, v1, v2⟩, ⟨f0, f1, f2⟩, f3, f4, f5⟩ := hin4.boxes
              go_wp2_with fail
              go_roundw
              case rel => exact ⟨j + 1, ⟨f.num - base + 1, f.val, f.text⟩, by go_num, by omega, by rw [HS2.out, if_neg (fun h => h HKD.out), if_neg (by rw [hgr]; simp)], hin4.R.other3 (by omega) _ _ _, hin4.V.set3 ⟨f.num - base + 1, f.val, f.text⟩, below_set3 hin4.bel (by omega) _ _ _⟩
              case measure => simp [intOf]; omega
            · go_wp2_with fail
              (try simp only [Exit.inBlock, Exit.then])
              refine bodyPost_ret (v := .tuple #[.agg VV.zero.cells, .int .i64 5]) ?_ rfl ⟨?_, below_set3 hin3.bel (Nat.le_refl _) _ _ _⟩
              · rw [results_cell_tmp rfl]; go_simp; rfl
              · rw [HS2.out, if_neg (fun h => h HKD.out), if_pos hgr]
          · have hkb : (f.kind != vkind (f.num - base + 1)) = true := by simpa using hkd
            have HKD := Lib.hid hkd
            clear hkd
            go_wp2_with fail
            go_quiet (first | (go_at_call 17; exact Calls.quiet_of_same ((kind_any _ _).mono fun _ _ h => ⟨h.1, h.2.symm⟩)) | (go_at_call 20; exact Calls.quiet_of_same ((great_any _ _ _).mono fun _ _ h => ⟨h.1, h.2.symm⟩)))
            go_wp2_with fail
            (try simp only [Exit.inBlock, Exit.then])
            refine bodyPost_ret (v := .tuple #[.agg VV.zero.cells, .int .i64 4]) ?_ rfl ⟨?_, below_set3 (below_drewN hin.bel _) (Nat.le_refl _) _ _ _⟩
            · rw [results_cell_tmp rfl]; go_simp; rfl
            · rw [HS2.out, if_pos HKD.out]
        · go_wp2_with fail
          (try simp only [Exit.inBlock, Exit.then])
          refine bodyPost_ret (v := .tuple #[.agg acc.cells, .int .i64 0]) ?_ rfl ⟨?_, below_set3 hin.bel (Nat.le_refl _) _ _ _⟩
          · rw [results_cell_tmp rfl]; go_simp; rfl
          · have e := HE.out
            rw [List.drop_eq_nil_of_le (by omega)] at e
            rw [← e]; rfl
    · go_enter Tryd.func15, Tryd.ntmps15
      go_wp2_with fail
      go_loopw [10] (fun i wr => ∃ (j : Nat) (acc : VV), i = .int .i64 j ∧ j ≤ l.length ∧ vofs base false (l.drop j) acc = res ∧ InB2 w wr acc) (fun i _ => l.length - (intOf i).toNat)
      case atStart =>
        refine ⟨0, VV.zero, rfl, Nat.zero_le _, HRES.out, ?_, ?_, ((Below.refl _ w).alloc (Nat.le_refl _) _).alloc (by simp) _⟩
        · exact (Below.heap_alloc _ _ _ (by simp)).trans (Box3.new w VV.zero)
        · have := Box3.new (w.alloc (.cells VV.zero.cells 24)) VV.zero
          rw [World.size_alloc] at this
          exact this
      case round =>
        obtain ⟨j, acc, rfl, hj, he, hin⟩ := hrel
        obtain ⟨⟨r0, r1, r2⟩, ⟨v0, v1, v2⟩, ⟨f0, f1, f2⟩, f3, f4, f5⟩ := hin.boxes
        have HE := Lib.hid he
        clear he
        by_cases hlt : j < l.length
        · obtain ⟨f, hf⟩ : ∃ f, l[j]? = some f := ⟨_, List.getElem?_eq_getElem hlt⟩
          have hdrop : l.drop j = f :: l.drop (j + 1) := by
            obtain ⟨h1, h2⟩ := List.getElem?_eq_some_iff.1 hf
            rw [List.drop_eq_getElem_cons h1, h2]
          obtain ⟨hn0, hn1, hn2⟩ := HWF.out f (List.mem_of_getElem? hf)
          have hlen := flc_len l
          obtain ⟨b1, o1, rfl, hb1, hc1⟩ := (HR.out.below hin.bel (by omega)).some_ (by omega)
          have g1 : ∀ i, i < 4 → wr.cell? ⟨b1, o1 + j * 4 + i, none⟩ = f.cells[i]? := fun i hi => by
            rw [show o1 + j * 4 + i = o1 + (4 * j + i) by omega]; exact (hc1 _ (by omega)).trans (flc_at hf i hi)
          have g10 : wr.cell? ⟨b1, o1 + j * 4, none⟩ = some (.int .i64 f.num) := g1 0 (by omega)
          have g11 : wr.cell? ⟨b1, o1 + j * 4 + 1, none⟩ = some (.int .i64 f.kind) := g1 1 (by omega)
          have g12 : wr.cell? ⟨b1, o1 + j * 4 + 2, none⟩ = some (.int .u64 f.val) := g1 2 (by omega)
          have g13 : wr.cell? ⟨b1, o1 + j * 4 + 3, none⟩ = some (.string f.text) := g1 3 (by omega)
          have hstep : vofs base false (f :: l.drop (j + 1)) acc = res := hdrop ▸ HE.out
          have HS := Lib.hid hstep
          clear hstep hdrop hc1 g1 hlen hf HWF HR HE
          by_cases hlo : f.num < base
          · have hk0 : vkof f.num base false = 0 := by unfold vkof; rw [if_neg (by omega)]
            have HK0 := Lib.hid hk0
            clear hk0
            go_wp2_with fail
            go_roundw
            case rel => exact ⟨j + 1, acc, by go_num, by omega, by have e := HS.out; rwa [vofs, if_pos HK0.out] at e, hin⟩
            case measure => simp [intOf]; omega
          by_cases hhi : base + 6 ≤ f.num
          · have hk0 : vkof f.num base false = 0 := by unfold vkof; rw [if_neg (by rintro ⟨a, b, c⟩; have := c (by omega); simp at this)]
            have HK0 := Lib.hid hk0
            clear hk0
            go_wp2_with fail
            go_roundw
            case rel => exact ⟨j + 1, acc, by go_num, by omega, by have e := HS.out; rwa [vofs, if_pos HK0.out] at e, hin⟩
            case measure => simp [intOf]; omega
          have hkv : vkof f.num base false = f.num - base + 1 := by unfold vkof; rw [if_pos ⟨by omega, by omega, fun h => by omega⟩]
          have hs2 : res = if ¬ f.kind = vkind (f.num - base + 1) then (VV.zero, 4) else if vgreat (f.num - base + 1) f.val = true then (VV.zero, 5) else vofs base false (l.drop (j + 1)) ⟨f.num - base + 1, f.val, f.text⟩ := by
            have e := HS.out
            rw [vofs, if_neg (by rw [hkv]; omega), hkv] at e
            exact e.symm
          have HS2 := Lib.hid hs2
          clear hs2 hkv HS
          have hF : InF wr b1 (o1 + j * 4) f := ⟨g10, g11, g12, g13⟩
          by_cases hkd : f.kind = vkind (f.num - base + 1)
          · have hkb : (f.kind != vkind (f.num - base + 1)) = false := by simpa using hkd
            have HKD := Lib.hid hkd
            clear hkd
            go_wp2_with fail
            go_quiet (first | (go_at_call 17; exact Calls.quiet_of_same ((kind_any _ _).mono fun _ _ h => ⟨h.1, h.2.symm⟩)) | (go_at_call 20; exact Calls.quiet_of_same ((great_any _ _ _).mono fun _ _ h => ⟨h.1, h.2.symm⟩)))
            go_wp2_with fail
            have hin3 := hin.drewN nq
            have hF3 := hF.drewN nq
            clear hin hF r0 r1 r2 v0 v1 v2 f0 f1 f2 f3 f4 f5 g10 g11 g12 g13
            generalize wr.drewN nq = W3 at *
            obtain ⟨⟨r0, r1, r2⟩, ⟨v0, v1, v2⟩, ⟨f0, f1, f2⟩, f3, f4, f5⟩ := hin3.boxes
            obtain ⟨g10, g11, g12, g13⟩ := id hF3
            refine (great_any _ _ _).mono ?_
            rintro e w4 ⟨rfl, rfl⟩
            cases hgr : vgreat (f.num - base + 1) f.val
            · go_wp2_with fail
              go_still_tail 12, (by kernel_rfl)
              change wpList _ _ _ _ _ W3.drew
              have hin4 : InB2 w W3.drew acc := ⟨hin3.R, hin3.V, hin3.bel.drew⟩
              clear hin3 hF3 r0 r1 r2 v0 v1 v2 f0 f1 f2 f3 f4 f5 g10 g11 g12 g13
              generalize W3.drew = W4 at *
              obtain ⟨⟨r0, r1, r2⟩, ⟨v0, v1, v2⟩, ⟨f0, f1, f2⟩, f3, f4, f5⟩ := hin4.boxes
              go_wp2_with fail
              go_roundw
              case rel => exact ⟨j + 1, ⟨f.num - base + 1, f.val, f.text⟩, by go_num, by omega, by rw [HS2.out, if_neg (fun h => h HKD.out), if_neg (by rw [hgr]; simp)], hin4.R.other3 (by omega) _ _ _, hin4.V.set3 ⟨f.num - base + 1, f.val, f.text⟩, below_set3 hin4.bel (by omega) _ _ _⟩
              case measure => simp [intOf]; omega
            · go_wp2_with fail
              (try simp only [Exit.inBlock, Exit.then])
              refine bodyPost_ret (v := .tuple #[.agg VV.zero.cells, .int .i64 5]) ?_ rfl ⟨?_, below_set3 hin3.bel (Nat.le_refl _) _ _ _⟩
              · rw [results_cell_tmp rfl]; go_simp; rfl
              · rw [HS2.out, if_neg (fun h => h HKD.out), if_pos hgr]
          · have hkb : (f.kind != vkind (f.num - base + 1)) = true := by simpa using hkd
            have HKD := Lib.hid hkd
            clear hkd
            go_wp2_with fail
            go_quiet (first | (go_at_call 17; exact Calls.quiet_of_same ((kind_any _ _).mono fun _ _ h => ⟨h.1, h.2.symm⟩)) | (go_at_call 20; exact Calls.quiet_of_same ((great_any _ _ _).mono fun _ _ h => ⟨h.1, h.2.symm⟩)))
            go_wp2_with fail
            (try simp only [Exit.inBlock, Exit.then])
            refine bodyPost_ret (v := .tuple #[.agg VV.zero.cells, .int .i64 4]) ?_ rfl ⟨?_, below_set3 (below_drewN hin.bel _) (Nat.le_refl _) _ _ _⟩
            · rw [results_cell_tmp rfl]; go_simp; rfl
            · rw [HS2.out, if_pos HKD.out]
        · go_wp2_with fail
          (try simp only [Exit.inBlock, Exit.then])
          refine bodyPost_ret (v := .tuple #[.agg acc.cells, .int .i64 0]) ?_ rfl ⟨?_, below_set3 hin.bel (Nat.le_refl _) _ _ _⟩
          · rw [results_cell_tmp rfl]; go_simp; rfl
          · have e := HE.out
            rw [List.drop_eq_nil_of_le (by omega)] at e
            rw [← e]; rfl
  · have hv : vof base raw l = (VV.zero, 1) := by unfold vof; rw [if_neg hb]
    rw [hv]
    clear hv hr hwf
    have hBB : ∀ o1 o2, Below w.heap.size w ((w.alloc o1).alloc o2) := fun _ _ => ((Below.refl _ w).alloc (Nat.le_refl _) _).alloc (by simp) _
    by_cases h1 : base < 1
    · clear hb
      go_enter Tryd.func15, Tryd.ntmps15
      go_wp2_with fail
      (try simp only [Exit.inBlock, Exit.then])
      refine bodyPost_ret (v := .tuple #[.agg VV.zero.cells, .int .i64 1]) ?_ rfl ⟨rfl, ?_⟩
      · rw [results_cell_tmp rfl]; go_simp; rfl
      · first | exact (Below.refl _ w).alloc (Nat.le_refl _) _ | exact hBB _ _
    · have h2 : 1000 < base := by omega
      clear hb
      go_enter Tryd.func15, Tryd.ntmps15
      go_wp2_with fail
      (try simp only [Exit.inBlock, Exit.then])
      refine bodyPost_ret (v := .tuple #[.agg VV.zero.cells, .int .i64 1]) ?_ rfl ⟨rfl, ?_⟩
      · rw [results_cell_tmp rfl]; go_simp; rfl
      · first | exact (Below.refl _ w).alloc (Nat.le_refl _) _ | exact hBB _ _
end Go.Proofs.YtfmamcdlnbmpeaaDoor
