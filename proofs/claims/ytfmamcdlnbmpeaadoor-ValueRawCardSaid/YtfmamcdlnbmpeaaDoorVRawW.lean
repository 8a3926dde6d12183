/- LAW WALK: ValueRaw -/
import Derived.Test.YtfmamcdlnbmpeaaDoorVReadsW
namespace Go.Proofs.YtfmamcdlnbmpeaaDoor
open Go.RowKit Plain

theorem elemF : Elem Tryd.prog 25 43 (.agg #[.int .i64 0, .int .i64 0, .int .u64 0, .string .empty]) 4 40 :=
  ⟨Tryd.underlying25, info_parts (show (Tryd.prog.info? 43).map (fun i => (i.zero, i.size, i.bytes)) = some (some (.agg #[.int .i64 0, .int .i64 0, .int .u64 0, .string .empty]), 4, 40) by kernel_rfl), by kernel_rfl, by omega⟩
theorem raw_err {k n base : Int} {e : Bool} (h : ¬ verr k n e base true = 0) : verr k n e base false = verr k n e base true := by
  unfold verr at *
  by_cases h1 : 1 ≤ base ∧ base ≤ 1000
  · rw [if_pos h1] at h ⊢
    rw [if_pos h1]
    by_cases h2 : vright k n e = 0
    · rw [if_pos h2, if_neg (by simp)] at h; exact absurd rfl h
    · rw [if_neg h2, if_neg h2]
  · rw [if_neg h1, if_neg h1]
theorem raw_bytes {k n base : Int} {e : Bool} (h : verr k n e base true = 0) (hk : k = 7) : verr k n e base false = 11 := by
  unfold verr at *
  by_cases h1 : 1 ≤ base ∧ base ≤ 1000
  · rw [if_pos h1] at h ⊢
    by_cases h2 : vright k n e = 0
    · rw [if_pos h2, if_pos ⟨hk, rfl⟩]
    · rw [if_neg h2] at h; exact absurd h h2
  · rw [if_neg h1] at h; omega
theorem raw_same {k n base : Int} {e : Bool} (h : verr k n e base true = 0) (hk : ¬ k = 7) : verr k n e base false = 0 := by
  unfold verr at *
  by_cases h1 : 1 ≤ base ∧ base ≤ 1000
  · rw [if_pos h1] at h ⊢
    by_cases h2 : vright k n e = 0
    · rw [if_pos h2, if_neg (fun h => hk h.1)]
    · rw [if_neg h2] at h; exact absurd h h2
  · rw [if_neg h1] at h; omega
/-- a field that is none's when bytes may not be, may be left out where they may -/
theorem vofs_without {base : Int} : ∀ (l : List Fld) (acc : VV), vofs base false l acc = vofs base true (l.filter fun f => decide (¬ f.num = base + 6)) acc := by
  intro l
  induction l with
  | nil => intro acc; rfl
  | cons f l ih =>
    intro acc
    by_cases h : f.num = base + 6
    · rw [List.filter_cons_of_neg (by simp [h]), vofs, if_pos (by unfold vkof; rw [if_neg (by rintro ⟨_, _, c⟩; have := c (by omega); simp at this)])]
      exact ih acc
    · have e : vkof f.num base false = vkof f.num base true := by
        unfold vkof
        by_cases h2 : 1 ≤ f.num - base + 1 ∧ f.num - base + 1 ≤ 7
        · rw [if_pos ⟨h2.1, h2.2, fun h3 => by omega⟩, if_pos ⟨h2.1, h2.2, fun _ => rfl⟩]
        · rw [if_neg (fun h3 => h2 ⟨h3.1, h3.2.1⟩), if_neg (fun h3 => h2 ⟨h3.1, h3.2.1⟩)]
      rw [List.filter_cons_of_pos (by simp [h]), vofs, vofs, e, ih, ih]
set_option maxHeartbeats 1000000 in
theorem vraw_any (k : Int) (n : Nat) (s : ByteArray) (l : List Fld) (A : Option Addr) (c : Nat) (b : Nat) (hb : b < 256) (hl : l.length * 40 ≤ 140737488355328) (hwf : ∀ f ∈ l, FldOk f) (w : World) (hr : Rd w w.heap.size A (flc l)) (hK : Kinds w) :
    Calls Tryd.prog 5 #[.agg #[.int .i64 k, .int .u64 n, .string s], .slice A l.length c, .int .u8 b] w fun e w' => e = .returned (.bool true) ∧ Below w.heap.size w w' := by
  have hBa : Below w.heap.size w (w.alloc (Obj.cells #[Value.int IntKind.i64 k, Value.int IntKind.u64 n, Value.string s] 24)) := (Below.refl _ _).alloc (Nat.le_refl _) _
  have hKa := hK.below hBa hK.pos
  go_enter Tryd.func5, Tryd.ntmps5
  go_wp2_with fail
  refine (vput_any k n s (1 + b) true (by omega) (by omega) _ hKa).mono ?_
  rintro e w1 ⟨A1, c1, rfl, hc10, hc11, hr1, hB1⟩
  obtain ⟨d0, d1, d2, hB⟩ := boxV1 hB1
  have hK1 := hK.below hB hK.pos
  clear hB1 hBa hKa
  generalize hL1 : vfls k n s (1 + b) true = L1 at *
  generalize hE1 : verr k n s.toList.isEmpty (1 + b) true = E1 at *
  have HL1 := Lib.hid hL1
  have HE1 := Lib.hid hE1
  clear hL1 hE1
  go_wp2_with fail
  refine (vput_any k n s (1 + b) false (by omega) (by omega) _ hK1).mono ?_
  rintro e w2 ⟨A2, c2, rfl, hc20, hc21, hr2, hB2⟩
  generalize hL2 : vfls k n s (1 + b) false = L2 at *
  generalize hE2 : verr k n s.toList.isEmpty (1 + b) false = E2 at *
  have HL2 := Lib.hid hL2
  have HE2 := Lib.hid hE2
  clear hL2 hE2
  have hr1' := (hr1.below hB2 (Nat.le_refl _)).more hB2.size
  have hK2 := hK1.below hB2 hK1.pos
  have d0' := (hB2.cell (World.block_lt_of_cell? _ _ d0)).trans d0
  replace hB := bel_step hB hB2
  clear d0 d1 d2 hr1 hB2 hK1
  by_cases hE : E1 = 0
  · subst hE
    have hE := HE1.out
    by_cases hk7 : k = 7
    · have e2 : verr k n s.toList.isEmpty (1 + b) false = 11 := raw_bytes hE hk7
      obtain rfl : E2 = 11 := by rw [← HE2.out]; exact e2
      obtain rfl : L2 = [] := by rw [← HL2.out]; unfold vfls; rw [if_neg (fun h => by have := h.1; omega)]
      obtain rfl : L1 = [vfld k n s (1 + b)] := by rw [← HL1.out]; unfold vfls; rw [if_pos ⟨hE, by omega⟩]
      have hk7b : (k == 7) = true := by simpa using hk7
      clear e2 hE hk7
      go_wp2_with fail
      go_loopw [12, 13] (fun o i wr => ∃ (j : Nat) (M : List Fld) (A' : Option Addr) (c' : Nat), j ≤ l.length ∧ i = .int .i64 j ∧ M = (l.take j).filter (fun f => decide (¬ f.num = 1 + (b : Int) + 6)) ∧ o = .slice A' M.length c' ∧ wr.ownsRow w.heap.size 43 4 (.slice A' M.length c') M.length (flc M) ∧ Below w.heap.size w wr) (fun _ i _ => l.length - (intOf i).toNat)
      case atStart => exact ⟨0, [], none, 0, Nat.zero_le _, rfl, rfl, rfl, ⟨rfl, .inl ⟨rfl, rfl⟩⟩, hB⟩
      case round =>
        obtain ⟨j, M, A', c', hj, rfl, hM, rfl, hown, hBw⟩ := hrel
        by_cases hlt : j < l.length
        · obtain ⟨f, hf⟩ : ∃ f, l[j]? = some f := ⟨_, List.getElem?_eq_getElem hlt⟩
          have hlen := flc_len l
          obtain ⟨b1, o1, rfl, hb1, hc1⟩ := (hr.below hBw (Nat.le_refl _)).some_ (by omega)
          have g1 : ∀ i, i < 4 → wr.cell? ⟨b1, o1 + j * 4 + i, none⟩ = f.cells[i]? := fun i hi => by
            rw [show o1 + j * 4 + i = o1 + (4 * j + i) by omega]; exact (hc1 _ (by omega)).trans (flc_at hf i hi)
          have g10 : wr.cell? ⟨b1, o1 + j * 4, none⟩ = some (.int .i64 f.num) := g1 0 (by omega)
          have g11 : wr.cell? ⟨b1, o1 + j * 4 + 1, none⟩ = some (.int .i64 f.kind) := g1 1 (by omega)
          have g12 : wr.cell? ⟨b1, o1 + j * 4 + 2, none⟩ = some (.int .u64 f.val) := g1 2 (by omega)
          have g13 : wr.cell? ⟨b1, o1 + j * 4 + 3, none⟩ = some (.string f.text) := g1 3 (by omega)
          have hMl : M.length ≤ j := by rw [hM]; exact Nat.le_trans (List.length_filter_le _ _) (List.length_take_le _ _)
          have hstep : (l.take (j + 1)).filter (fun f => decide (¬ f.num = 1 + (b : Int) + 6)) = M ++ if f.num = 1 + (b : Int) + 6 then [] else [f] := by
            rw [List.take_add_one, hf, List.filter_append, ← hM]
            by_cases h : f.num = 1 + (b : Int) + 6 <;> simp [h]
          have HST := Lib.hid hstep
          have HM := Lib.hid hM
          clear hstep hM hf hc1 g1 hlen
          by_cases hne : f.num = 1 + (b : Int) + 6
          · have hnb : (f.num != 1 + (b : Int) + 6) = false := by simpa using hne
            have HNE := Lib.hid hne
            clear hne
            go_wp2_with fail
            go_roundw
            case rel => exact ⟨j + 1, M, A', c', by omega, by go_num, by rw [HST.out, if_pos HNE.out, List.append_nil], rfl, hown, hBw⟩
            case measure => simp [intOf]; omega
          · have hnb : (f.num != 1 + (b : Int) + 6) = true := by simpa using hne
            have HNE := Lib.hid hne
            have hbs := hBw.size
            clear hne
            go_wp2_with (at_builtin; refine wpList_app1 rfl (.tmp 86) (.tmp 91) 25 rfl elemF rfl hown rfl rfl (by intro u hu; simp at hu; rcases hu with rfl | rfl | rfl | rfl <;> rfl) (by unfold maxLen; omega) (by omega) hbs ?_; intro A5 c5 w5 hown5 hg5 _)
            go_roundw
            case rel => exact ⟨j + 1, M ++ [f], A5, c5, by omega, by go_num, by rw [HST.out, if_neg HNE.out], by simp, by rw [List.length_append, List.length_singleton, show flc (M ++ [f]) = flc M ++ f.cells by simp [flc]]; exact hown5, own_grown hBw hown hbs hg5⟩
            case measure => simp [intOf]; omega
        · have hM2 : M = l.filter (fun f => decide (¬ f.num = 1 + (b : Int) + 6)) := by rw [hM, List.take_of_length_le (by omega)]
          have hMl : M.length ≤ l.length := by rw [hM2]; exact List.length_filter_le _ _
          have hwM : ∀ f ∈ M, FldOk f := fun f hf => by rw [hM2] at hf; exact hwf f (List.mem_filter.1 hf).1
          have hvv : vof (1 + b) true M = vof (1 + b) false l := by
            unfold vof
            rw [if_pos (by omega), if_pos (by omega), hM2, vofs_without]
          obtain ⟨⟨⟨kk, nn, ss⟩, er⟩, hu⟩ : ∃ u, vof (1 + b) false l = u := ⟨_, rfl⟩
          have hKw : Kinds wr := hK.below hBw hK.pos
          have HVV := Lib.hid hvv
          have HU := Lib.hid hu
          have HWM := Lib.hid hwM
          clear hvv hu hwM hM hM2
          go_wp2_with fail
          refine (vof_any l A c (1 + b) false (by omega) hwf wr ((hr.below hBw (Nat.le_refl _)).more hBw.size) hKw).mono ?_
          rintro e w5 ⟨rfl, hB5⟩
          rw [HU.out]
          dsimp only [VV.cells]
          have hown5 := own_kept hown hB5 (Nat.le_refl _)
          have hB6 := bel_step hBw hB5
          have hK6 := hK.below hB6 hK.pos
          go_wp2_with fail
          have hB1' : Below w.heap.size w (w5.alloc (.cells #[.int .i64 kk, .int .u64 nn, .string ss] 24)) := hB6.alloc hB6.size _
          have hown7 := hown5.alloc (.cells #[.int .i64 kk, .int .u64 nn, .string ss] 24)
          have hK7 := hK.below hB1' hK.pos
          refine (vof_any M A' c' (1 + b) true (by omega) HWM.out _ (Rd.of_own hown7) hK7).mono ?_
          rintro e w7 ⟨rfl, hB7⟩
          rw [HVV.out, HU.out]
          dsimp only [VV.cells]
          obtain ⟨x0, x1, x2, -⟩ := boxV1 hB7
          have hB8 := bel_step hB1' hB7
          have hlt7 : w5.heap.size < w7.heap.size := World.block_lt_of_cell? w7 _ x0
          have hK8 : Kinds w7 := hK.below hB8 hK.pos
          clear hB7 hown7 hB1' hown5 hown hB5 hBw hB6 hK6 hK7
          go_wp2_with fail
          refine (awake5_any _ (hK8.below ((Below.refl w7.heap.size w7).alloc (Nat.le_refl _) _) hK8.pos)).mono ?_
          rintro e w9 ⟨rfl, hB9⟩
          go_wp2_with fail
          go_ret
          exact ⟨rfl, bel_step (hB8.alloc hB8.size _) hB9⟩
    · have e2 : verr k n s.toList.isEmpty (1 + b) false = 0 := raw_same hE hk7
      obtain rfl : E2 = 0 := by rw [← HE2.out]; exact e2
      obtain rfl : L1 = L2 := by rw [← HL1.out, ← HL2.out]; unfold vfls; rw [hE, e2]
      have hk7b : (k == 7) = false := by simpa using hk7
      clear e2 hE hk7
      go_wp2_with fail
      refine (same_any A1 A2 c1 c2 L1 (by omega) _ (Nat.le_refl _) (Nat.le_refl _) hr1' hr2).mono ?_
      rintro e w3 ⟨rfl, hB3⟩
      have hK3 := hK2.below hB3 hK2.pos
      replace hB := bel_step hB hB3
      go_wp2_with fail
      go_loopw [12, 13] (fun o i wr => ∃ (j : Nat) (M : List Fld) (A' : Option Addr) (c' : Nat), j ≤ l.length ∧ i = .int .i64 j ∧ M = (l.take j).filter (fun f => decide (¬ f.num = 1 + (b : Int) + 6)) ∧ o = .slice A' M.length c' ∧ wr.ownsRow w.heap.size 43 4 (.slice A' M.length c') M.length (flc M) ∧ Below w.heap.size w wr) (fun _ i _ => l.length - (intOf i).toNat)
      case atStart => exact ⟨0, [], none, 0, Nat.zero_le _, rfl, rfl, rfl, ⟨rfl, .inl ⟨rfl, rfl⟩⟩, hB⟩
      case round =>
        obtain ⟨j, M, A', c', hj, rfl, hM, rfl, hown, hBw⟩ := hrel
        by_cases hlt : j < l.length
        · obtain ⟨f, hf⟩ : ∃ f, l[j]? = some f := ⟨_, List.getElem?_eq_getElem hlt⟩
          have hlen := flc_len l
          obtain ⟨b1, o1, rfl, hb1, hc1⟩ := (hr.below hBw (Nat.le_refl _)).some_ (by omega)
          have g1 : ∀ i, i < 4 → wr.cell? ⟨b1, o1 + j * 4 + i, none⟩ = f.cells[i]? := fun i hi => by
            rw [show o1 + j * 4 + i = o1 + (4 * j + i) by omega]; exact (hc1 _ (by omega)).trans (flc_at hf i hi)
          have g10 : wr.cell? ⟨b1, o1 + j * 4, none⟩ = some (.int .i64 f.num) := g1 0 (by omega)
          have g11 : wr.cell? ⟨b1, o1 + j * 4 + 1, none⟩ = some (.int .i64 f.kind) := g1 1 (by omega)
          have g12 : wr.cell? ⟨b1, o1 + j * 4 + 2, none⟩ = some (.int .u64 f.val) := g1 2 (by omega)
          have g13 : wr.cell? ⟨b1, o1 + j * 4 + 3, none⟩ = some (.string f.text) := g1 3 (by omega)
          have hMl : M.length ≤ j := by rw [hM]; exact Nat.le_trans (List.length_filter_le _ _) (List.length_take_le _ _)
          have hstep : (l.take (j + 1)).filter (fun f => decide (¬ f.num = 1 + (b : Int) + 6)) = M ++ if f.num = 1 + (b : Int) + 6 then [] else [f] := by
            rw [List.take_add_one, hf, List.filter_append, ← hM]
            by_cases h : f.num = 1 + (b : Int) + 6 <;> simp [h]
          have HST := Lib.hid hstep
          have HM := Lib.hid hM
          clear hstep hM hf hc1 g1 hlen
          by_cases hne : f.num = 1 + (b : Int) + 6
          · have hnb : (f.num != 1 + (b : Int) + 6) = false := by simpa using hne
            have HNE := Lib.hid hne
            clear hne
            go_wp2_with fail
            go_roundw
            case rel => exact ⟨j + 1, M, A', c', by omega, by go_num, by rw [HST.out, if_pos HNE.out, List.append_nil], rfl, hown, hBw⟩
            case measure => simp [intOf]; omega
          · have hnb : (f.num != 1 + (b : Int) + 6) = true := by simpa using hne
            have HNE := Lib.hid hne
            have hbs := hBw.size
            clear hne
            go_wp2_with (at_builtin; refine wpList_app1 rfl (.tmp 86) (.tmp 91) 25 rfl elemF rfl hown rfl rfl (by intro u hu; simp at hu; rcases hu with rfl | rfl | rfl | rfl <;> rfl) (by unfold maxLen; omega) (by omega) hbs ?_; intro A5 c5 w5 hown5 hg5 _)
            go_roundw
            case rel => exact ⟨j + 1, M ++ [f], A5, c5, by omega, by go_num, by rw [HST.out, if_neg HNE.out], by simp, by rw [List.length_append, List.length_singleton, show flc (M ++ [f]) = flc M ++ f.cells by simp [flc]]; exact hown5, own_grown hBw hown hbs hg5⟩
            case measure => simp [intOf]; omega
        · have hM2 : M = l.filter (fun f => decide (¬ f.num = 1 + (b : Int) + 6)) := by rw [hM, List.take_of_length_le (by omega)]
          have hMl : M.length ≤ l.length := by rw [hM2]; exact List.length_filter_le _ _
          have hwM : ∀ f ∈ M, FldOk f := fun f hf => by rw [hM2] at hf; exact hwf f (List.mem_filter.1 hf).1
          have hvv : vof (1 + b) true M = vof (1 + b) false l := by
            unfold vof
            rw [if_pos (by omega), if_pos (by omega), hM2, vofs_without]
          obtain ⟨⟨⟨kk, nn, ss⟩, er⟩, hu⟩ : ∃ u, vof (1 + b) false l = u := ⟨_, rfl⟩
          have hKw : Kinds wr := hK.below hBw hK.pos
          have HVV := Lib.hid hvv
          have HU := Lib.hid hu
          have HWM := Lib.hid hwM
          clear hvv hu hwM hM hM2
          go_wp2_with fail
          refine (vof_any l A c (1 + b) false (by omega) hwf wr ((hr.below hBw (Nat.le_refl _)).more hBw.size) hKw).mono ?_
          rintro e w5 ⟨rfl, hB5⟩
          rw [HU.out]
          dsimp only [VV.cells]
          have hown5 := own_kept hown hB5 (Nat.le_refl _)
          have hB6 := bel_step hBw hB5
          have hK6 := hK.below hB6 hK.pos
          go_wp2_with fail
          have hB1' : Below w.heap.size w (w5.alloc (.cells #[.int .i64 kk, .int .u64 nn, .string ss] 24)) := hB6.alloc hB6.size _
          have hown7 := hown5.alloc (.cells #[.int .i64 kk, .int .u64 nn, .string ss] 24)
          have hK7 := hK.below hB1' hK.pos
          refine (vof_any M A' c' (1 + b) true (by omega) HWM.out _ (Rd.of_own hown7) hK7).mono ?_
          rintro e w7 ⟨rfl, hB7⟩
          rw [HVV.out, HU.out]
          dsimp only [VV.cells]
          obtain ⟨x0, x1, x2, -⟩ := boxV1 hB7
          have hB8 := bel_step hB1' hB7
          have hlt7 : w5.heap.size < w7.heap.size := World.block_lt_of_cell? w7 _ x0
          have hK8 : Kinds w7 := hK.below hB8 hK.pos
          clear hB7 hown7 hB1' hown5 hown hB5 hBw hB6 hK6 hK7
          go_wp2_with fail
          refine (awake5_any _ (hK8.below ((Below.refl w7.heap.size w7).alloc (Nat.le_refl _) _) hK8.pos)).mono ?_
          rintro e w9 ⟨rfl, hB9⟩
          go_wp2_with fail
          go_ret
          exact ⟨rfl, bel_step (hB8.alloc hB8.size _) hB9⟩
  · have e3 : E2 = E1 := by rw [← HE2.out, ← HE1.out]; exact raw_err (by rw [HE1.out]; exact hE)
    subst e3
    obtain rfl : L1 = [] := by rw [← HL1.out]; unfold vfls; rw [if_neg (fun h => hE (by rw [← HE1.out]; exact h.1))]
    obtain rfl : L2 = [] := by rw [← HL2.out]; unfold vfls; rw [if_neg (fun h => hE (by rw [← HE2.out]; exact h.1))]
    have hEb : (E2 != 0) = true := by simpa using hE
    go_wp2_with fail
    refine (awake5_any _ hK2).mono ?_
    rintro e w3 ⟨rfl, hB3⟩
    go_wp2_with fail
    go_ret
    exact ⟨rfl, bel_step hB hB3⟩
end Go.Proofs.YtfmamcdlnbmpeaaDoor
