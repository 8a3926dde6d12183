/- LAW WALK: DatasetCells -/
import Derived.Test.YtlgokfgbcohioaaDoorDsEM
import Derived.Test.YtlgokfgbcohioaaDoorBoxVM
namespace Go.Proofs.YtlgokfgbcohioaaDoor
open Go.RowKit Plain

theorem BoxD.below' {W W' : World} {B : Nat} {x y z : Value} (h : BoxD W B x y z) (hb : Below W.heap.size W W') : BoxD W' B x y z := h.below hb
theorem ever {W : World} {a : Addr} {v : Value} (h : W.cell? a = some v) : ∀ u, Below W.drew.heap.size W.drew u → u.cell? a = some v := fun u hu => (hu.cell (World.block_lt_of_cell? W _ h)).trans h
set_option maxRecDepth 100000 in
set_option maxHeartbeats 4000000 in
theorem dcells_any (d : DS) (row col : Int) (name : ByteArray) (hok : DSOk d) (w : World) (hd : d.At w w.heap.size) (hK : Kinds w) :
    Calls Tryd.prog 5 #[d.agg, .int .i64 row, .int .i64 col, .string name] w fun e w' => e = .returned (.bool true) ∧ Below w.heap.size w w' := by
  have hcol := fun W (hB : Below w.heap.size w W) => column_any d name hok W ((hd.below hB (Nat.le_refl _)).more hB.size)
  have hout := fun W (hB : Below w.heap.size w W) => cell_out d row col hok W ((hd.below hB (Nat.le_refl _)).more hB.size)
  have hin := fun (j : Nat) W (hB : Below w.heap.size w W) => cell_in d j col hok W ((hd.below hB (Nat.le_refl _)).more hB.size)
  have hr1 := hd.r1
  have hr3 := hd.r3
  have hrs := hd.rs
  have b1 := hok.l1
  have b3 := hok.l3
  have bs := hok.ls
  clear hd hok
  obtain ⟨A1, c1, cols, A2, c2, types, A3, c3, rows⟩ := d
  unfold DS.agg at hcol ⊢
  unfold DS.agg VV.zero VV.cells at hout hin
  simp only at hcol hout hin hr1 hr3 hrs b1 b3 bs ⊢
  obtain ⟨n1, hn1⟩ : ∃ n, cols.length = n := ⟨_, rfl⟩
  obtain ⟨n3, hn3⟩ : ∃ n, rows.length = n := ⟨_, rfl⟩
  generalize types.length = n2 at *
  obtain ⟨q, hq⟩ : ∃ q, sidx name cols 0 = q := ⟨_, rfl⟩
  rw [hq] at hcol
  rw [hn1] at hcol hout hin b1 ⊢
  rw [hn3] at hcol hout hin b3 ⊢
  have HQ := Lib.hid hq
  have HN1 := Lib.hid hn1
  have HN3 := Lib.hid hn3
  have HR1 := Lib.hid hr1
  have HR3 := Lib.hid hr3
  have HRS := Lib.hid hrs
  have HBS := Lib.hid bs
  have HK := Lib.hid hK
  clear hq hn1 hn3 hr1 hr3 hrs bs hK
  have hE0 : Below w.heap.size w (w.alloc (Obj.cells #[.slice A1 n1 c1, .slice A2 n2 c2, .slice A3 n3 c3] 26)) := (Below.refl _ w).alloc (Nat.le_refl _) _
  have hD0 : BoxD (w.alloc (Obj.cells #[.slice A1 n1 c1, .slice A2 n2 c2, .slice A3 n3 c3] 26)) w.heap.size (.slice A1 n1 c1) (.slice A2 n2 c2) (.slice A3 n3 c3) := World.alloc_heap_new w _
  go_enter Tryd.func5, Tryd.ntmps5
  by_cases hro : row < 0 ∨ (n3 : Int) ≤ row
  · have ho := hout _ hE0 hro
    clear hout hin hcol
    go_wp2_with fail
    refine ho.mono ?_
    rintro e w1 ⟨rfl, hB1⟩
    have hW1 := bel_step hE0 hB1
    have hWv := bel_step hW1 ((Below.refl w1.heap.size w1).alloc (Nat.le_refl _) (Obj.cells #[.int .i64 0, .int .u64 0, .string ⟨#[]⟩] 42))
    obtain ⟨x0, x1, x2⟩ := (hD0.below hB1).cells
    have hlt := (hD0.below hB1).lt
    clear ho hD0 hE0 hB1
    by_cases h0 : row < 0
    · clear hro
      go_wp2_with fail
      refine (awake8_any _ (HK.out.below hWv HK.out.pos)).mono ?_
      rintro e w5 ⟨rfl, hB5⟩
      go_wp2_with fail
      go_ret
      exact ⟨rfl, bel_step hWv hB5⟩
    · have h1 : (n3 : Int) ≤ row := by omega
      clear hro
      go_wp2_with fail
      refine (awake8_any _ (HK.out.below hWv HK.out.pos)).mono ?_
      rintro e w5 ⟨rfl, hB5⟩
      go_wp2_with fail
      go_ret
      exact ⟨rfl, bel_step hWv hB5⟩
  · obtain ⟨j, rfl⟩ := Int.eq_ofNat_of_zero_le (show 0 ≤ row by omega)
    have hj : j < n3 := by omega
    have hjn : ¬ (n3 : Int) ≤ (j : Int) := by omega
    clear hro hout
    obtain ⟨r, hr⟩ : ∃ r, rows[j]? = some r := ⟨_, List.getElem?_eq_getElem (by rw [HN3.out]; exact hj)⟩
    have hrj := HRS.out r (List.mem_of_getElem? hr)
    have hbl := HBS.out r (List.mem_of_getElem? hr)
    obtain ⟨b1, o1, rfl, hb1, g0⟩ := one_at HR3.out hr
    have hin2 := fun W hB => hin j W hB r hr
    clear hin hr
    obtain ⟨adr, cap, vals⟩ := r
    simp only at hrj hbl g0 hin2
    obtain ⟨L, hL⟩ : ∃ L, vals.length = L := ⟨_, rfl⟩
    rw [hL] at hbl g0
    simp only [hL] at hin2
    have HL := Lib.hid hL
    have HG := Lib.hid g0
    have HRJ := Lib.hid hrj
    clear hL g0 hrj
    by_cases hco : col < 0 ∨ (L : Int) ≤ col
    · have ho := (hin2 _ hE0).1 hco
      clear hin2 hcol
      go_wp2_with fail
      refine ho.mono ?_
      rintro e w1 ⟨rfl, hB1⟩
      have hW1 := bel_step hE0 hB1
      have hWv := bel_step hW1 ((Below.refl w1.heap.size w1).alloc (Nat.le_refl _) (Obj.cells #[.int .i64 0, .int .u64 0, .string ⟨#[]⟩] 42))
      obtain ⟨x0, x1, x2⟩ := (hD0.below hB1).cells
      have hlt := (hD0.below hB1).lt
      have g0 := (hW1.cell (p := ⟨b1, o1 + j, none⟩) hb1).trans HG.out
      have hb1' : b1 < w1.heap.size := Nat.lt_of_lt_of_le hb1 hW1.size
      clear ho hD0 hE0 hB1
      by_cases h0 : col < 0
      · clear hco
        go_wp2_with fail
        refine (awake8_any _ (HK.out.below hWv HK.out.pos)).mono ?_
        rintro e w5 ⟨rfl, hB5⟩
        go_wp2_with fail
        go_ret
        exact ⟨rfl, bel_step hWv hB5⟩
      · have h1 : (L : Int) ≤ col := by omega
        clear hco
        go_wp2_with fail
        refine (awake8_any _ (HK.out.below hWv HK.out.pos)).mono ?_
        rintro e w5 ⟨rfl, hB5⟩
        go_wp2_with fail
        go_ret
        exact ⟨rfl, bel_step hWv hB5⟩
    · obtain ⟨i, rfl⟩ := Int.eq_ofNat_of_zero_le (show 0 ≤ col by omega)
      have hi : i < L := by omega
      have hiL : ¬ (L : Int) ≤ (i : Int) := by omega
      clear hco
      obtain ⟨v, hv⟩ : ∃ v, vals[i]? = some v := ⟨_, List.getElem?_eq_getElem (by rw [HL.out]; exact hi)⟩
      obtain ⟨b2, o2, rfl, hb2, e0, e1, e2⟩ := val_at HRJ.out hv
      have ho := (hin2 _ hE0).2 i v rfl hv
      obtain ⟨vk, vn, vs⟩ := v
      simp only at e0 e1 e2 ho
      have HE := Lib.hid (And.intro e0 (And.intro e1 e2))
      clear hin2 hv e0 e1 e2 HRJ
      go_wp2_with fail
      refine ho.mono ?_
      rintro e w1 ⟨rfl, hB1⟩
      have hW1 := bel_step hE0 hB1
      have hEv := (Below.refl w1.heap.size w1).alloc (Nat.le_refl _) (Obj.cells #[.int .i64 vk, .int .u64 vn, .string vs] 42)
      have hXv : Box3 (w1.alloc (Obj.cells #[.int .i64 vk, .int .u64 vn, .string vs] 42)) w1.heap.size ⟨vk, vn, vs⟩ := Box3.new w1 ⟨vk, vn, vs⟩
      have hWv := bel_step hW1 hEv
      have hD1 := hD0.below (hB1.trans (hEv.mono hB1.size))
      obtain ⟨x0, x1, x2⟩ := (hD0.below hB1).cells
      have hlt := (hD0.below hB1).lt
      have g0 := (hW1.cell (p := ⟨b1, o1 + j, none⟩) hb1).trans HG.out
      have hb1' : b1 < w1.heap.size := Nat.lt_of_lt_of_le hb1 hW1.size
      clear ho hD0 hE0 hB1
      go_wp2_with fail
      refine (hcol _ hWv).mono ?_
      rintro e w2 ⟨rfl, hB2⟩
      have hWw := bel_step hWv hB2
      have hX2 := hXv.below hB2
      have hD2 := hD1.below' hB2
      clear hcol hXv hD1 hW1 hEv x0 x1 x2 hlt g0 hb1' hWv hB2
      obtain ⟨x0, x1, x2⟩ := hD2.cells
      go_wp2_with fail
      go_loopw [12] (fun i wr => ∃ k : Nat, i = .int .i64 k ∧ k ≤ n1 ∧ sidx name (cols.drop k) k = q ∧ wr = w2) (fun i _ => n1 - (intOf i).toNat)
      case atStart => exact ⟨0, rfl, Nat.zero_le _, HQ.out, rfl⟩
      case round =>
        obtain ⟨k, rfl, hk, hsx, rfl⟩ := hrel
        have HSX := Lib.hid hsx
        have g0 := (hWw.cell (p := ⟨b1, o1 + j, none⟩) hb1).trans HG.out
        have e0 := (hWw.cell (p := ⟨b2, o2 + i * 3, none⟩) hb2).trans HE.out.1
        have e1 := (hWw.cell (p := ⟨b2, o2 + i * 3 + 1, none⟩) hb2).trans HE.out.2.1
        have e2 := (hWw.cell (p := ⟨b2, o2 + i * 3 + 2, none⟩) hb2).trans HE.out.2.2
        obtain ⟨y0, y1, y2⟩ := hX2.cells
        clear hsx
        by_cases hlt : k < n1
        · obtain ⟨x, hx⟩ : ∃ x, cols[k]? = some x := ⟨_, List.getElem?_eq_getElem (by rw [HN1.out]; exact hlt)⟩
          obtain ⟨b3, o3, rfl, hb3, f0⟩ := one_at (HR1.out.below hWw (Nat.le_refl _)) hx
          have hsx := HSX.out
          rw [drop_cons hx, sidx] at hsx
          clear hx
          by_cases heq : (name.toList == x.toList) = true
          · have hb : (x.toList == name.toList) = true := by rw [BEq.comm]; exact heq
            rw [if_pos heq] at hsx
            subst hsx
            clear heq HSX
            go_wp2_with fail
            have f2 := ever x2
            have fg := ever g0
            have fe0 := ever e0
            have fe1 := ever e1
            have fe2 := ever e2
            have fy0 := ever y0
            have fy1 := ever y1
            have fy2 := ever y2
            have hWd : Below w.heap.size w wr.drew := hWw.drew
            have hKd := HK.out.below hWd HK.out.pos
            clear x0 x1 x2 g0 e0 e1 e2 y0 y1 y2 hWw hX2 hD2
            refine wp_region_L 22 [0, 1, 2, 3, 4, 5, 6, 7, 8, 9, 10, 11, 12, 13, 14, 15, 16, 17, 18, 19, 20, 21] rfl (by decide) (by decide) (by kernel_rfl) ?_
            generalize wr.drew = W2 at *
            simp only [List.filterMap_cons, List.filterMap_nil, List.getElem?_cons_zero, List.getElem?_cons_succ, Option.map_some]
            repeat (first
              | (refine wpL_take (v := ?_) (by kernel_rfl) (by kernel_rfl) (by kernel_rfl) (fun _ _ _ h => h) (by rfl) (fun u hu => ?_) ?_
                 rotate_left
                 focus
                   unfold Grows at hu
                   go_simp
                   try with_reducible rfl
                 simp only [Act.put, List.setIfInBounds_toArray, List.set_cons_zero, List.set_cons_succ])
              | (refine wpL_pass (by kernel_rfl) (by kernel_rfl) (by kernel_rfl) (fun _ _ _ h => h) (by rfl) ?_; simp only [Act.put, List.setIfInBounds_toArray, List.set_cons_zero, List.set_cons_succ])
              | (refine wpL_do (by kernel_rfl) (by rfl) (fun K hK => ?_); go_simp; go_at_call 16; refine (awake8_any _ hKd).mono ?_; rintro e w6 ⟨rfl, hB6⟩; have hWe := bel_step hWd hB6; refine hK _ _ hB6 ?_; clear hK K hB6))
            refine wpL_done (by kernel_rfl) ?_
            go_wp2_with fail
            go_ret
            exact ⟨rfl, hWe⟩
          · have hb : (x.toList == name.toList) = false := by rw [BEq.comm]; simpa using heq
            rw [if_neg heq] at hsx
            have HS2 := Lib.hid hsx
            clear heq HSX hsx
            go_wp2_with fail
            go_roundw
            case rel => exact ⟨k + 1, by go_num, by omega, HS2.out, by trivial⟩
            case measure => simp [intOf]; omega
        · have hsx := HSX.out
          rw [List.drop_eq_nil_of_le (by rw [HN1.out]; omega)] at hsx
          have hsx2 : (-1 : Int) = q := hsx
          subst hsx2
          clear hsx HSX
          go_wp2_with fail
          have f2 := ever x2
          have fg := ever g0
          have fe0 := ever e0
          have fe1 := ever e1
          have fe2 := ever e2
          have fy0 := ever y0
          have fy1 := ever y1
          have fy2 := ever y2
          have hWd : Below w.heap.size w wr.drew := hWw.drew
          have hKd := HK.out.below hWd HK.out.pos
          clear x0 x1 x2 g0 e0 e1 e2 y0 y1 y2 hWw hX2 hD2
          refine wp_region_L 21 [0, 1, 2, 3, 4, 5, 6, 7, 8, 9, 10, 11, 12, 13, 14, 15, 16, 17, 18, 19, 20] rfl (by decide) (by decide) (by kernel_rfl) ?_
          generalize wr.drew = W2 at *
          simp only [List.filterMap_cons, List.filterMap_nil, List.getElem?_cons_zero, List.getElem?_cons_succ, Option.map_some]
          repeat (first
            | (refine wpL_take (v := ?_) (by kernel_rfl) (by kernel_rfl) (by kernel_rfl) (fun _ _ _ h => h) (by rfl) (fun u hu => ?_) ?_
               rotate_left
               focus
                 unfold Grows at hu
                 go_simp
                 try with_reducible rfl
               simp only [Act.put, List.setIfInBounds_toArray, List.set_cons_zero, List.set_cons_succ])
            | (refine wpL_pass (by kernel_rfl) (by kernel_rfl) (by kernel_rfl) (fun _ _ _ h => h) (by rfl) ?_; simp only [Act.put, List.setIfInBounds_toArray, List.set_cons_zero, List.set_cons_succ])
            | (refine wpL_do (by kernel_rfl) (by rfl) (fun K hK => ?_); go_simp; go_at_call 16; refine (awake8_any _ hKd).mono ?_; rintro e w6 ⟨rfl, hB6⟩; have hWe := bel_step hWd hB6; refine hK _ _ hB6 ?_; clear hK K hB6))
          refine wpL_done (by kernel_rfl) ?_
          go_wp2_with fail
          go_ret
          exact ⟨rfl, hWe⟩
end Go.Proofs.YtlgokfgbcohioaaDoor
