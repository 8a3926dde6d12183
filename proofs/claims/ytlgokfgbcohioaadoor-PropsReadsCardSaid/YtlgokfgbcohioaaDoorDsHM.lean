/- WALK: dataset.head -/
import Derived.Test.YtlgokfgbcohioaaDoorDsCM
import Derived.Test.YtlgokfgbcohioaaDoorK3
namespace Go.Proofs.YtlgokfgbcohioaaDoor
open Go.RowKit Plain

def BoxD (W : World) (B : Nat) (x y z : Value) : Prop := W.heap[B]? = some (.cells #[x, y, z] 26 (0, 0))
theorem BoxD.lt {W : World} {B : Nat} {x y z : Value} (h : BoxD W B x y z) : B < W.heap.size := (Array.getElem?_eq_some_iff.1 h).1
theorem BoxD.below {W W' : World} {B : Nat} {x y z : Value} (h : BoxD W B x y z) (hb : Below W.heap.size W W') : BoxD W' B x y z := (hb.block B h.lt).trans h
theorem BoxD.cells {W : World} {B : Nat} {x y z : Value} (h : BoxD W B x y z) : W.cell? ⟨B, 0, none⟩ = some x ∧ W.cell? ⟨B, 1, none⟩ = some y ∧ W.cell? ⟨B, 2, none⟩ = some z := by
  refine ⟨?_, ?_, ?_⟩ <;> (simp only [World.cell?, show W.heap[B]? = _ from h]; rfl)
def cfld (s : ByteArray) : Fld := ⟨2, 2, 0, s⟩
def tfld (n : Nat) : Fld := ⟨3, 0, n, ⟨#[]⟩⟩
set_option maxRecDepth 100000 in
set_option maxHeartbeats 2000000 in
theorem dhead_any (d : DS) (h16 : d.cols.length ≤ 16) (ht : d.types.length = d.cols.length) (hok : DSOk d) (w : World) (hd : d.At w w.heap.size) :
    Calls Tryd.prog 40 #[d.agg] w fun e w' => ∃ A c, e = .returned (.slice A (dhead d.cols d.types).length c) ∧ w'.ownsRow w.heap.size 73 4 (.slice A (dhead d.cols d.types).length c) (dhead d.cols d.types).length (flc (dhead d.cols d.types)) ∧ Below w.heap.size w w' := by
  obtain ⟨A1, c1, cols, A2, c2, types, A3, c3, rows⟩ := d
  have hr1 := hd.r1
  have hr2 := hd.r2
  have hty := hok.ty
  simp only at hr1 hr2 hty h16 ht
  clear hd hok
  unfold DS.agg
  simp only
  obtain ⟨n, hn⟩ : ∃ n, cols.length = n := ⟨_, rfl⟩
  obtain ⟨H, hH⟩ : ∃ H, dhead cols types = H := ⟨_, rfl⟩
  rw [hH]
  rw [hn] at h16 ht ⊢
  rw [ht]
  obtain ⟨M, hM⟩ : ∃ M, H.length = M := ⟨_, rfl⟩
  rw [hM]
  have HR1 := Lib.hid hr1
  have HR2 := Lib.hid hr2
  have HTY := Lib.hid hty
  have HN := Lib.hid hn
  have HT := Lib.hid ht
  have HH := Lib.hid hH
  have HM := Lib.hid hM
  have HRL : Hid (rows.length = rows.length) := Lib.hid rfl
  clear hr1 hr2 hty hn ht hH hM
  generalize rows.length = m at *
  go_enter Tryd.func40, Tryd.ntmps40
  by_cases h0 : n = 0
  · subst h0
    have hc : cols = [] := List.eq_nil_of_length_eq_zero HN.out
    have htt : types = [] := List.eq_nil_of_length_eq_zero HT.out
    have hH : H = [] := by rw [← HH.out, hc, htt]; rfl
    have hM0 : M = 0 := by rw [← HM.out, hH]; rfl
    subst hH hM0
    clear hc htt
    have hE0 : Below w.heap.size w (w.alloc (Obj.cells #[.slice A1 0 c1, .slice A2 0 c2, .slice A3 m c3] 26)) := (Below.refl _ w).alloc (Nat.le_refl _) _
    have hD0 : BoxD (w.alloc (Obj.cells #[.slice A1 0 c1, .slice A2 0 c2, .slice A3 m c3] 26)) w.heap.size (.slice A1 0 c1) (.slice A2 0 c2) (.slice A3 m c3) := World.alloc_heap_new w _
    go_wp2_with fail
    generalize hW0 : w.alloc (Obj.cells #[.slice A1 0 c1, .slice A2 0 c2, .slice A3 m c3] 26) = W0 at *
    obtain ⟨x0, x1, x2⟩ := hD0.cells
    go_loopw [3, 23] (fun o i wz => o = .slice none 0 0 ∧ i = .int .i64 0 ∧ wz = W0) (fun _ _ _ => 0)
    case atStart => exact ⟨rfl, rfl, rfl⟩
    case round =>
      obtain ⟨rfl, rfl, rfl⟩ := hrel
      go_wp2_with fail
      go_loopw [3, 37] (fun o i wz => o = .slice none 0 0 ∧ i = .int .i64 0 ∧ wz = wr) (fun _ _ _ => 0)
      case atStart => exact ⟨rfl, rfl, rfl⟩
      case round =>
        obtain ⟨rfl, rfl, rfl⟩ := hrel
        go_wp2_with fail
        go_ret
        exact ⟨none, 0, rfl, World.ownsRow_nil _ _ _ _, hE0⟩
  · have hn0 : 0 < n := by omega
    have hE0 : Below w.heap.size w (w.alloc (Obj.cells #[.slice A1 n c1, .slice A2 n c2, .slice A3 m c3] 26)) := (Below.refl _ w).alloc (Nat.le_refl _) _
    have hD0 : BoxD (w.alloc (Obj.cells #[.slice A1 n c1, .slice A2 n c2, .slice A3 m c3] 26)) w.heap.size (.slice A1 n c1) (.slice A2 n c2) (.slice A3 m c3) := World.alloc_heap_new w _
    have hnil := World.ownsRow_nil (w.alloc (Obj.cells #[.slice A1 n c1, .slice A2 n c2, .slice A3 m c3] 26)) (w.alloc (Obj.cells #[.slice A1 n c1, .slice A2 n c2, .slice A3 m c3] 26)).heap.size 73 4
    go_wp2_with (at_builtin; refine wpList_appF1 (l := []) rfl _ _ rfl rfl hnil ⟨1, 0, n, ⟨#[]⟩⟩ rfl (by simp) (by omega) (Nat.le_refl _) ?_; intro A5 c5 w5 ho5 hg5; have hB5 := own_grown (Below.refl _ _) hnil (Nat.le_refl _) hg5; obtain ⟨x0, x1, x2⟩ := (hD0.below hB5).cells; clear hg5 hnil)
    generalize hW0 : w.alloc (Obj.cells #[.slice A1 n c1, .slice A2 n c2, .slice A3 m c3] 26) = W0 at *
    have hr1 := (HR1.out.below hE0 (Nat.le_refl _)).more hE0.size
    have hr2 := (HR2.out.below hE0 (Nat.le_refl _)).more hE0.size
    clear hW0
    go_loopw [3, 23] (fun o i wr => ∃ (j k : Nat) (A : Option Addr) (c : Nat), i = .int .i64 j ∧ o = .slice A k c ∧ j ≤ n ∧ k = j + 1 ∧ wr.ownsRow W0.heap.size 73 4 (.slice A k c) k (flc (⟨1, 0, n, ⟨#[]⟩⟩ :: (cols.take j).map cfld)) ∧ Below W0.heap.size W0 wr) (fun _ i _ => n - (intOf i).toNat)
    case atStart => exact ⟨0, 1, A5, c5, rfl, rfl, Nat.zero_le _, rfl, ho5, hB5⟩
    case round =>
      clear ho5 hB5 x0 x1 x2
      obtain ⟨j, k, A, c, rfl, rfl, hj, hk, hown, hB⟩ := hrel
      have hs := hB.size
      have hkb : k ≤ 100 := by omega
      have HKK := Lib.hid hk
      clear hk
      by_cases hlt : j < n
      · obtain ⟨s, hsj⟩ : ∃ s, cols[j]? = some s := ⟨_, List.getElem?_eq_getElem (by rw [HN.out]; exact hlt)⟩
        obtain ⟨b1, o1, rfl, hb1, g0⟩ := one_at (hr1.below hB (Nat.le_refl _)) hsj
        obtain ⟨cB, WB, hcv, hrB, hBB, _, _⟩ := run_bytes wr s
        have htx := dtext_any 2 (some ⟨wr.heap.size, 0, none⟩) s.size cB s.data.toList (by simp) WB hrB
        rw [text_back] at htx
        unfold Fld.cells at htx
        have HST : Hid ((cols.take (j + 1)).map cfld = (cols.take j).map cfld ++ [⟨2, 2, 0, s⟩]) := Lib.hid (by rw [List.take_add_one, hsj]; simp [cfld])
        have hown1 := own_kept hown hBB (Nat.le_refl _)
        have hB1 := hB.trans (hBB.mono hs)
        clear hsj hown hB hrB
        go_wp2_with fail
        refine htx.mono ?_
        rintro e w6 ⟨rfl, hB6⟩
        have hown2 := own_kept hown1 hB6 (Nat.le_refl _)
        have hB2 := hB1.trans (hB6.mono hB1.size)
        have hs2 := hB2.size
        clear htx hown1 hB6 hB1 hBB hcv
        go_wp2_with (at_builtin; refine wpList_appF1 rfl _ _ rfl rfl hown2 ⟨2, 2, 0, s⟩ rfl (by simp) (by omega) hs2 ?_; intro A7 c7 w7 ho7 hg7)
        go_roundw
        case rel => exact ⟨j + 1, k + 1, A7, c7, by go_num, rfl, by omega, by have := HKK.out; omega, by rw [HST.out, ← List.cons_append]; exact ho7, own_grown hB2 hown2 hs2 hg7⟩
        case measure => simp [intOf]; omega
      · obtain rfl : j = n := by omega
        rw [List.take_of_length_le (by rw [HN.out]; exact Nat.le_refl _)] at hown
        obtain ⟨x0, x1, x2⟩ := (hD0.below hB).cells
        clear hlt hj
        go_wp2_with fail
        have hBo := hB
        go_loopw [3, 37] (fun o i wz => ∃ (q k2 : Nat) (A : Option Addr) (c : Nat), i = .int .i64 q ∧ o = .slice A k2 c ∧ q ≤ j ∧ k2 = k + q ∧ wz.ownsRow W0.heap.size 73 4 (.slice A k2 c) k2 (flc (⟨1, 0, j, ⟨#[]⟩⟩ :: cols.map cfld ++ (types.take q).map tfld)) ∧ Below W0.heap.size W0 wz) (fun _ i _ => j - (intOf i).toNat)
        case atStart => exact ⟨0, k, A, c, rfl, rfl, Nat.zero_le _, rfl, by simpa using hown, hB⟩
        case round =>
          clear hown hB hBo x0 x1 x2
          obtain ⟨q, k2, A, c, rfl, rfl, hq, hk2, hown, hB⟩ := hrel
          have hs := hB.size
          have hk2b : k2 ≤ 200 := by omega
          have HK2 := Lib.hid hk2
          clear hk2
          by_cases hlt : q < j
          · obtain ⟨t, htq⟩ : ∃ t, types[q]? = some t := ⟨_, List.getElem?_eq_getElem (by rw [HT.out]; exact hlt)⟩
            obtain ⟨b1, o1, rfl, hb1, g0⟩ := one_at (hr2.below hB (Nat.le_refl _)) htq
            have ht32 := HTY.out t (List.mem_of_getElem? htq)
            have HST : Hid ((types.take (q + 1)).map tfld = (types.take q).map tfld ++ [⟨3, 0, t, ⟨#[]⟩⟩]) := Lib.hid (by rw [List.take_add_one, htq]; simp [tfld])
            clear htq
            go_wp2_with (at_builtin; refine wpList_appF1 rfl _ _ rfl rfl hown ⟨3, 0, t, ⟨#[]⟩⟩ rfl (by simp) (by omega) hs ?_; intro A7 c7 w7 ho7 hg7)
            go_roundw
            case rel => exact ⟨q + 1, k2 + 1, A7, c7, by go_num, rfl, by omega, by have := HK2.out; omega, by rw [HST.out, ← List.append_assoc]; exact ho7, own_grown hB hown hs hg7⟩
            case measure => simp [intOf]; omega
          · obtain rfl : q = j := by omega
            rw [List.take_of_length_le (by rw [HT.out]; exact Nat.le_refl _)] at hown
            have hH : (⟨1, 0, q, ⟨#[]⟩⟩ :: cols.map cfld ++ types.map tfld) = H := by
              rw [← HH.out]; unfold dhead
              rw [HN.out, if_neg h0]
              rfl
            rw [hH] at hown
            have hkM : k2 = M := by
              rw [← HM.out, ← hH]
              have e1 := HK2.out
              have e2 := HKK.out
              have e3 := HN.out
              have e4 := HT.out
              simp
              omega
            subst hkM
            clear hlt hq hH
            go_wp2_with fail
            go_ret
            exact ⟨A, c, rfl, own_base hown hE0.size, bel_step hE0 hB⟩
end Go.Proofs.YtlgokfgbcohioaaDoor
