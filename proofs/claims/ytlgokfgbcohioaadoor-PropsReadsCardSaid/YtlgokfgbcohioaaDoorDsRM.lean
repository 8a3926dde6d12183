/- WALK: dataset.row -/
import Derived.Test.YtlgokfgbcohioaaDoorDsCM
namespace Go.Proofs.YtlgokfgbcohioaaDoor
open Go.RowKit Plain

def zfld : Fld := ⟨0, 0, 0, ⟨#[]⟩⟩
def wide (fs : List Fld) : Array Value := (flc (fs ++ List.replicate (16 - fs.length) zfld)).toArray
theorem flc_app (a b : List Fld) : flc (a ++ b) = flc a ++ flc b := by simp [flc]
theorem wide_set {fs : List Fld} {f : Fld} (h : fs.length < 16) : ((((wide fs).setIfInBounds (fs.length * 4) (.int .i64 f.num)).setIfInBounds (fs.length * 4 + 1) (.int .i64 f.kind)).setIfInBounds (fs.length * 4 + 2) (.int .u64 f.val)).setIfInBounds (fs.length * 4 + 3) (.string f.text) = wide (fs ++ [f]) := by
  unfold wide
  obtain ⟨m, hm⟩ : ∃ m, 16 - fs.length = m + 1 := ⟨15 - fs.length, by omega⟩
  have hm2 : 16 - (fs ++ [f]).length = m := by simp; omega
  rw [hm, hm2, List.replicate_succ]
  have hl := flc_len fs
  simp only [flc_app, List.setIfInBounds_toArray]
  have e : flc (zfld :: List.replicate m zfld) = .int .i64 0 :: .int .i64 0 :: .int .u64 0 :: .string ⟨#[]⟩ :: flc (List.replicate m zfld) := rfl
  have e2 : flc [f] = [.int .i64 f.num, .int .i64 f.kind, .int .u64 f.val, .string f.text] := rfl
  rw [e, e2]
  congr 1
  rw [List.set_append_right _ _ (by omega), List.set_append_right _ _ (by omega), List.set_append_right _ _ (by omega), List.set_append_right _ _ (by omega)]
  rw [show fs.length * 4 - (flc fs).length = 0 by omega, show fs.length * 4 + 1 - (flc fs).length = 1 by omega, show fs.length * 4 + 2 - (flc fs).length = 2 by omega, show fs.length * 4 + 3 - (flc fs).length = 3 by omega]
  simp
/-- block B is the array of sixteen fields, the first of them laid -/
def WideAt (W : World) (B : Nat) (fs : List Fld) : Prop := W.heap[B]? = some (.cells (wide fs) 116 (0, 0))
theorem WideAt.lt {W : World} {B : Nat} {fs : List Fld} (h : WideAt W B fs) : B < W.heap.size := (Array.getElem?_eq_some_iff.1 h).1
theorem WideAt.below {W W' : World} {B : Nat} {fs : List Fld} (h : WideAt W B fs) (hb : Below W.heap.size W W') : WideAt W' B fs := (hb.block B h.lt).trans h
theorem WideAt.room {W : World} {B : Nat} {fs : List Fld} (h : WideAt W B fs) (hl : fs.length < 16) :
    (W.cell? ⟨B, fs.length * 4, none⟩ = some (.int .i64 0) ∧ W.cell? ⟨B, fs.length * 4 + 1, none⟩ = some (.int .i64 0) ∧ W.cell? ⟨B, fs.length * 4 + 2, none⟩ = some (.int .u64 0) ∧ W.cell? ⟨B, fs.length * 4 + 3, none⟩ = some (.string ⟨#[]⟩)) ∧
    W.frozen? ⟨B, fs.length * 4, none⟩ = false ∧ W.frozen? ⟨B, fs.length * 4 + 1, none⟩ = false ∧ W.frozen? ⟨B, fs.length * 4 + 2, none⟩ = false ∧ W.frozen? ⟨B, fs.length * 4 + 3, none⟩ = false := by
  have hz : ∀ i, W.frozen? ⟨B, i, none⟩ = false := fun i => by simp [World.frozen?, show W.heap[B]? = _ from h]
  have hc : ∀ i, W.cell? ⟨B, i, none⟩ = (wide fs)[i]? := fun i => by simp [World.cell?, show W.heap[B]? = _ from h]
  obtain ⟨m, hm⟩ : ∃ m, 16 - fs.length = m + 1 := ⟨15 - fs.length, by omega⟩
  have hl2 := flc_len fs
  have hw : ∀ j, j < 4 → (wide fs)[fs.length * 4 + j]? = zfld.cells[j]? := fun j hj => by
    unfold wide
    rw [List.getElem?_toArray, hm, List.replicate_succ, flc_app, List.getElem?_append_right (by omega), show fs.length * 4 + j - (flc fs).length = j by omega]
    show (zfld.cells ++ flc (List.replicate m zfld))[j]? = _
    rw [List.getElem?_append_left (by simp [Fld.cells]; omega)]
  exact ⟨⟨(hc _).trans (hw 0 (by omega)), (hc _).trans (hw 1 (by omega)), (hc _).trans (hw 2 (by omega)), (hc _).trans (hw 3 (by omega))⟩, hz _, hz _, hz _, hz _⟩
theorem WideAt.set {W : World} {B : Nat} {fs : List Fld} {f : Fld} (h : WideAt W B fs) (hl : fs.length < 16) :
    WideAt ((((W.setCell ⟨B, fs.length * 4, none⟩ (.int .i64 f.num)).setCell ⟨B, fs.length * 4 + 1, none⟩ (.int .i64 f.kind)).setCell ⟨B, fs.length * 4 + 2, none⟩ (.int .u64 f.val)).setCell ⟨B, fs.length * 4 + 3, none⟩ (.string f.text)) B (fs ++ [f]) := by
  unfold WideAt
  rw [← wide_set hl]
  exact heap_setCell_same _ B _ _ _ _ (heap_setCell_same _ B _ _ _ _ (heap_setCell_same _ B _ _ _ _ (heap_setCell_same W B _ _ _ _ h)))
theorem WideAt.rd {W : World} {B : Nat} {fs : List Fld} (h : WideAt W B fs) : Rd W W.heap.size (some ⟨B, 0, none⟩) (flc fs) := by
  refine .inr ⟨B, 0, rfl, h.lt, fun i hi => ?_⟩
  have hc : W.cell? ⟨B, 0 + i, none⟩ = (wide fs)[i]? := by simp [World.cell?, show W.heap[B]? = _ from h]
  rw [hc]
  unfold wide
  rw [List.getElem?_toArray, flc_app, List.getElem?_append_left hi]
theorem wide_len : Tryd.prog.arrayLen 116 = 16 := by kernel_rfl
theorem wide_und : Tryd.prog.underlying 116 = some (.array (Tryd.prog.arrayLen 116) (Tryd.prog.elem 116)) := by kernel_rfl
theorem wide_elem : Tryd.prog.elem 116 = 73 := by kernel_rfl
theorem run_wide (W : World) (B j : Nat) (hj : j ≤ 16) : (Instr.sliceAt 116 (.pointer (some ⟨B, 0, none⟩)) none (some (.int .i64 (j : Int))) none).run Tryd.prog W = .ok (.slice (some ⟨B, 0, none⟩) j 16) W := by
  rw [run_sliceAt_array_h W _ ⟨B, 0, none⟩ wide_und .i64 (j : Int) (by omega) (by rw [wide_len]; omega), wide_elem, wide_len]
  go_simp
theorem below_set4 {B R a b c d : Nat} {w W : World} (h : Below B w W) (hB : B ≤ R) (v0 v1 v2 v3 : Value) : Below B w ((((W.setCell ⟨R, a, none⟩ v0).setCell ⟨R, b, none⟩ v1).setCell ⟨R, c, none⟩ v2).setCell ⟨R, d, none⟩ v3) :=
  (((h.setCell (p := ⟨R, a, none⟩) hB _).setCell (p := ⟨R, b, none⟩) hB _).setCell (p := ⟨R, c, none⟩) hB _).setCell (p := ⟨R, d, none⟩) hB _
set_option maxRecDepth 100000 in
set_option maxHeartbeats 2000000 in
theorem drow_any (r : List VV) (A : Option Addr) (c : Nat) (hlen : r.length ≤ 16) (hok : ∀ v ∈ r, VVOk v) (w : World) (hr : Rd w w.heap.size A (vvl r)) (hK : Kinds w) :
    Calls Tryd.prog 41 #[.slice A r.length c] w (BPost (drow r) w) := by
  obtain ⟨q, hq⟩ : ∃ q, drow r = q := ⟨_, rfl⟩
  rw [hq]
  have HQ := Lib.hid hq
  have HR := Lib.hid hr
  have HOK := Lib.hid hok
  have HK := Lib.hid hK
  clear hq hr hok hK
  obtain ⟨n, hn⟩ : ∃ n, r.length = n := ⟨_, rfl⟩
  rw [hn] at hlen ⊢
  have HN := Lib.hid hn
  clear hn
  go_enter Tryd.func41, Tryd.ntmps41
  go_wp2_with fail
  have hW0 : WideAt (w.alloc (.cells (wide []) 116)) w.heap.size [] := World.alloc_heap_new w _
  have hE0 : Below w.heap.size w (w.alloc (.cells (wide []) 116)) := (Below.refl _ w).alloc (Nat.le_refl _) _
  go_loopw [10] (fun i wr => ∃ (j : Nat) (fs : List Fld), i = .int .i64 j ∧ j ≤ n ∧ fs = (r.take j).map drfld ∧ drerr r = drerr (r.drop j) ∧ WideAt wr w.heap.size fs ∧ Below w.heap.size w wr) (fun i _ => n - (intOf i).toNat)
  case atStart => exact ⟨0, [], rfl, Nat.zero_le _, rfl, rfl, hW0, hE0⟩
  case round =>
    clear hW0 hE0
    obtain ⟨j, fs, rfl, hj, hfs, he, hX, hB⟩ := hrel
    have hfl : fs.length = j := by rw [hfs]; simp [HN.out]; omega
    have hs := hB.size
    have HFS := Lib.hid hfs
    have HE := Lib.hid he
    clear hfs he
    by_cases hlt : j < n
    · obtain ⟨v, hv⟩ : ∃ v, r[j]? = some v := ⟨_, List.getElem?_eq_getElem (by rw [HN.out]; exact hlt)⟩
      obtain ⟨b1, o1, rfl, hb1, g0, g1, g2⟩ := val_at (HR.out.below hB (Nat.le_refl _)) hv
      have hcell := fun W hK => dcell_any v (HOK.out v (List.mem_of_getElem? hv)) W hK
      have hd := drop_cons hv
      have HT : Hid ((r.take (j + 1)).map drfld = fs ++ [drfld v]) := Lib.hid (by rw [HFS.out, List.take_add_one, hv]; simp)
      have HD : Hid (drerr r = if (dcell v).2 = 0 then drerr (r.drop (j + 1)) else (dcell v).2) := Lib.hid (by rw [HE.out, hd, drerr])
      have HF : Hid (drfld v = ⟨1, 2, 0, ⟨(dcell v).1.toArray⟩⟩) := Lib.hid rfl
      obtain ⟨k, vn, vs⟩ := v
      simp only at g0 g1 g2
      unfold VV.cells at hcell
      simp only at hcell
      unfold BPost at hcell
      obtain ⟨cq, hcq⟩ : ∃ cq, dcell ⟨k, vn, vs⟩ = cq := ⟨_, rfl⟩
      rw [hcq] at hcell HD HF
      obtain ⟨cb, ce⟩ := cq
      simp only at hcell HD HF
      have hK := HK.out.below hB HK.out.pos
      clear hv hd hcq HE
      go_wp2_with fail
      refine (hcell _ hK).mono ?_
      rintro e w1 ⟨A1, c1, rfl, ho1, hB1⟩
      have hX1 := hX.below hB1
      have hB2 := bel_step hB hB1
      clear hcell hB1 hX hB hK g0 g1 g2
      by_cases h0 : ce = 0
      · subst h0
        have htx := dtext_any 1 A1 cb.length c1 cb rfl w1 (Rd.of_own ho1)
        unfold Fld.cells at htx
        have HD2 : Hid (drerr r = drerr (r.drop (j + 1))) := Lib.hid (by have := HD.out; rwa [if_pos rfl] at this)
        clear ho1 HD
        go_wp2_with fail
        refine htx.mono ?_
        rintro e w2 ⟨rfl, hB3⟩
        have hX2 := hX1.below hB3
        have hB4 := bel_step hB2 hB3
        obtain ⟨⟨z0, z1, z2, z3⟩, y0, y1, y2, y3⟩ := hX2.room (by omega)
        rw [hfl] at z0 z1 z2 z3 y0 y1 y2 y3
        have hj16 : j < 16 := by omega
        have HX2 := Lib.hid hX2
        have HFL := Lib.hid hfl
        clear htx hX1 hX2 hB3 hB2 hfl
        go_wp2_with fail
        go_roundw
        case rel =>
          refine ⟨j + 1, fs ++ [drfld ⟨k, vn, vs⟩], by go_num, by omega, HT.out.symm, HD2.out, ?_, below_set4 hB4 (Nat.le_refl _) _ _ _ _⟩
          have := HX2.out.set (f := drfld ⟨k, vn, vs⟩) (by rw [HFL.out]; exact hj16)
          rw [HFL.out, HF.out] at this
          rw [HF.out]
          exact this
        case measure => simp [intOf]; omega
      · have hbe : (ce != 0) = true := by simpa using h0
        have hq : q = ([], ce) := by
          have h1 := HD.out
          rw [if_neg h0] at h1
          rw [← HQ.out]; unfold drow
          rw [h1, if_neg h0]
        have HQ2 := Lib.hid hq
        clear ho1 h0 hq HD
        go_wp2_with fail
        go_ret2
        exact bpost_err HQ2.out hB2
    · obtain rfl : j = n := by omega
      have hz : drerr r = 0 := by rw [HE.out, List.drop_eq_nil_of_le (by rw [HN.out]; exact Nat.le_refl _)]; rfl
      have hq : q = wput fs := by
        rw [← HQ.out]; unfold drow
        rw [if_pos hz, HFS.out, List.take_of_length_le (by rw [HN.out]; exact Nat.le_refl _)]
      have hok : ∀ f ∈ fs, FldOk f := by
        intro f hf
        rw [HFS.out] at hf
        obtain ⟨v, _, rfl⟩ := List.mem_map.1 hf
        exact ⟨by simp [drfld], by simp [drfld], by simp [drfld]⟩
      have hput := puts_any fs (some ⟨w.heap.size, 0, none⟩) 16 (by omega) hok wr hX.rd
      have hput2 : Calls Tryd.prog 32 #[.slice (some ⟨w.heap.size, 0, none⟩) fs.length 16] wr (BPost (wput fs) wr) := hput
      rw [← hq, hfl] at hput2
      have hlt2 := hX.lt
      have hrw := run_wide wr w.heap.size j hlen
      clear hput hok hq hz HE hlt hX hfl
      go_wp2_with fail
      refine hput2.mono ?_
      rintro e w3 ⟨A3, c3, rfl, ho3, hB3⟩
      go_wp2_with fail
      go_ret2
      exact ⟨A3, c3, rfl, own_base ho3 hs, bel_step hB hB3⟩
end Go.Proofs.YtlgokfgbcohioaaDoor
