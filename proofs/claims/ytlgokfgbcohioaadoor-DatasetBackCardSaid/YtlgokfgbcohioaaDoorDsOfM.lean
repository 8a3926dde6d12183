/- WALK: crierref08.Of (printed by genrdsod.py) -/
import Derived.Test.YtlgokfgbcohioaaDoorDsOdM
import Derived.Test.YtlgokfgbcohioaaDoorDsOeM
import Derived.Test.YtlgokfgbcohioaaDoorK5
namespace Go.Proofs.YtlgokfgbcohioaaDoor
open Go.RowKit Plain

set_option maxRecDepth 100000 in
set_option maxHeartbeats 8000000 in
theorem rdof_any (b : List UInt8) (A : Option Addr) (n c : Nat) (hn : b.length = n) (hnc : n ≤ c) (hbl : b.length ≤ 140737488355328) (w : World) (hr : Rd w w.heap.size A (bcl b)) :
    Calls Tryd.prog 37 #[.slice A n c] w (DPost (dof b) w) := by
  obtain ⟨q, hq⟩ : ∃ q, dof b = q := ⟨_, rfl⟩
  rw [hq]
  unfold dof at hq
  have hX0 : BoxD (w.alloc (.cells #[.slice none 0 0, .slice none 0 0, .slice none 0 0] 26)) w.heap.size (.slice none 0 0) (.slice none 0 0) (.slice none 0 0) := World.alloc_heap_new w _
  have hE0 : Below w.heap.size w (w.alloc (.cells #[.slice none 0 0, .slice none 0 0, .slice none 0 0] 26)) := (Below.refl _ w).alloc (Nat.le_refl _) _
  have hof := rof_any b A n c hn hnc _ ((hr.below hE0 (Nat.le_refl _)).more hE0.size) hbl
  unfold OfPost at hof
  have HRD := Lib.hid (wof_rd b)
  have h256 := wof_256R b
  obtain ⟨o, ho⟩ : ∃ o, wof b = o := ⟨_, rfl⟩
  rw [ho] at hof hq HRD h256
  obtain ⟨l, er⟩ := o
  simp only at hof hq HRD h256
  have HQ := Lib.hid hq
  obtain ⟨m, hm⟩ : ∃ m, l.length = m := ⟨_, rfl⟩
  rw [hm] at hof h256
  have HM := Lib.hid hm
  clear ho hq hm hr hn hbl
  go_enter Tryd.func37, Tryd.ntmps37
  go_wp2_with fail
  refine hof.mono ?_
  rintro e w1 ⟨A1, c1, rfl, ho1, hB1⟩
  have hX1 := hX0.below hB1
  have hW1 := bel_step hE0 hB1
  clear hof hX0 hE0 hB1
  have HXC : Hid (∀ (W : World) (e : Int), BoxD W w.heap.size (.slice none 0 0) (.slice none 0 0) (.slice none 0 0) → Below w.heap.size w W → True) := Lib.hid (fun _ _ _ _ => trivial)
  clear HXC
  by_cases he : er = 0
  rotate_left
  · have hbe : ((er : Int) != 0) = true := by simp; omega
    have HQ2 : Hid (q = (DTab.none, (er : Int))) := Lib.hid (by have := HQ.out; rw [if_neg he] at this; exact this.symm)
    obtain ⟨x0, x1, x2⟩ := hX1.cells
    have y0 := hX1.frozen 0
    have y1 := hX1.frozen 1
    have y2 := hX1.frozen 2
    clear he HQ ho1 hX1
    go_wp2_with fail
    refine bodyPost_ret (v := .tuple #[.agg #[.slice none 0 0, .slice none 0 0, .slice none 0 0], .int .i64 (er : Int)]) ?_ rfl (dpost_err HQ2.out (below_set3v hW1 (Nat.le_refl _) _ _ _))
    rw [results_cell_tmp rfl]; go_simp
  subst he
  have HQ2 : Hid ((if dsorted l = 0 then (if ferr ((wall 4 l).map fun f => (drd f.text.data.toList (wall 2 l).length).2) = 0 then (⟨(wall 2 l).map Fld.text, (wall 3 l).map Fld.val, (wall 4 l).map fun f => (drd f.text.data.toList (wall 2 l).length).1⟩, 0) else (DTab.none, ferr ((wall 4 l).map fun f => (drd f.text.data.toList (wall 2 l).length).2))) else (DTab.none, dsorted l)) = q) := Lib.hid (by have := HQ.out; rwa [if_pos rfl] at this)
  have h2 := fun W (hB : Below w1.heap.size w1 W) => rall_any 2 l A1 c1 (by rw [HM.out]; omega) W (((Rd.of_own ho1).below hB (Nat.le_refl _)).more hB.size)
  have h3 := fun W (hB : Below w1.heap.size w1 W) => rall_any 3 l A1 c1 (by rw [HM.out]; omega) W (((Rd.of_own ho1).below hB (Nat.le_refl _)).more hB.size)
  have h4 := fun W (hB : Below w1.heap.size w1 W) => rall_any 4 l A1 c1 (by rw [HM.out]; omega) W (((Rd.of_own ho1).below hB (Nat.le_refl _)).more hB.size)
  have hla := fun W (hB : Below w1.heap.size w1 W) => rlast_any 1 l A1 c1 (by rw [HM.out]; omega) W (((Rd.of_own ho1).below hB (Nat.le_refl _)).more hB.size)
  rw [HM.out] at h2 h3 h4 hla
  have HRL := Lib.hid (Rd.of_own ho1)
  have HA := Lib.hid (And.intro h2 (And.intro h3 (And.intro h4 hla)))
  clear h2 h3 h4 hla ho1 HQ
  go_wp2_with fail
  go_loopw [6] (fun i wr => ∃ (j : Nat), i = .int .i64 j ∧ j ≤ m ∧ ferr (l.map dwrong) = ferr ((l.drop j).map dwrong) ∧ wr = w1) (fun i _ => m - (intOf i).toNat)
  case atStart => exact ⟨0, rfl, Nat.zero_le _, rfl, rfl⟩
  case round =>
    obtain ⟨j, rfl, hj, he, rfl⟩ := hrel
    have HE := Lib.hid he
    clear he
    by_cases hlt : j < m
    · obtain ⟨f, hf⟩ : ∃ f, l[j]? = some f := ⟨_, List.getElem?_eq_getElem (by rw [HM.out]; exact hlt)⟩
      obtain ⟨b1, o1, rfl, hb1, g0, g1, g2, g3⟩ := fld_at HRL.out hf
      have HEC : Hid (ferr (l.map dwrong) = if dwrong f = 0 then ferr ((l.drop (j + 1)).map dwrong) else dwrong f) := Lib.hid (by rw [HE.out, ferr_cons (f := dwrong) hf])
      have hnum := (HRD.out f (List.mem_of_getElem? hf)).1
      have HFAIL : Hid (∀ e : Int, ¬ e = 0 → dwrong f = e → q = (DTab.none, e)) := Lib.hid (by
        intro e h0 h1
        have h2 := HEC.out
        rw [h1, if_neg h0] at h2
        have h3 : dsorted l = e := by unfold dsorted; rw [if_neg (by rw [h2]; exact h0), h2]
        rw [← HQ2.out, if_neg (by rw [h3]; exact h0), h3])
      have HGO : Hid (dwrong f = 0 → ferr (l.map dwrong) = ferr ((l.drop (j + 1)).map dwrong)) := Lib.hid (fun h => by rw [HEC.out, if_pos h])
      obtain ⟨x0, x1, x2⟩ := hX1.cells
      have y0 := hX1.frozen 0
      have y1 := hX1.frozen 1
      have y2 := hX1.frozen 2
      obtain ⟨num, kind, val, text⟩ := f
      simp only at g0 g1 g2 g3 hnum
      clear hf HE HEC
      by_cases n1 : num = 1
      · subst n1
        by_cases hk : kind = 0
        · subst hk
          have HG := Lib.hid (HGO.out (by unfold dwrong; rw [if_pos (.inl rfl), if_pos rfl, if_neg (fun h => absurd h.1 (by simp))]))
          clear HFAIL HGO hnum
          go_wp2_with fail
          go_roundw
          case rel => exact ⟨j + 1, by go_num, by omega, HG.out, by first | rfl | trivial⟩
          case measure => simp [intOf]; omega
        · have hb : (kind != 0) = true := by simpa using hk
          have HF := Lib.hid (HFAIL.out 4 (by decide) (by unfold dwrong; rw [if_pos (.inl rfl), if_neg hk]))
          clear HFAIL HGO hnum hk
          go_wp2_with fail
          refine bodyPost_ret (v := .tuple #[.agg #[.slice none 0 0, .slice none 0 0, .slice none 0 0], .int .i64 4]) ?_ rfl (dpost_err HF.out (below_set3v hW1 (Nat.le_refl _) _ _ _))
          rw [results_cell_tmp rfl]; go_simp
      by_cases n3 : num = 3
      · subst n3
        by_cases hk : kind = 0
        · subst hk
          by_cases hv : 4294967295 < val
          · have hb : decide ((4294967295 : Int) < (val : Int)) = true := decide_eq_true (by omega)
            have HF := Lib.hid (HFAIL.out 5 (by decide) (by unfold dwrong; rw [if_pos (.inr rfl), if_pos rfl, if_pos ⟨rfl, hv⟩]))
            clear HFAIL HGO hnum hv n1
            go_wp2_with fail
            refine bodyPost_ret (v := .tuple #[.agg #[.slice none 0 0, .slice none 0 0, .slice none 0 0], .int .i64 5]) ?_ rfl (dpost_err HF.out (below_set3v hW1 (Nat.le_refl _) _ _ _))
            rw [results_cell_tmp rfl]; go_simp
          · have hb : decide ((4294967295 : Int) < (val : Int)) = false := decide_eq_false (by omega)
            have HG := Lib.hid (HGO.out (by unfold dwrong; rw [if_pos (.inr rfl), if_pos rfl, if_neg (fun h => hv h.2)]))
            clear HFAIL HGO hnum hv n1
            go_wp2_with fail
            go_roundw
            case rel => exact ⟨j + 1, by go_num, by omega, HG.out, by first | rfl | trivial⟩
            case measure => simp [intOf]; omega
        · have hb : (kind != 0) = true := by simpa using hk
          have HF := Lib.hid (HFAIL.out 4 (by decide) (by unfold dwrong; rw [if_pos (.inr rfl), if_neg hk]))
          clear HFAIL HGO hnum hk n1
          go_wp2_with fail
          refine bodyPost_ret (v := .tuple #[.agg #[.slice none 0 0, .slice none 0 0, .slice none 0 0], .int .i64 4]) ?_ rfl (dpost_err HF.out (below_set3v hW1 (Nat.le_refl _) _ _ _))
          rw [results_cell_tmp rfl]; go_simp
      have h1 : (num == 1) = false := by simpa using n1
      have h3 : (num == 3) = false := by simpa using n3
      by_cases n24 : num = 2 ∨ num = 4
      · by_cases hk : kind = 2
        · subst hk
          have HG := Lib.hid (HGO.out (by unfold dwrong; rw [if_neg (fun h => h.elim n1 n3), if_pos n24, if_pos rfl]))
          clear HFAIL HGO hnum n1 n3
          rcases n24 with rfl | rfl
          all_goals
            go_wp2_with fail
            go_roundw
            case rel => exact ⟨j + 1, by go_num, by omega, HG.out, by first | rfl | trivial⟩
            case measure => simp [intOf]; omega
        · have hb : (kind != 2) = true := by simpa using hk
          have HF := Lib.hid (HFAIL.out 4 (by decide) (by unfold dwrong; rw [if_neg (fun h => h.elim n1 n3), if_pos n24, if_neg hk]))
          clear HFAIL HGO hnum hk n1 n3
          rcases n24 with rfl | rfl
          all_goals
            go_wp2_with fail
            refine bodyPost_ret (v := .tuple #[.agg #[.slice none 0 0, .slice none 0 0, .slice none 0 0], .int .i64 4]) ?_ rfl (dpost_err HF.out (below_set3v hW1 (Nat.le_refl _) _ _ _))
            rw [results_cell_tmp rfl]; go_simp
      · have HG := Lib.hid (HGO.out (by unfold dwrong; rw [if_neg (fun h => h.elim n1 n3), if_neg n24]))
        have h5 : decide (num ≤ 4) = false := decide_eq_false (by omega)
        clear HFAIL HGO hnum n1 n3 n24
        go_wp2_with fail
        go_roundw
        case rel => exact ⟨j + 1, by go_num, by omega, HG.out, by first | rfl | trivial⟩
        case measure => simp [intOf]; omega
    · have hz : ferr (l.map dwrong) = 0 := by rw [HE.out, List.drop_eq_nil_of_le (by rw [HM.out]; omega)]; rfl
      have HDS : Hid (dsorted l = if 16 < (wall 2 l).length ∨ 16 < (wall 3 l).length ∨ 32 < (wall 4 l).length then 6 else if (wall 2 l).length = (wall 3 l).length ∧ (wlast 1 l).1.val = (wall 2 l).length then 0 else 4) := Lib.hid (by unfold dsorted; rw [if_pos hz])
      obtain rfl : j = m := by omega
      obtain ⟨W1, rfl⟩ : ∃ W, W = wr := ⟨_, rfl⟩
      obtain ⟨h2, h3, h4, hla⟩ := HA.out
      have HSO := Lib.hid (dsorted_ok (l := l))
      have HFAIL : Hid (∀ e : Int, ¬ e = 0 → dsorted l = e → q = (DTab.none, e)) := Lib.hid (by
        intro e h0 h1
        rw [← HQ2.out, if_neg (by rw [h1]; exact h0), h1])
      have hvl : (wlast 1 l).1.val < 18446744073709551616 := by
        unfold wlast
        cases hg : (wall 1 l).getLast? with
        | none => simp
        | some f => exact (HRD.out f (wall_mem (List.mem_of_getLast? hg)).1).2.2.2.2.1
      obtain ⟨L1, hL1⟩ : ∃ L, wlast 1 l = L := ⟨_, rfl⟩
      obtain ⟨N, hN⟩ : ∃ N, wall 2 l = N := ⟨_, rfl⟩
      obtain ⟨T, hT⟩ : ∃ N, wall 3 l = N := ⟨_, rfl⟩
      obtain ⟨R, hR⟩ : ∃ N, wall 4 l = N := ⟨_, rfl⟩
      have k2 := wall_len 2 l
      have k3 := wall_len 3 l
      have k4 := wall_len 4 l
      have HTY0 := Lib.hid (dtype_lt (l := l))
      have HSZT : Hid (∀ f ∈ wall 4 l, f.text.size ≤ 4096) := Lib.hid (by
        intro f hf
        obtain ⟨_, _, _, _, _, h⟩ := HRD.out f (wall_mem hf).1
        exact h)
      rw [hL1] at hla HDS hvl
      rw [hN] at h2 k2 HDS HQ2
      rw [hT] at h3 k3 HDS HTY0 HQ2
      rw [hR] at h4 k4 HDS HSZT HQ2
      rw [HM.out] at k2 k3 k4
      obtain ⟨⟨lnum, lkind, lval, ltext⟩, lok⟩ := L1
      unfold Fld.agg at hla
      simp only at hla HDS hvl
      obtain ⟨nn, hnn⟩ : ∃ k, N.length = k := ⟨_, rfl⟩
      obtain ⟨nt, hnt⟩ : ∃ k, T.length = k := ⟨_, rfl⟩
      obtain ⟨nr, hnr⟩ : ∃ k, R.length = k := ⟨_, rfl⟩
      rw [hnn] at h2 k2 HDS HQ2
      rw [hnt] at h3 k3 HDS
      rw [hnr] at h4 k4 HDS
      have HN := Lib.hid hnn
      have HT := Lib.hid hnt
      have HR := Lib.hid hnr
      have HZ := Lib.hid hz
      clear hL1 hN hT hR hz HE hnn hnt hnr hlt HA HRL
      go_wp2_with fail
      refine (h2 _ (Below.refl _ _)).mono ?_
      rintro e w2 ⟨A2, c2, rfl, ho1, hB1⟩
      clear h2
      go_wp2_with fail
      refine (h3 _ hB1).mono ?_
      rintro e w3 ⟨A3, c3, rfl, ho2, hB2⟩
      have hV2 := bel_step hB1 hB2
      have hp1 := own_kept ho1 hB2 (Nat.le_refl _)
      clear h3 ho1
      go_wp2_with fail
      refine (h4 _ hV2).mono ?_
      rintro e w4 ⟨A4, c4, rfl, ho3, hB3⟩
      have hV3 := bel_step hV2 hB3
      have hX4 := hX1.below hV3
      have hW4 := bel_step hW1 hV3
      have hq1 := own_kept hp1 hB3 (Nat.le_refl _)
      have hq2 := own_base (own_kept ho2 hB3 (Nat.le_refl _)) hB1.size
      have hq3 := own_base ho3 (Nat.le_trans hB1.size hB2.size)
      clear h4 ho2 ho3 hp1 hB2 hB3 hV2 hB1
      obtain ⟨x0, x1, x2⟩ := hX4.cells
      have y0 := hX4.frozen 0
      have y1 := hX4.frozen 1
      have y2 := hX4.frozen 2
      by_cases b1 : 16 < nn
      · have hd : decide ((16 : Int) < (nn : Int)) = true := decide_eq_true (by omega)
        have hds : dsorted l = 6 := by rw [HDS.out, if_pos (by omega)]
        have HQ := Lib.hid (HFAIL.out 6 (by decide) hds)
        clear hds HFAIL
        go_wp2_with fail
        refine bodyPost_ret (v := .tuple #[.agg #[.slice none 0 0, .slice none 0 0, .slice none 0 0], .int .i64 6]) ?_ rfl (dpost_err HQ.out (below_set3v hW4 (Nat.le_refl _) _ _ _))
        rw [results_cell_tmp rfl]; go_simp
      have hd : decide ((16 : Int) < (nn : Int)) = false := decide_eq_false (by omega)
      by_cases b2 : 16 < nt
      · have hd2 : decide ((16 : Int) < (nt : Int)) = true := decide_eq_true (by omega)
        have hds : dsorted l = 6 := by rw [HDS.out, if_pos (by omega)]
        have HQ := Lib.hid (HFAIL.out 6 (by decide) hds)
        clear hds HFAIL
        go_wp2_with fail
        refine bodyPost_ret (v := .tuple #[.agg #[.slice none 0 0, .slice none 0 0, .slice none 0 0], .int .i64 6]) ?_ rfl (dpost_err HQ.out (below_set3v hW4 (Nat.le_refl _) _ _ _))
        rw [results_cell_tmp rfl]; go_simp
      have hd2 : decide ((16 : Int) < (nt : Int)) = false := decide_eq_false (by omega)
      by_cases b3 : 32 < nr
      · have hd3 : decide ((32 : Int) < (nr : Int)) = true := decide_eq_true (by omega)
        have hds : dsorted l = 6 := by rw [HDS.out, if_pos (by omega)]
        have HQ := Lib.hid (HFAIL.out 6 (by decide) hds)
        clear hds HFAIL
        go_wp2_with fail
        refine bodyPost_ret (v := .tuple #[.agg #[.slice none 0 0, .slice none 0 0, .slice none 0 0], .int .i64 6]) ?_ rfl (dpost_err HQ.out (below_set3v hW4 (Nat.le_refl _) _ _ _))
        rw [results_cell_tmp rfl]; go_simp
      have hd3 : decide ((32 : Int) < (nr : Int)) = false := decide_eq_false (by omega)
      clear x0 x1 x2 y0 y1 y2
      go_wp2_with fail
      refine (hla _ hV3).mono ?_
      rintro e wL ⟨rfl, hB5⟩
      have hX5 := hX4.below hB5
      have hW5 := bel_step hW4 hB5
      have hr1 := own_kept hq1 hB5 (Nat.le_refl _)
      have hr2 := own_kept hq2 hB5 (Nat.le_refl _)
      have hr3 := own_kept hq3 hB5 (Nat.le_refl _)
      have hxl := hX5.lt
      obtain ⟨x0, x1, x2⟩ := hX5.cells
      have y0 := hX5.frozen 0
      have y1 := hX5.frozen 1
      have y2 := hX5.frozen 2
      clear hla hX4 hW4 hB5 hq1 hq2 hq3 hV3
      by_cases b4 : nn = nt
      rotate_left
      · have hb4 : ((nn : Int) != (nt : Int)) = true := by simp; omega
        have hds : dsorted l = 4 := by rw [HDS.out, if_neg (by omega), if_neg (fun h => b4 h.1)]
        have HQ := Lib.hid (HFAIL.out 4 (by decide) hds)
        clear hds HFAIL
        go_wp2_with fail
        refine bodyPost_ret (v := .tuple #[.agg #[.slice none 0 0, .slice none 0 0, .slice none 0 0], .int .i64 4]) ?_ rfl (dpost_err HQ.out (bel_sa hW5 (Nat.le_refl _)))
        rw [results_cell_tmp rfl]; go_simp
      subst b4
      by_cases b5 : lval = nn
      rotate_left
      · have hb5 : ((lval : Int) != (nn : Int)) = true := by simp; omega
        have hds : dsorted l = 4 := by rw [HDS.out, if_neg (by omega), if_neg (fun h => b5 h.2)]
        have HQ := Lib.hid (HFAIL.out 4 (by decide) hds)
        clear hds HFAIL
        go_wp2_with fail
        refine bodyPost_ret (v := .tuple #[.agg #[.slice none 0 0, .slice none 0 0, .slice none 0 0], .int .i64 4]) ?_ rfl (dpost_err HQ.out (bel_sa hW5 (Nat.le_refl _)))
        rw [results_cell_tmp rfl]; go_simp
      subst b5
      have hds0 : dsorted l = 0 := by rw [HDS.out, if_neg (by omega), if_pos ⟨rfl, rfl⟩]
      have HQ3 : Hid ((if ferr (R.map fun f => (drd f.text.data.toList lval).2) = 0 then (⟨N.map Fld.text, T.map Fld.val, R.map fun f => (drd f.text.data.toList lval).1⟩, 0) else (DTab.none, ferr (R.map fun f => (drd f.text.data.toList lval).2))) = q) := Lib.hid (by
        have := HQ2.out
        rwa [if_pos hds0] at this)
      have HTY := Lib.hid (HTY0.out HZ.out)
      have k2' : lval ≤ 16 := by omega
      have k4' : nr ≤ 32 := by omega
      have hX3 := hX5.alloc (Obj.cells #[.int .i64 lnum, .int .i64 lkind, .int .u64 lval, .string ltext] 73)
      have hW3 := hW5.alloc hW5.size (Obj.cells #[.int .i64 lnum, .int .i64 lkind, .int .u64 lval, .string ltext] 73)
      have hrN := Rd.of_own (hr1.alloc (Obj.cells #[.int .i64 lnum, .int .i64 lkind, .int .u64 lval, .string ltext] 73))
      have hrT := Rd.of_own (hr2.alloc (Obj.cells #[.int .i64 lnum, .int .i64 lkind, .int .u64 lval, .string ltext] 73))
      have hrR := Rd.of_own (hr3.alloc (Obj.cells #[.int .i64 lnum, .int .i64 lkind, .int .u64 lval, .string ltext] 73))
      have hz : (wL.alloc (Obj.cells #[.int .i64 lnum, .int .i64 lkind, .int .u64 lval, .string ltext] 73)).heap.size = wL.heap.size + 1 := by simp
      clear hr1 hr2 hr3 hX5 hW5 x0 x1 x2 y0 y1 y2 hds0 HFAIL HQ2 HTY0 HZ HDS HSO HRD b1 b2 b3 hd hd2 hd3 k2 k3 k4 hvl
      go_wp2_with fail
      generalize wL.alloc (Obj.cells #[.int .i64 lnum, .int .i64 lkind, .int .u64 lval, .string ltext] 73) = Wb at *
      have hD0 : BoxD (Wb.alloc (.cells #[.slice none 0 0, .slice none 0 0, .slice none 0 0] 26)) (wL.heap.size + 1) (.slice none 0 0) (.slice none 0 0) (.slice none 0 0) := by have := World.alloc_heap_new Wb (.cells #[.slice none 0 0, .slice none 0 0, .slice none 0 0] 26); rw [hz] at this; exact this
      have hB0 : Below (wL.heap.size + 1) Wb (Wb.alloc (.cells #[.slice none 0 0, .slice none 0 0, .slice none 0 0] 26)) := (Below.refl _ _).alloc (by rw [hz]; exact Nat.le_refl _) _
      rw [hz] at hrN hrT hrR
      have hwl : w.heap.size < wL.heap.size + 1 := by have := hX3.lt; omega
      go_loopw [14] (fun i wr => ∃ (j : Nat) (A5 : Option Addr) (c5 : Nat) (A6 : Option Addr) (c6 : Nat), i = .int .i64 j ∧ j ≤ lval ∧ BoxD wr (wL.heap.size + 1) (.slice A5 j c5) (.slice A6 j c6) (.slice none 0 0) ∧
        wr.ownsRow ((wL.heap.size + 1) + 1) 9 1 (.slice A5 j c5) j (scl ((N.take j).map Fld.text)) ∧ wr.ownsRow ((wL.heap.size + 1) + 1) 69 1 (.slice A6 j c6) j (ucl ((T.take j).map Fld.val)) ∧ Below (wL.heap.size + 1) Wb wr) (fun i _ => lval - (intOf i).toNat)
      case atStart => exact ⟨0, none, 0, none, 0, rfl, Nat.zero_le _, hD0, World.ownsRow_nil _ _ _ _, World.ownsRow_nil _ _ _ _, hB0⟩
      case round =>
        clear hD0 hB0
        obtain ⟨j, A5, c5, A6, c6, rfl, hj, hD, ho1, ho2, hBw⟩ := hrel
        have hs : (wL.heap.size + 1) ≤ wr.heap.size := hz ▸ hBw.size
        by_cases hlt : j < lval
        · obtain ⟨f, hf⟩ : ∃ f, N[j]? = some f := ⟨_, List.getElem?_eq_getElem (by rw [HN.out]; exact hlt)⟩
          obtain ⟨g, hg⟩ : ∃ f, T[j]? = some f := ⟨_, List.getElem?_eq_getElem (by rw [HT.out]; exact hlt)⟩
          obtain ⟨bN, oN, rfl, hbN, q0, _, _, q3⟩ := fld_at hrN hf
          obtain ⟨bT, oT, rfl, hbT, p0, _, q2, _⟩ := fld_at hrT hg
          have htv := HTY.out g (List.mem_of_getElem? hg)
          have HT1 : Hid (scl ((N.take (j + 1)).map Fld.text) = scl ((N.take j).map Fld.text) ++ [.string f.text]) := Lib.hid (by rw [List.take_add_one, hf]; simp [scl])
          have HT2 : Hid (ucl ((T.take (j + 1)).map Fld.val) = ucl ((T.take j).map Fld.val) ++ [.int .u32 g.val]) := Lib.hid (by rw [List.take_add_one, hg]; simp [ucl])
          clear hf hg q0 p0
          obtain ⟨lvalum, nkind, nval, ntext⟩ := f
          obtain ⟨tnum, tkind, tval, ttext⟩ := g
          simp only at q3 q2 htv HT1 HT2
          have HWR := Lib.hid (u32_wrap htv)
          go_wp2_with fail
          have hD := (show BoxD wr.drew (wL.heap.size + 1) _ _ _ from hD)
          have ho1 := (show World.ownsRow wr.drew _ _ _ _ _ _ from ho1)
          have ho2 := (show World.ownsRow wr.drew _ _ _ _ _ _ from ho2)
          have hBw := hBw.drew
          have f1 := fun u (hu : Below (wL.heap.size + 1) wr.drew u) => (hBw.trans hu).cell (p := ⟨bN, oN + j * 4 + 3, none⟩) hbN
          simp only [q3] at f1
          have hal : Below (wL.heap.size + 1) wr.drew (wr.drew.alloc (Obj.cells #[.string ntext] 9)) := (Below.refl _ _).alloc (by have := hBw.size; rw [hz] at this; exact this) _
          have hbb : (wL.heap.size + 1) + 1 ≤ (wr.drew.alloc (Obj.cells #[.string ntext] 9)).heap.size := by have := hD.lt; simp at this ⊢; omega
          obtain ⟨z0, z1, z2⟩ := hD.cells
          obtain ⟨zz0, zz1, zz2⟩ := (hD.alloc (Obj.cells #[.string ntext] 9)).cells
          clear hs
          refine wp_region_LG (belB (wL.heap.size + 1)) 11 [0, 2, 3, 4, 5, 6, 1, 7, 8, 9, 10] rfl (by decide) (by decide) (by kernel_rfl) ?_
          generalize wr.drew = W2 at *
          simp only [List.filterMap_cons, List.filterMap_nil, List.getElem?_cons_zero, List.getElem?_cons_succ, Option.map_some]
          refine wpL_takeG _ (v := ?_) (by kernel_rfl) (by kernel_rfl) (by kernel_rfl) (fun _ _ _ h => h) (by rfl) (fun u hu => ?_) ?_
          rotate_left
          focus
            replace hu : Below (wL.heap.size + 1) W2 u := hu
            go_simp
            try with_reducible rfl
          simp only [Act.put, List.setIfInBounds_toArray, List.set_cons_zero, List.set_cons_succ]
          refine wpL_takeG _ (v := ?_) (by kernel_rfl) (by kernel_rfl) (by kernel_rfl) (fun _ _ _ h => h) (by rfl) (fun u hu => ?_) ?_
          rotate_left
          focus
            replace hu : Below (wL.heap.size + 1) W2 u := hu
            go_simp
            try with_reducible rfl
          simp only [Act.put, List.setIfInBounds_toArray, List.set_cons_zero, List.set_cons_succ]
          refine wpL_takeG _ (v := ?_) (by kernel_rfl) (by kernel_rfl) (by kernel_rfl) (fun _ _ _ h => h) (by rfl) (fun u hu => ?_) ?_
          rotate_left
          focus
            replace hu : Below (wL.heap.size + 1) W2 u := hu
            go_simp
            try with_reducible rfl
          simp only [Act.put, List.setIfInBounds_toArray, List.set_cons_zero, List.set_cons_succ]
          refine wpL_takeG _ (v := ?_) (by kernel_rfl) (by kernel_rfl) (by kernel_rfl) (fun _ _ _ h => h) (by rfl) (fun u hu => ?_) ?_
          rotate_left
          focus
            replace hu : Below (wL.heap.size + 1) W2 u := hu
            go_simp
            try with_reducible rfl
          simp only [Act.put, List.setIfInBounds_toArray, List.set_cons_zero, List.set_cons_succ]
          refine wpL_takeG _ (v := ?_) (by kernel_rfl) (by kernel_rfl) (by kernel_rfl) (fun _ _ _ h => h) (by rfl) (fun u hu => ?_) ?_
          rotate_left
          focus
            replace hu : Below (wL.heap.size + 1) W2 u := hu
            go_simp
            try with_reducible rfl
          simp only [Act.put, List.setIfInBounds_toArray, List.set_cons_zero, List.set_cons_succ]
          refine wpL_takeG _ (v := ?_) (by kernel_rfl) (by kernel_rfl) (by kernel_rfl) (fun _ _ _ h => h) (by rfl) (fun u hu => ?_) ?_
          rotate_left
          focus
            replace hu : Below (wL.heap.size + 1) W2 u := hu
            go_simp
            try with_reducible rfl
          simp only [Act.put, List.setIfInBounds_toArray, List.set_cons_zero, List.set_cons_succ]
          refine wpL_do2G _ (by kernel_rfl) (by rfl) (by rfl) (fun K hK => ?_) (fun K hK => ?_)
          · go_simp
            refine hK _ _ (Below.refl _ _) ?_
            clear hK K
            refine wpL_doG _ (by kernel_rfl) (by rfl) (fun K hK => ?_)
            go_simp
            refine hK _ _ hal ?_
            clear hK K
            refine wpL_doG _ (by kernel_rfl) (by rfl) (fun K hK => ?_)
            refine wp_app (.tmp 145) (.tmp 151) 22 rfl elemS rfl (ho1.alloc _) rfl (Rd.cells W2 #[.string ntext] _) rfl (by intro u hu; simp at hu; subst hu; rfl) (by unfold maxLen; omega) (by omega) hbb ?_
            intro A5 c5 w5 ho5 hg5 _
            have hgb := (own_grown (Below.refl _ _) (ho1.alloc (Obj.cells #[.string ntext] 9)) hbb hg5).mono (Nat.le_succ (wL.heap.size + 1))
            have hD5 := (hD.alloc (Obj.cells #[.string ntext] 9)).grown (ho1.alloc _) (by decide) hg5
            have ho2k := own_two (ho2.alloc (Obj.cells #[.string ntext] 9)) (ho1.alloc _) (by decide) hg5
            obtain ⟨z0, z1, z2⟩ := hD5.cells
            have y0 := hD5.frozen 0
            have hD6 := hD5.set0 (.slice A5 (j + 1) c5)
            have hst : Below (wL.heap.size + 1) w5 (w5.setCell ⟨wL.heap.size + 1, 0, none⟩ (.slice A5 (j + 1) c5)) := (Below.refl (wL.heap.size + 1) w5).setCell (p := ⟨wL.heap.size + 1, 0, none⟩) (Nat.le_refl _) _
            refine hK _ _ hgb ?_
            clear hK K
            simp only [Act.put, List.setIfInBounds_toArray, List.set_cons_zero, List.set_cons_succ]
            refine wpL_takeG _ (v := ?_) (by kernel_rfl) (by kernel_rfl) (by kernel_rfl) (fun _ _ _ h => h) (by rfl) (fun u hu => ?_) ?_
            rotate_left
            focus
              go_simp
              try with_reducible rfl
            simp only [Act.put, List.setIfInBounds_toArray, List.set_cons_zero, List.set_cons_succ]
            refine wpL_doG _ (by kernel_rfl) (by rfl) (fun K hK => ?_)
            go_simp
            refine hK _ _ hst ?_
            clear hK K
            refine wpL_doneG _ (by kernel_rfl) ?_
            have hD7 := hD6
            have ho1n := own_low ho5 (Nat.lt_succ_self (wL.heap.size + 1)) (i := 0) (.slice A5 (j + 1) c5)
            have ho2n := own_low ho2k (Nat.lt_succ_self (wL.heap.size + 1)) (i := 0) (.slice A5 (j + 1) c5)
            have hBn := ((hBw.trans hal).trans hgb).trans hst
            clear hD5 hD6 ho5 ho2k hst hgb hg5 hal hbb hD ho1 ho2 z0 z1 z2 zz0 zz1 zz2 y0 hBw f1
            generalize w5.setCell ⟨wL.heap.size + 1, 0, none⟩ (.slice A5 (j + 1) c5) = W1 at *
            go_wp2_with fail
            have hD := (show BoxD W1.drew (wL.heap.size + 1) _ _ _ from hD7)
            have ho1 := (show World.ownsRow W1.drew _ _ _ _ _ _ from ho1n)
            have ho2 := (show World.ownsRow W1.drew _ _ _ _ _ _ from ho2n)
            have hBw := hBn.drew
            clear hD7 ho1n ho2n hBn
            have hwr := HWR.out
            have f1 := fun u (hu : Below (wL.heap.size + 1) W1.drew u) => (hBw.trans hu).cell (p := ⟨bT, oT + j * 4 + 2, none⟩) hbT
            simp only [q2] at f1
            have hal : Below (wL.heap.size + 1) W1.drew (W1.drew.alloc (Obj.cells #[.int .u32 tval] 69)) := (Below.refl _ _).alloc (by have := hBw.size; rw [hz] at this; exact this) _
            have hbb : (wL.heap.size + 1) + 1 ≤ (W1.drew.alloc (Obj.cells #[.int .u32 tval] 69)).heap.size := by have := hD.lt; simp at this ⊢; omega
            obtain ⟨z0, z1, z2⟩ := hD.cells
            obtain ⟨zz0, zz1, zz2⟩ := (hD.alloc (Obj.cells #[.int .u32 tval] 69)).cells
            refine wp_region_LG (belB (wL.heap.size + 1)) 12 [0, 2, 3, 4, 5, 6, 7, 1, 8, 9, 10, 11] rfl (by decide) (by decide) (by kernel_rfl) ?_
            generalize W1.drew = W2 at *
            simp only [List.filterMap_cons, List.filterMap_nil, List.getElem?_cons_zero, List.getElem?_cons_succ, Option.map_some]
            refine wpL_takeG _ (v := ?_) (by kernel_rfl) (by kernel_rfl) (by kernel_rfl) (fun _ _ _ h => h) (by rfl) (fun u hu => ?_) ?_
            rotate_left
            focus
              replace hu : Below (wL.heap.size + 1) W2 u := hu
              go_simp
              try with_reducible rfl
            simp only [Act.put, List.setIfInBounds_toArray, List.set_cons_zero, List.set_cons_succ]
            refine wpL_takeG _ (v := ?_) (by kernel_rfl) (by kernel_rfl) (by kernel_rfl) (fun _ _ _ h => h) (by rfl) (fun u hu => ?_) ?_
            rotate_left
            focus
              replace hu : Below (wL.heap.size + 1) W2 u := hu
              go_simp
              try with_reducible rfl
            simp only [Act.put, List.setIfInBounds_toArray, List.set_cons_zero, List.set_cons_succ]
            refine wpL_takeG _ (v := ?_) (by kernel_rfl) (by kernel_rfl) (by kernel_rfl) (fun _ _ _ h => h) (by rfl) (fun u hu => ?_) ?_
            rotate_left
            focus
              replace hu : Below (wL.heap.size + 1) W2 u := hu
              go_simp
              try with_reducible rfl
            simp only [Act.put, List.setIfInBounds_toArray, List.set_cons_zero, List.set_cons_succ]
            refine wpL_takeG _ (v := ?_) (by kernel_rfl) (by kernel_rfl) (by kernel_rfl) (fun _ _ _ h => h) (by rfl) (fun u hu => ?_) ?_
            rotate_left
            focus
              replace hu : Below (wL.heap.size + 1) W2 u := hu
              go_simp
              try with_reducible rfl
            simp only [Act.put, List.setIfInBounds_toArray, List.set_cons_zero, List.set_cons_succ]
            refine wpL_takeG _ (v := ?_) (by kernel_rfl) (by kernel_rfl) (by kernel_rfl) (fun _ _ _ h => h) (by rfl) (fun u hu => ?_) ?_
            rotate_left
            focus
              replace hu : Below (wL.heap.size + 1) W2 u := hu
              go_simp
              try with_reducible rfl
            simp only [Act.put, List.setIfInBounds_toArray, List.set_cons_zero, List.set_cons_succ]
            refine wpL_takeG _ (v := ?_) (by kernel_rfl) (by kernel_rfl) (by kernel_rfl) (fun _ _ _ h => h) (by rfl) (fun u hu => ?_) ?_
            rotate_left
            focus
              replace hu : Below (wL.heap.size + 1) W2 u := hu
              go_simp
              try with_reducible rfl
            simp only [Act.put, List.setIfInBounds_toArray, List.set_cons_zero, List.set_cons_succ]
            refine wpL_takeG _ (v := ?_) (by kernel_rfl) (by kernel_rfl) (by kernel_rfl) (fun _ _ _ h => h) (by rfl) (fun u hu => ?_) ?_
            rotate_left
            focus
              replace hu : Below (wL.heap.size + 1) W2 u := hu
              go_simp
              try with_reducible rfl
            simp only [Act.put, List.setIfInBounds_toArray, List.set_cons_zero, List.set_cons_succ]
            refine wpL_do2G _ (by kernel_rfl) (by rfl) (by rfl) (fun K hK => ?_) (fun K hK => ?_)
            · go_simp
              refine hK _ _ (Below.refl _ _) ?_
              clear hK K
              refine wpL_doG _ (by kernel_rfl) (by rfl) (fun K hK => ?_)
              go_simp
              refine hK _ _ hal ?_
              clear hK K
              refine wpL_doG _ (by kernel_rfl) (by rfl) (fun K hK => ?_)
              refine wp_app (.tmp 155) (.tmp 162) 23 rfl elemU rfl (ho2.alloc _) rfl (Rd.cells W2 #[.int .u32 tval] _) rfl (by intro u hu; simp at hu; subst hu; rfl) (by unfold maxLen; omega) (by omega) hbb ?_
              intro A9 c9 w9 ho9 hg9 _
              have hgb := (own_grown (Below.refl _ _) (ho2.alloc (Obj.cells #[.int .u32 tval] 69)) hbb hg9).mono (Nat.le_succ (wL.heap.size + 1))
              have hD9 := (hD.alloc (Obj.cells #[.int .u32 tval] 69)).grown (ho2.alloc _) (by decide) hg9
              have ho1k := own_two (ho1.alloc (Obj.cells #[.int .u32 tval] 69)) (ho2.alloc _) (by decide) hg9
              obtain ⟨z0, z1, z2⟩ := hD9.cells
              have y1 := hD9.frozen 1
              have hD10 := hD9.set1 (.slice A9 (j + 1) c9)
              have hst : Below (wL.heap.size + 1) w9 (w9.setCell ⟨wL.heap.size + 1, 1, none⟩ (.slice A9 (j + 1) c9)) := (Below.refl (wL.heap.size + 1) w9).setCell (p := ⟨wL.heap.size + 1, 1, none⟩) (Nat.le_refl _) _
              refine hK _ _ hgb ?_
              clear hK K
              simp only [Act.put, List.setIfInBounds_toArray, List.set_cons_zero, List.set_cons_succ]
              refine wpL_takeG _ (v := ?_) (by kernel_rfl) (by kernel_rfl) (by kernel_rfl) (fun _ _ _ h => h) (by rfl) (fun u hu => ?_) ?_
              rotate_left
              focus
                go_simp
                try with_reducible rfl
              simp only [Act.put, List.setIfInBounds_toArray, List.set_cons_zero, List.set_cons_succ]
              refine wpL_doG _ (by kernel_rfl) (by rfl) (fun K hK => ?_)
              go_simp
              refine hK _ _ hst ?_
              clear hK K
              refine wpL_doneG _ (by kernel_rfl) ?_
              clear hwr
              go_wp2_with fail
              go_roundw
              case rel => exact ⟨j + 1, A5, c5, A9, c9, by go_num, by omega, hD10, by rw [HT1.out]; exact own_low ho1k (Nat.lt_succ_self _) _, by rw [HT2.out]; exact own_low ho9 (Nat.lt_succ_self _) _, ((hBw.trans hal).trans hgb).trans hst⟩
              case measure => simp [intOf]; omega
            · go_simp
              refine hK _ _ hal ?_
              clear hK K
              refine wpL_doG _ (by kernel_rfl) (by rfl) (fun K hK => ?_)
              go_simp
              refine hK _ _ (Below.refl _ _) ?_
              clear hK K
              refine wpL_doG _ (by kernel_rfl) (by rfl) (fun K hK => ?_)
              refine wp_app (.tmp 155) (.tmp 162) 23 rfl elemU rfl (ho2.alloc _) rfl (Rd.cells W2 #[.int .u32 tval] _) rfl (by intro u hu; simp at hu; subst hu; rfl) (by unfold maxLen; omega) (by omega) hbb ?_
              intro A9 c9 w9 ho9 hg9 _
              have hgb := (own_grown (Below.refl _ _) (ho2.alloc (Obj.cells #[.int .u32 tval] 69)) hbb hg9).mono (Nat.le_succ (wL.heap.size + 1))
              have hD9 := (hD.alloc (Obj.cells #[.int .u32 tval] 69)).grown (ho2.alloc _) (by decide) hg9
              have ho1k := own_two (ho1.alloc (Obj.cells #[.int .u32 tval] 69)) (ho2.alloc _) (by decide) hg9
              obtain ⟨z0, z1, z2⟩ := hD9.cells
              have y1 := hD9.frozen 1
              have hD10 := hD9.set1 (.slice A9 (j + 1) c9)
              have hst : Below (wL.heap.size + 1) w9 (w9.setCell ⟨wL.heap.size + 1, 1, none⟩ (.slice A9 (j + 1) c9)) := (Below.refl (wL.heap.size + 1) w9).setCell (p := ⟨wL.heap.size + 1, 1, none⟩) (Nat.le_refl _) _
              refine hK _ _ hgb ?_
              clear hK K
              simp only [Act.put, List.setIfInBounds_toArray, List.set_cons_zero, List.set_cons_succ]
              refine wpL_takeG _ (v := ?_) (by kernel_rfl) (by kernel_rfl) (by kernel_rfl) (fun _ _ _ h => h) (by rfl) (fun u hu => ?_) ?_
              rotate_left
              focus
                go_simp
                try with_reducible rfl
              simp only [Act.put, List.setIfInBounds_toArray, List.set_cons_zero, List.set_cons_succ]
              refine wpL_doG _ (by kernel_rfl) (by rfl) (fun K hK => ?_)
              go_simp
              refine hK _ _ hst ?_
              clear hK K
              refine wpL_doneG _ (by kernel_rfl) ?_
              clear hwr
              go_wp2_with fail
              go_roundw
              case rel => exact ⟨j + 1, A5, c5, A9, c9, by go_num, by omega, hD10, by rw [HT1.out]; exact own_low ho1k (Nat.lt_succ_self _) _, by rw [HT2.out]; exact own_low ho9 (Nat.lt_succ_self _) _, ((hBw.trans hal).trans hgb).trans hst⟩
              case measure => simp [intOf]; omega
          · go_simp
            refine hK _ _ hal ?_
            clear hK K
            refine wpL_doG _ (by kernel_rfl) (by rfl) (fun K hK => ?_)
            go_simp
            refine hK _ _ (Below.refl _ _) ?_
            clear hK K
            refine wpL_doG _ (by kernel_rfl) (by rfl) (fun K hK => ?_)
            refine wp_app (.tmp 145) (.tmp 151) 22 rfl elemS rfl (ho1.alloc _) rfl (Rd.cells W2 #[.string ntext] _) rfl (by intro u hu; simp at hu; subst hu; rfl) (by unfold maxLen; omega) (by omega) hbb ?_
            intro A5 c5 w5 ho5 hg5 _
            have hgb := (own_grown (Below.refl _ _) (ho1.alloc (Obj.cells #[.string ntext] 9)) hbb hg5).mono (Nat.le_succ (wL.heap.size + 1))
            have hD5 := (hD.alloc (Obj.cells #[.string ntext] 9)).grown (ho1.alloc _) (by decide) hg5
            have ho2k := own_two (ho2.alloc (Obj.cells #[.string ntext] 9)) (ho1.alloc _) (by decide) hg5
            obtain ⟨z0, z1, z2⟩ := hD5.cells
            have y0 := hD5.frozen 0
            have hD6 := hD5.set0 (.slice A5 (j + 1) c5)
            have hst : Below (wL.heap.size + 1) w5 (w5.setCell ⟨wL.heap.size + 1, 0, none⟩ (.slice A5 (j + 1) c5)) := (Below.refl (wL.heap.size + 1) w5).setCell (p := ⟨wL.heap.size + 1, 0, none⟩) (Nat.le_refl _) _
            refine hK _ _ hgb ?_
            clear hK K
            simp only [Act.put, List.setIfInBounds_toArray, List.set_cons_zero, List.set_cons_succ]
            refine wpL_takeG _ (v := ?_) (by kernel_rfl) (by kernel_rfl) (by kernel_rfl) (fun _ _ _ h => h) (by rfl) (fun u hu => ?_) ?_
            rotate_left
            focus
              go_simp
              try with_reducible rfl
            simp only [Act.put, List.setIfInBounds_toArray, List.set_cons_zero, List.set_cons_succ]
            refine wpL_doG _ (by kernel_rfl) (by rfl) (fun K hK => ?_)
            go_simp
            refine hK _ _ hst ?_
            clear hK K
            refine wpL_doneG _ (by kernel_rfl) ?_
            have hD7 := hD6
            have ho1n := own_low ho5 (Nat.lt_succ_self (wL.heap.size + 1)) (i := 0) (.slice A5 (j + 1) c5)
            have ho2n := own_low ho2k (Nat.lt_succ_self (wL.heap.size + 1)) (i := 0) (.slice A5 (j + 1) c5)
            have hBn := ((hBw.trans hal).trans hgb).trans hst
            clear hD5 hD6 ho5 ho2k hst hgb hg5 hal hbb hD ho1 ho2 z0 z1 z2 zz0 zz1 zz2 y0 hBw f1
            generalize w5.setCell ⟨wL.heap.size + 1, 0, none⟩ (.slice A5 (j + 1) c5) = W1 at *
            go_wp2_with fail
            have hD := (show BoxD W1.drew (wL.heap.size + 1) _ _ _ from hD7)
            have ho1 := (show World.ownsRow W1.drew _ _ _ _ _ _ from ho1n)
            have ho2 := (show World.ownsRow W1.drew _ _ _ _ _ _ from ho2n)
            have hBw := hBn.drew
            clear hD7 ho1n ho2n hBn
            have hwr := HWR.out
            have f1 := fun u (hu : Below (wL.heap.size + 1) W1.drew u) => (hBw.trans hu).cell (p := ⟨bT, oT + j * 4 + 2, none⟩) hbT
            simp only [q2] at f1
            have hal : Below (wL.heap.size + 1) W1.drew (W1.drew.alloc (Obj.cells #[.int .u32 tval] 69)) := (Below.refl _ _).alloc (by have := hBw.size; rw [hz] at this; exact this) _
            have hbb : (wL.heap.size + 1) + 1 ≤ (W1.drew.alloc (Obj.cells #[.int .u32 tval] 69)).heap.size := by have := hD.lt; simp at this ⊢; omega
            obtain ⟨z0, z1, z2⟩ := hD.cells
            obtain ⟨zz0, zz1, zz2⟩ := (hD.alloc (Obj.cells #[.int .u32 tval] 69)).cells
            refine wp_region_LG (belB (wL.heap.size + 1)) 12 [0, 2, 3, 4, 5, 6, 7, 1, 8, 9, 10, 11] rfl (by decide) (by decide) (by kernel_rfl) ?_
            generalize W1.drew = W2 at *
            simp only [List.filterMap_cons, List.filterMap_nil, List.getElem?_cons_zero, List.getElem?_cons_succ, Option.map_some]
            refine wpL_takeG _ (v := ?_) (by kernel_rfl) (by kernel_rfl) (by kernel_rfl) (fun _ _ _ h => h) (by rfl) (fun u hu => ?_) ?_
            rotate_left
            focus
              replace hu : Below (wL.heap.size + 1) W2 u := hu
              go_simp
              try with_reducible rfl
            simp only [Act.put, List.setIfInBounds_toArray, List.set_cons_zero, List.set_cons_succ]
            refine wpL_takeG _ (v := ?_) (by kernel_rfl) (by kernel_rfl) (by kernel_rfl) (fun _ _ _ h => h) (by rfl) (fun u hu => ?_) ?_
            rotate_left
            focus
              replace hu : Below (wL.heap.size + 1) W2 u := hu
              go_simp
              try with_reducible rfl
            simp only [Act.put, List.setIfInBounds_toArray, List.set_cons_zero, List.set_cons_succ]
            refine wpL_takeG _ (v := ?_) (by kernel_rfl) (by kernel_rfl) (by kernel_rfl) (fun _ _ _ h => h) (by rfl) (fun u hu => ?_) ?_
            rotate_left
            focus
              replace hu : Below (wL.heap.size + 1) W2 u := hu
              go_simp
              try with_reducible rfl
            simp only [Act.put, List.setIfInBounds_toArray, List.set_cons_zero, List.set_cons_succ]
            refine wpL_takeG _ (v := ?_) (by kernel_rfl) (by kernel_rfl) (by kernel_rfl) (fun _ _ _ h => h) (by rfl) (fun u hu => ?_) ?_
            rotate_left
            focus
              replace hu : Below (wL.heap.size + 1) W2 u := hu
              go_simp
              try with_reducible rfl
            simp only [Act.put, List.setIfInBounds_toArray, List.set_cons_zero, List.set_cons_succ]
            refine wpL_takeG _ (v := ?_) (by kernel_rfl) (by kernel_rfl) (by kernel_rfl) (fun _ _ _ h => h) (by rfl) (fun u hu => ?_) ?_
            rotate_left
            focus
              replace hu : Below (wL.heap.size + 1) W2 u := hu
              go_simp
              try with_reducible rfl
            simp only [Act.put, List.setIfInBounds_toArray, List.set_cons_zero, List.set_cons_succ]
            refine wpL_takeG _ (v := ?_) (by kernel_rfl) (by kernel_rfl) (by kernel_rfl) (fun _ _ _ h => h) (by rfl) (fun u hu => ?_) ?_
            rotate_left
            focus
              replace hu : Below (wL.heap.size + 1) W2 u := hu
              go_simp
              try with_reducible rfl
            simp only [Act.put, List.setIfInBounds_toArray, List.set_cons_zero, List.set_cons_succ]
            refine wpL_takeG _ (v := ?_) (by kernel_rfl) (by kernel_rfl) (by kernel_rfl) (fun _ _ _ h => h) (by rfl) (fun u hu => ?_) ?_
            rotate_left
            focus
              replace hu : Below (wL.heap.size + 1) W2 u := hu
              go_simp
              try with_reducible rfl
            simp only [Act.put, List.setIfInBounds_toArray, List.set_cons_zero, List.set_cons_succ]
            refine wpL_do2G _ (by kernel_rfl) (by rfl) (by rfl) (fun K hK => ?_) (fun K hK => ?_)
            · go_simp
              refine hK _ _ (Below.refl _ _) ?_
              clear hK K
              refine wpL_doG _ (by kernel_rfl) (by rfl) (fun K hK => ?_)
              go_simp
              refine hK _ _ hal ?_
              clear hK K
              refine wpL_doG _ (by kernel_rfl) (by rfl) (fun K hK => ?_)
              refine wp_app (.tmp 155) (.tmp 162) 23 rfl elemU rfl (ho2.alloc _) rfl (Rd.cells W2 #[.int .u32 tval] _) rfl (by intro u hu; simp at hu; subst hu; rfl) (by unfold maxLen; omega) (by omega) hbb ?_
              intro A9 c9 w9 ho9 hg9 _
              have hgb := (own_grown (Below.refl _ _) (ho2.alloc (Obj.cells #[.int .u32 tval] 69)) hbb hg9).mono (Nat.le_succ (wL.heap.size + 1))
              have hD9 := (hD.alloc (Obj.cells #[.int .u32 tval] 69)).grown (ho2.alloc _) (by decide) hg9
              have ho1k := own_two (ho1.alloc (Obj.cells #[.int .u32 tval] 69)) (ho2.alloc _) (by decide) hg9
              obtain ⟨z0, z1, z2⟩ := hD9.cells
              have y1 := hD9.frozen 1
              have hD10 := hD9.set1 (.slice A9 (j + 1) c9)
              have hst : Below (wL.heap.size + 1) w9 (w9.setCell ⟨wL.heap.size + 1, 1, none⟩ (.slice A9 (j + 1) c9)) := (Below.refl (wL.heap.size + 1) w9).setCell (p := ⟨wL.heap.size + 1, 1, none⟩) (Nat.le_refl _) _
              refine hK _ _ hgb ?_
              clear hK K
              simp only [Act.put, List.setIfInBounds_toArray, List.set_cons_zero, List.set_cons_succ]
              refine wpL_takeG _ (v := ?_) (by kernel_rfl) (by kernel_rfl) (by kernel_rfl) (fun _ _ _ h => h) (by rfl) (fun u hu => ?_) ?_
              rotate_left
              focus
                go_simp
                try with_reducible rfl
              simp only [Act.put, List.setIfInBounds_toArray, List.set_cons_zero, List.set_cons_succ]
              refine wpL_doG _ (by kernel_rfl) (by rfl) (fun K hK => ?_)
              go_simp
              refine hK _ _ hst ?_
              clear hK K
              refine wpL_doneG _ (by kernel_rfl) ?_
              clear hwr
              go_wp2_with fail
              go_roundw
              case rel => exact ⟨j + 1, A5, c5, A9, c9, by go_num, by omega, hD10, by rw [HT1.out]; exact own_low ho1k (Nat.lt_succ_self _) _, by rw [HT2.out]; exact own_low ho9 (Nat.lt_succ_self _) _, ((hBw.trans hal).trans hgb).trans hst⟩
              case measure => simp [intOf]; omega
            · go_simp
              refine hK _ _ hal ?_
              clear hK K
              refine wpL_doG _ (by kernel_rfl) (by rfl) (fun K hK => ?_)
              go_simp
              refine hK _ _ (Below.refl _ _) ?_
              clear hK K
              refine wpL_doG _ (by kernel_rfl) (by rfl) (fun K hK => ?_)
              refine wp_app (.tmp 155) (.tmp 162) 23 rfl elemU rfl (ho2.alloc _) rfl (Rd.cells W2 #[.int .u32 tval] _) rfl (by intro u hu; simp at hu; subst hu; rfl) (by unfold maxLen; omega) (by omega) hbb ?_
              intro A9 c9 w9 ho9 hg9 _
              have hgb := (own_grown (Below.refl _ _) (ho2.alloc (Obj.cells #[.int .u32 tval] 69)) hbb hg9).mono (Nat.le_succ (wL.heap.size + 1))
              have hD9 := (hD.alloc (Obj.cells #[.int .u32 tval] 69)).grown (ho2.alloc _) (by decide) hg9
              have ho1k := own_two (ho1.alloc (Obj.cells #[.int .u32 tval] 69)) (ho2.alloc _) (by decide) hg9
              obtain ⟨z0, z1, z2⟩ := hD9.cells
              have y1 := hD9.frozen 1
              have hD10 := hD9.set1 (.slice A9 (j + 1) c9)
              have hst : Below (wL.heap.size + 1) w9 (w9.setCell ⟨wL.heap.size + 1, 1, none⟩ (.slice A9 (j + 1) c9)) := (Below.refl (wL.heap.size + 1) w9).setCell (p := ⟨wL.heap.size + 1, 1, none⟩) (Nat.le_refl _) _
              refine hK _ _ hgb ?_
              clear hK K
              simp only [Act.put, List.setIfInBounds_toArray, List.set_cons_zero, List.set_cons_succ]
              refine wpL_takeG _ (v := ?_) (by kernel_rfl) (by kernel_rfl) (by kernel_rfl) (fun _ _ _ h => h) (by rfl) (fun u hu => ?_) ?_
              rotate_left
              focus
                go_simp
                try with_reducible rfl
              simp only [Act.put, List.setIfInBounds_toArray, List.set_cons_zero, List.set_cons_succ]
              refine wpL_doG _ (by kernel_rfl) (by rfl) (fun K hK => ?_)
              go_simp
              refine hK _ _ hst ?_
              clear hK K
              refine wpL_doneG _ (by kernel_rfl) ?_
              clear hwr
              go_wp2_with fail
              go_roundw
              case rel => exact ⟨j + 1, A5, c5, A9, c9, by go_num, by omega, hD10, by rw [HT1.out]; exact own_low ho1k (Nat.lt_succ_self _) _, by rw [HT2.out]; exact own_low ho9 (Nat.lt_succ_self _) _, ((hBw.trans hal).trans hgb).trans hst⟩
              case measure => simp [intOf]; omega
        · obtain rfl : j = lval := by omega
          rw [List.take_of_length_le (by rw [HN.out]; exact Nat.le_refl _)] at ho1
          rw [List.take_of_length_le (by rw [HT.out]; exact Nat.le_refl _)] at ho2
          obtain ⟨Wc, rfl⟩ : ∃ W, W = wr := ⟨_, rfl⟩
          clear hlt
          go_wp2_with fail
          go_loopw [15] (fun q2 wz => ∃ (i : Nat) (A7 : Option Addr) (c7 : Nat) (new : List RowH), q2 = .int .i64 i ∧ i ≤ nr ∧ BoxD wz (wL.heap.size + 1) (.slice A5 j c5) (.slice A6 j c6) (.slice A7 i c7) ∧
            wz.ownsRow ((wL.heap.size + 1) + 1) 9 1 (.slice A5 j c5) j (scl (N.map Fld.text)) ∧ wz.ownsRow ((wL.heap.size + 1) + 1) 69 1 (.slice A6 j c6) j (ucl (T.map Fld.val)) ∧
            wz.ownsRow ((wL.heap.size + 1) + 1) 45 1 (.slice A7 i c7) i (rcl new) ∧ (∀ x ∈ new, wz.ownsRow ((wL.heap.size + 1) + 1) 42 3 (.slice x.adr x.vals.length x.cap) x.vals.length (vvl x.vals)) ∧
            new.map RowH.vals = (R.take i).map (fun f => (drd f.text.data.toList j).1) ∧ ferr (R.map fun f => (drd f.text.data.toList j).2) = ferr ((R.drop i).map fun f => (drd f.text.data.toList j).2) ∧ Below (wL.heap.size + 1) Wb wz) (fun q2 _ => nr - (intOf q2).toNat)
          case atStart => exact ⟨0, none, 0, [], rfl, Nat.zero_le _, hD, ho1, ho2, World.ownsRow_nil _ _ _ _, by simp, by simp, rfl, hBw⟩
          case round =>
            clear hD ho1 ho2 hBw hs
            obtain ⟨i, A7, c7, new, rfl, hi, hD, ho1, ho2, ho3, hrows, hnew, he, hBw⟩ := hrel
            have hs : (wL.heap.size + 1) ≤ wr.heap.size := hz ▸ hBw.size
            have HNEW := Lib.hid hnew
            have HROWS0 := Lib.hid hrows
            have HFE0 := Lib.hid he
            clear hnew hrows he
            by_cases hlt : i < nr
            · obtain ⟨f, hf⟩ : ∃ f, R[i]? = some f := ⟨_, List.getElem?_eq_getElem (by rw [HR.out]; exact hlt)⟩
              obtain ⟨bR, oR, rfl, hbR, p0, _, _, q3⟩ := fld_at hrR hf
              have htz := HSZT.out f (List.mem_of_getElem? hf)
              obtain ⟨c20, W2, hcv, hr20, hB7, hc20, hc21⟩ := run_bytes wr f.text
              have hrd := rvalues_any f.text.data.toList (some ⟨wr.heap.size, 0, none⟩) f.text.size c20 (by simp) hc20 (by simp; omega) j (by omega) W2 hr20
              have HTK : Hid ((R.take (i + 1)).map (fun f => (drd f.text.data.toList j).1) = (R.take i).map (fun f => (drd f.text.data.toList j).1) ++ [(drd f.text.data.toList j).1]) := Lib.hid (by rw [List.take_add_one, hf]; simp)
              have HFE1 : Hid (ferr (R.map fun f => (drd f.text.data.toList j).2) = if (drd f.text.data.toList j).2 = 0 then ferr ((R.drop (i + 1)).map fun f => (drd f.text.data.toList j).2) else (drd f.text.data.toList j).2) := Lib.hid (by rw [HFE0.out, ferr_cons (f := fun f => (drd f.text.data.toList j).2) hf])
              obtain ⟨num, kind, val, text⟩ := f
              simp only at q3 hrd HTK HFE1 hcv
              unfold RPost at hrd
              obtain ⟨dq, hdq⟩ : ∃ d, drd text.data.toList j = d := ⟨_, rfl⟩
              rw [hdq] at hrd HTK HFE1
              obtain ⟨vals, ve⟩ := dq
              simp only at hrd HTK HFE1
              obtain ⟨L8, hL8⟩ : ∃ k, vals.length = k := ⟨_, rfl⟩
              rw [hL8] at hrd
              have HVL := Lib.hid hL8
              clear hf p0 hdq hL8 HFE0 htz hr20 hc20 hc21
              have q3 := (hBw.cell (p := ⟨bR, oR + i * 4 + 3, none⟩) hbR).trans q3
              have hD := hD.below hB7
              have ho1 := own_kept ho1 hB7 (Nat.le_refl _)
              have ho2 := own_kept ho2 hB7 (Nat.le_refl _)
              have ho3 := own_kept ho3 hB7 (Nat.le_refl _)
              have hrows : ∀ x ∈ new, W2.ownsRow ((wL.heap.size + 1) + 1) 42 3 (.slice x.adr x.vals.length x.cap) x.vals.length (vvl x.vals) := fun x hx => own_kept (HROWS0.out x hx) hB7 (Nat.le_refl _)
              have hBw := hBw.trans (hB7.mono hs)
              have hs : (wL.heap.size + 1) ≤ W2.heap.size := Nat.le_trans hs hB7.size
              have HROWS1 := Lib.hid hrows
              clear HROWS0 hrows hB7
              go_wp2_with fail
              refine hrd.mono ?_
              rintro e w3 ⟨A8, c8, rfl, ho8, hB8⟩
              clear hrd hcv
              have hbs : (wL.heap.size + 1) + 1 ≤ W2.heap.size := by have := hD.lt; omega
              have hD := hD.below hB8
              have ho1 := own_kept ho1 hB8 (Nat.le_refl _)
              have ho2 := own_kept ho2 hB8 (Nat.le_refl _)
              have ho3 := own_kept ho3 hB8 (Nat.le_refl _)
              have hrows : ∀ x ∈ new, w3.ownsRow ((wL.heap.size + 1) + 1) 42 3 (.slice x.adr x.vals.length x.cap) x.vals.length (vvl x.vals) := fun x hx => own_kept (HROWS1.out x hx) hB8 (Nat.le_refl _)
              have ho8 := own_base ho8 hbs
              have hBw := hBw.trans (hB8.mono hs)
              have hs : (wL.heap.size + 1) ≤ w3.heap.size := Nat.le_trans hs hB8.size
              have HROWS := Lib.hid hrows
              clear hB8 hrows HROWS1
              by_cases h0 : ve = 0
              rotate_left
              · have hbe : (ve != 0) = true := by simpa using h0
                have HQ4 : Hid (q = (DTab.none, ve)) := Lib.hid (by
                  have h1 := HFE1.out
                  rw [if_neg h0] at h1
                  rw [← HQ3.out, h1, if_neg h0])
                have hX4 : BoxD w3 w.heap.size (.slice none 0 0) (.slice none 0 0) (.slice none 0 0) := (hBw.block _ hwl).trans hX3
                obtain ⟨x0, x1, x2⟩ := hX4.cells
                have y0 := hX4.frozen 0
                have y1 := hX4.frozen 1
                have y2 := hX4.frozen 2
                have hWw := hW3.trans (hBw.mono (Nat.le_of_lt hwl))
                clear h0 HFE1 hX4 hD ho1 ho2 ho3 ho8
                go_wp2_with fail
                refine bodyPost_ret (v := .tuple #[.agg #[.slice none 0 0, .slice none 0 0, .slice none 0 0], .int .i64 ve]) ?_ rfl (dpost_err HQ4.out (below_set3v hWw (Nat.le_refl _) _ _ _))
                rw [results_cell_tmp rfl]; go_simp
              subst h0
              have HFE : Hid (ferr (R.map fun f => (drd f.text.data.toList j).2) = ferr ((R.drop (i + 1)).map fun f => (drd f.text.data.toList j).2)) := Lib.hid (by have := HFE1.out; rwa [if_pos rfl] at this)
              clear HFE1
              obtain ⟨z0, z1, z2⟩ := hD.cells
              have hbb : (wL.heap.size + 1) + 1 ≤ w3.heap.size := by have := hD.lt; omega
              go_wp2_with (at_builtin; refine wpList_app1 rfl _ _ _ rfl elemRR rfl ho3 rfl rfl (by intro u hu; simp at hu; subst hu; rfl) (by unfold maxLen; omega) (by omega) hbb ?_; intro A9 c9 w9 ho9 hg9 _; have hgb := (own_grown (Below.refl _ _) ho3 hbb hg9).mono (Nat.le_succ (wL.heap.size + 1)); have hD9 := hD.grown ho3 (by decide) hg9; have ho1k := own_two ho1 ho3 (by decide) hg9; have ho2k := own_two ho2 ho3 (by decide) hg9; have ho8k := own_two ho8 ho3 (by decide) hg9; have hrk := Lib.hid (fun (x : RowH) (hx : x ∈ new) => own_two (HROWS.out x hx) ho3 (by decide) hg9); clear z0 z1 z2; obtain ⟨z0, z1, z2⟩ := hD9.cells; have y2 := hD9.frozen 2; clear hg9)
              have hD10 := hD9.set2 (.slice A9 (i + 1) c9)
              have hst : Below (wL.heap.size + 1) w9 (w9.setCell ⟨wL.heap.size + 1, 2, none⟩ (.slice A9 (i + 1) c9)) := (Below.refl (wL.heap.size + 1) w9).setCell (p := ⟨wL.heap.size + 1, 2, none⟩) (Nat.le_refl _) _
              go_roundw
              case rel =>
                refine ⟨i + 1, A9, c9, new ++ [⟨A8, c8, vals⟩], by go_num, by omega, hD10, own_low ho1k (Nat.lt_succ_self _) _, own_low ho2k (Nat.lt_succ_self _) _, ?_, ?_, by rw [List.map_append, HNEW.out, HTK.out]; rfl, HFE.out, (hBw.trans hgb).trans hst⟩
                · rw [show rcl (new ++ [⟨A8, c8, vals⟩]) = rcl new ++ [.slice A8 vals.length c8] by simp [rcl], HVL.out]; exact own_low ho9 (Nat.lt_succ_self _) _
                · intro x hx
                  rcases List.mem_append.1 hx with hx | hx
                  · exact own_low (hrk.out x hx) (Nat.lt_succ_self _) _
                  · obtain rfl : x = _ := by simpa using hx
                    have := own_low ho8k (Nat.lt_succ_self (wL.heap.size + 1)) (i := 2) (.slice A9 (i + 1) c9)
                    rw [HVL.out]
                    exact this
              case measure => simp [intOf]; omega
            · obtain rfl : i = nr := by omega
              have hz0 : ferr (R.map fun f => (drd f.text.data.toList j).2) = 0 := by rw [HFE0.out, List.drop_eq_nil_of_le (by rw [HR.out]; exact Nat.le_refl _)]; rfl
              have hnew := HNEW.out
              rw [List.take_of_length_le (by rw [HR.out]; exact Nat.le_refl _)] at hnew
              have hq : q = (⟨N.map Fld.text, T.map Fld.val, new.map RowH.vals⟩, 0) := by rw [← HQ3.out, if_pos hz0, hnew]
              have hnl : new.length = i := by
                have := congrArg List.length hnew
                simpa [HR.out] using this
              have hX4 : BoxD wr w.heap.size (.slice none 0 0) (.slice none 0 0) (.slice none 0 0) := (hBw.block _ hwl).trans hX3
              obtain ⟨x0, x1, x2⟩ := hX4.cells
              have y0 := hX4.frozen 0
              have y1 := hX4.frozen 1
              have y2 := hX4.frozen 2
              obtain ⟨z0, z1, z2⟩ := hD.cells
              have hWw := hW3.trans (hBw.mono (Nat.le_of_lt hwl))
              have HQ4 := Lib.hid hq
              have HNL := Lib.hid hnl
              have hwl2 : w.heap.size < wL.heap.size + 1 + 1 := by omega
              have HVS : Hid (∀ x ∈ new, ∀ v ∈ x.vals, VVOk v) := Lib.hid (by
                intro x hx v hv
                have hm : x.vals ∈ new.map RowH.vals := List.mem_map.2 ⟨x, hx, rfl⟩
                rw [hnew] at hm
                obtain ⟨f, _, hf⟩ := List.mem_map.1 hm
                have hv2 : v ∈ (drd f.text.data.toList j).1 := by
                  have e : (drd f.text.data.toList j).1 = x.vals := hf
                  rw [e]; exact hv
                exact (drd_rd _ _ v hv2).ok)
              have HO := Lib.hid (And.intro ho1 (And.intro ho2 ho3))
              clear hq hnl hnew hz0 hlt HFE0 hX4 hD ho1 ho2 ho3 HNEW
              go_wp2_with fail
              refine bodyPost_ret (v := .tuple #[.agg #[.slice A5 j c5, .slice A6 j c6, .slice A7 i c7], .int .i64 0]) ?_ rfl ?_
              · rw [results_cell_tmp rfl]; go_simp
              · obtain ⟨p1, p2, p3⟩ := HO.out
                have hk : ∀ {e : TypeId} {size n : Nat} {v : Value} {xs : List Value}, wr.ownsRow (wL.heap.size + 1 + 1) e size v n xs → ((((wr.setCell ⟨w.heap.size, 0, none⟩ (.slice A5 j c5)).setCell ⟨w.heap.size, 1, none⟩ (.slice A6 j c6)).setCell ⟨w.heap.size, 2, none⟩ (.slice A7 i c7))).ownsRow (wL.heap.size + 1 + 1) e size v n xs := fun h => own_low (own_low (own_low h hwl2 _) hwl2 _) hwl2 _
                have e1 : (N.map Fld.text).length = j := by rw [List.length_map]; exact HN.out
                have e2 : (T.map Fld.val).length = j := by rw [List.length_map]; exact HT.out
                refine ⟨⟨A5, c5, N.map Fld.text, A6, c6, T.map Fld.val, A7, c7, new⟩, ?_, ⟨Rd.of_own (hk p1), Rd.of_own (hk p2), Rd.of_own (hk p3), fun x hx => Rd.of_own (hk (HROWS0.out x hx))⟩, ⟨by simp only [e1]; omega, by simp only [e2]; omega, by simp only [HNL.out]; omega, fun x hx => ?_, fun n hn => ?_, HVS.out⟩, by rw [HQ4.out], by rw [HQ4.out], by rw [HQ4.out]; rfl, below_set3v hWw (Nat.le_refl _) _ _ _⟩
                · rw [HQ4.out]; unfold DS.agg; simp only [e1, e2, HNL.out]
                · have := own_cap (HROWS0.out x hx); omega
                · obtain ⟨f, hf, rfl⟩ := List.mem_map.1 hn
                  exact HTY.out f hf
end Go.Proofs.YtlgokfgbcohioaaDoor
