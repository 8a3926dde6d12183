/- WALK: dataset.sort -/
import Derived.Test.YtlgokfgbcohioaaDoorDsObM
namespace Go.Proofs.YtlgokfgbcohioaaDoor
open Go.RowKit Plain

def BoxS (W : World) (B : Nat) (x y z : Value) : Prop := W.heap[B]? = some (.cells #[x, y, z] 102 (0, 0))
theorem BoxS.lt {W : World} {B : Nat} {x y z : Value} (h : BoxS W B x y z) : B < W.heap.size := (Array.getElem?_eq_some_iff.1 h).1
theorem BoxS.below {W W' : World} {B : Nat} {x y z : Value} (h : BoxS W B x y z) (hb : Below W.heap.size W W') : BoxS W' B x y z := (hb.block B h.lt).trans h
theorem BoxS.cells {W : World} {B : Nat} {x y z : Value} (h : BoxS W B x y z) : (W.cell? ⟨B, 0, none⟩ = some x ∧ W.cell? ⟨B, 1, none⟩ = some y ∧ W.cell? ⟨B, 2, none⟩ = some z) ∧ W.frozen? ⟨B, 0, none⟩ = false ∧ W.frozen? ⟨B, 1, none⟩ = false ∧ W.frozen? ⟨B, 2, none⟩ = false := by
  refine ⟨⟨?_, ?_, ?_⟩, ?_, ?_, ?_⟩ <;> first | (simp only [World.cell?, show W.heap[B]? = _ from h]; rfl) | (simp [World.frozen?, show W.heap[B]? = _ from h])
/-- what sort answers -/
def SPost (l : List Fld) (w : World) (e : Ending) (w' : World) : Prop :=
  ∃ (N T R : List Fld) (A1 : Option Addr) (c1 : Nat) (A2 : Option Addr) (c2 : Nat) (A3 : Option Addr) (c3 : Nat),
    e = .returned (.tuple #[.agg #[.slice A1 N.length c1, .slice A2 T.length c2, .slice A3 R.length c3], .int .i64 (dsorted l)]) ∧
    (Rd w' w'.heap.size A1 (flc N) ∧ Rd w' w'.heap.size A2 (flc T) ∧ Rd w' w'.heap.size A3 (flc R)) ∧ (dsorted l = 0 → N = wall 2 l ∧ T = wall 3 l ∧ R = wall 4 l) ∧ Below w.heap.size w w'
theorem spost_err {l : List Fld} {w w' : World} {e : Int} (h : dsorted l = e) (he : ¬ e = 0) (hB : Below w.heap.size w w') : SPost l w (.returned (.tuple #[.agg #[.slice none 0 0, .slice none 0 0, .slice none 0 0], .int .i64 e])) w' :=
  ⟨[], [], [], none, 0, none, 0, none, 0, by rw [h]; rfl, ⟨Rd.nil, Rd.nil, Rd.nil⟩, fun h0 => absurd (h.symm.trans h0) he, hB⟩
theorem bel_sa {B R a b c : Nat} {w W : World} {v0 v1 v2 : Value} {o : Obj} (h : Below B w W) (hB : B ≤ R) (hs : B ≤ W.heap.size := by exact Below.size ‹_›) : Below B w ((((W.setCell ⟨R, a, none⟩ v0).setCell ⟨R, b, none⟩ v1).setCell ⟨R, c, none⟩ v2).alloc o) :=
  (below_set3v h hB v0 v1 v2).alloc (by simp; exact hs) o
theorem own_low {W : World} {B i base : Nat} {e : TypeId} {size n : Nat} {v : Value} {xs : List Value} (h : W.ownsRow base e size v n xs) (hB : B < base) (x : Value) : (W.setCell ⟨B, i, none⟩ x).ownsRow base e size v n xs := by
  refine ⟨h.1, ?_⟩
  rcases h.2 with h2 | ⟨g, cap, cur, hv, hg, hh, r⟩
  · exact .inl h2
  · refine .inr ⟨g, cap, cur, hv, hg, ?_, r⟩
    rw [heap_setCell_other W ⟨B, i, none⟩ g x (by simp; omega)]
    exact hh
theorem own_rd2 {base : Nat} {W W' : World} {size n c : Nat} {A : Option Addr} {e : TypeId} {xs : List Value} (h : W.ownsRow base e size (.slice A n c) n xs) (hb : Below W.heap.size W W') : Rd W' W'.heap.size A xs := ((Rd.of_own h).below hb (Nat.le_refl _)).more hb.size
set_option maxRecDepth 100000 in
set_option maxHeartbeats 4000000 in
theorem dsort_any (l : List Fld) (A : Option Addr) (c : Nat) (hl : l.length ≤ 256) (w : World) (hr : Rd w w.heap.size A (flc l)) (hval : ∀ f ∈ l, f.val < 18446744073709551616) :
    Calls Tryd.prog 61 #[.slice A l.length c] w (SPost l w) := by
  have hw : ∀ f : Fld, ∀ W, Calls Tryd.prog 86 #[f.agg] W fun e w' => e = .returned (.int .i64 (dwrong f)) ∧ Below W.heap.size W w' := fun f W => dwrong_any f W
  have h2 := fun W (hB : Below w.heap.size w W) => all_any 2 l A c (by omega) W ((hr.below hB (Nat.le_refl _)).more hB.size)
  have h3 := fun W (hB : Below w.heap.size w W) => all_any 3 l A c (by omega) W ((hr.below hB (Nat.le_refl _)).more hB.size)
  have h4 := fun W (hB : Below w.heap.size w W) => all_any 4 l A c (by omega) W ((hr.below hB (Nat.le_refl _)).more hB.size)
  have hla := fun W (hB : Below w.heap.size w W) => last_any 1 l A c (by omega) W ((hr.below hB (Nat.le_refl _)).more hB.size)
  have hn2 := wall_len 2 l
  have hn3 := wall_len 3 l
  have hn4 := wall_len 4 l
  obtain ⟨n, hn⟩ : ∃ n, l.length = n := ⟨_, rfl⟩
  rw [hn] at hl h2 h3 h4 hla hn2 hn3 hn4 ⊢
  have HN := Lib.hid hn
  have HR := Lib.hid hr
  have HW := Lib.hid hw
  have HA := Lib.hid (And.intro h2 (And.intro h3 (And.intro h4 hla)))
  have HLE := Lib.hid (And.intro hn2 (And.intro hn3 hn4))
  clear hn hr hw h2 h3 h4 hla hn2 hn3 hn4
  have hX0 : BoxS (w.alloc (.cells #[.slice none 0 0, .slice none 0 0, .slice none 0 0] 102)) w.heap.size (.slice none 0 0) (.slice none 0 0) (.slice none 0 0) := World.alloc_heap_new w _
  have hE0 : Below w.heap.size w (w.alloc (.cells #[.slice none 0 0, .slice none 0 0, .slice none 0 0] 102)) := (Below.refl _ w).alloc (Nat.le_refl _) _
  go_enter Tryd.func61, Tryd.ntmps61
  go_wp2_with fail
  go_loopw [12] (fun i wr => ∃ (j : Nat), i = .int .i64 j ∧ j ≤ n ∧ ferr (l.map dwrong) = ferr ((l.drop j).map dwrong) ∧ BoxS wr w.heap.size (.slice none 0 0) (.slice none 0 0) (.slice none 0 0) ∧ Below w.heap.size w wr) (fun i _ => n - (intOf i).toNat)
  case atStart => exact ⟨0, rfl, Nat.zero_le _, rfl, hX0, hE0⟩
  case round =>
    clear hX0 hE0
    obtain ⟨j, rfl, hj, he, hX, hB⟩ := hrel
    have hs := hB.size
    have HE := Lib.hid he
    clear he
    by_cases hlt : j < n
    · obtain ⟨f, hf⟩ : ∃ f, l[j]? = some f := ⟨_, List.getElem?_eq_getElem (by rw [HN.out]; exact hlt)⟩
      obtain ⟨b1, o1, rfl, hb1, g0, g1, g2, g3⟩ := fld_at (HR.out.below hB (Nat.le_refl _)) hf
      have HEC : Hid (ferr (l.map dwrong) = if dwrong f = 0 then ferr ((l.drop (j + 1)).map dwrong) else dwrong f) := Lib.hid (by rw [HE.out, ferr_cons (f := dwrong) hf])
      have hc := HW.out f
      obtain ⟨er, her⟩ : ∃ e, dwrong f = e := ⟨_, rfl⟩
      rw [her] at HEC hc
      obtain ⟨num, kind, val, text⟩ := f
      unfold Fld.agg at hc
      simp only at g0 g1 g2 g3 hc
      have hXa := hX.below ((Below.refl wr.heap.size wr).alloc (Nat.le_refl _) (Obj.cells #[.int .i64 num, .int .i64 kind, .int .u64 val, .string text] 73))
      have hBa := hB.alloc hs (Obj.cells #[.int .i64 num, .int .i64 kind, .int .u64 val, .string text] 73)
      clear hf her HE hX
      go_wp2_with fail
      refine (hc _).mono ?_
      rintro e w1 ⟨rfl, hB1⟩
      have hX1 := hXa.below hB1
      have hB2 := bel_step hBa hB1
      clear hc hXa hBa hB1 g0 g1 g2 g3
      by_cases h0 : er = 0
      · subst h0
        have HEC2 : Hid (ferr (l.map dwrong) = ferr ((l.drop (j + 1)).map dwrong)) := Lib.hid (by have := HEC.out; rwa [if_pos rfl] at this)
        clear HEC
        go_wp2_with fail
        go_roundw
        case rel => exact ⟨j + 1, by go_num, by omega, HEC2.out, hX1, hB2⟩
        case measure => simp [intOf]; omega
      · have hbe : (er != 0) = true := by simpa using h0
        have hds : dsorted l = er := by
          have h1 := HEC.out
          rw [if_neg h0] at h1
          unfold dsorted
          rw [if_neg (by rw [h1]; exact h0), h1]
        have HDS := Lib.hid (And.intro hds h0)
        obtain ⟨⟨x0, x1, x2⟩, y0, y1, y2⟩ := hX1.cells
        clear h0 HEC hds hX1
        go_wp2_with fail
        refine bodyPost_ret (v := .tuple #[.agg #[.slice none 0 0, .slice none 0 0, .slice none 0 0], .int .i64 er]) ?_ rfl (spost_err HDS.out.1 HDS.out.2 (below_set3v hB2 (Nat.le_refl _) _ _ _))
        rw [results_cell_tmp rfl]; go_simp
    · obtain rfl : j = n := by omega
      have hz : ferr (l.map dwrong) = 0 := by rw [HE.out, List.drop_eq_nil_of_le (by rw [HN.out]; exact Nat.le_refl _)]; rfl
      have HDS : Hid (dsorted l = if 16 < (wall 2 l).length ∨ 16 < (wall 3 l).length ∨ 32 < (wall 4 l).length then 6 else if (wall 2 l).length = (wall 3 l).length ∧ (wlast 1 l).1.val = (wall 2 l).length then 0 else 4) := Lib.hid (by unfold dsorted; rw [if_pos hz])
      obtain ⟨h2, h3, h4, hla⟩ := HA.out
      obtain ⟨k2, k3, k4⟩ := HLE.out
      have HW2 : Hid (wall 2 l = wall 2 l ∧ wall 3 l = wall 3 l ∧ wall 4 l = wall 4 l) := Lib.hid ⟨rfl, rfl, rfl⟩
      have hvl : (wlast 1 l).1.val < 18446744073709551616 := by
        unfold wlast
        cases hg : (wall 1 l).getLast? with
        | none => simp
        | some f => exact hval f (wall_mem (List.mem_of_getLast? hg)).1
      obtain ⟨L1, hL1⟩ : ∃ L, wlast 1 l = L := ⟨_, rfl⟩
      obtain ⟨N, hN⟩ : ∃ N, wall 2 l = N := ⟨_, rfl⟩
      obtain ⟨T, hT⟩ : ∃ N, wall 3 l = N := ⟨_, rfl⟩
      obtain ⟨R, hR⟩ : ∃ N, wall 4 l = N := ⟨_, rfl⟩
      rw [hL1] at hla HDS hvl
      rw [hN] at h2 k2 HDS
      rw [hT] at h3 k3 HDS
      rw [hR] at h4 k4 HDS
      have HEQ := Lib.hid (And.intro hN.symm (And.intro hT.symm hR.symm))
      obtain ⟨⟨lnum, lkind, lval, ltext⟩, lok⟩ := L1
      unfold Fld.agg at hla
      simp only at hla HDS hvl
      have HKEEP : Hid (∃ a b c : Nat, a = N.length ∧ b = T.length ∧ c = R.length) := Lib.hid ⟨_, _, _, rfl, rfl, rfl⟩
      obtain ⟨nn, hnn⟩ : ∃ k, N.length = k := ⟨_, rfl⟩
      obtain ⟨nt, hnt⟩ : ∃ k, T.length = k := ⟨_, rfl⟩
      obtain ⟨nr, hnr⟩ : ∃ k, R.length = k := ⟨_, rfl⟩
      rw [hnn] at h2 k2 HDS
      rw [hnt] at h3 k3 HDS
      rw [hnr] at h4 k4 HDS
      have HLN := Lib.hid (And.intro hnn (And.intro hnt hnr))
      clear hL1 hN hT hR hz HE HKEEP hnn hnt hnr HW2 hlt
      go_wp2_with fail
      refine (h2 _ hB).mono ?_
      rintro e w1 ⟨A1, c1, rfl, ho1, hB1⟩
      have hX1 := hX.below hB1
      have hW1 := bel_step hB hB1
      have hB1s := hB1.size
      have hxr := hX.lt
      clear h2 hX hB1
      go_wp2_with fail
      refine (h3 _ hW1).mono ?_
      rintro e w2 ⟨A2, c2, rfl, ho2, hB2⟩
      have hX2 := hX1.below hB2
      have hW2 := bel_step hW1 hB2
      have hp1 := own_kept ho1 hB2 (Nat.le_refl _)
      have hbase2 := hB1s
      clear h3 hX1 ho1
      go_wp2_with fail
      refine (h4 _ hW2).mono ?_
      rintro e w3 ⟨A3, c3, rfl, ho3, hB3⟩
      have hX3 := hX2.below hB3
      have hW3 := bel_step hW2 hB3
      have hq1 := own_kept hp1 hB3 (Nat.le_refl _)
      have hq2 := own_base (own_kept ho2 hB3 (Nat.le_refl _)) hB1s
      have hq3 := own_base ho3 (Nat.le_trans hB1s hB2.size)
      clear h4 hX2 ho2 ho3 hp1 hbase2 hB2 hB3
      have hBs := (Below.refl w3.heap.size w3).alloc (Nat.le_refl _) (Obj.cells #[.slice A1 nn c1, .slice A2 nt c2, .slice A3 nr c3] 102)
      have hS4 : BoxS (w3.alloc (Obj.cells #[.slice A1 nn c1, .slice A2 nt c2, .slice A3 nr c3] 102)) w3.heap.size (.slice A1 nn c1) (.slice A2 nt c2) (.slice A3 nr c3) := World.alloc_heap_new w3 _
      have hX4 := hX3.below hBs
      have hW4 := bel_step hW3 hBs
      have hxl := hX3.lt
      have HRD := Lib.hid (And.intro (hq1.alloc (Obj.cells #[.slice A1 nn c1, .slice A2 nt c2, .slice A3 nr c3] 102)) (And.intro (hq2.alloc (Obj.cells #[.slice A1 nn c1, .slice A2 nt c2, .slice A3 nr c3] 102)) (hq3.alloc (Obj.cells #[.slice A1 nn c1, .slice A2 nt c2, .slice A3 nr c3] 102))))
      clear hX3 hq1 hq2 hq3 hBs
      go_wp2_with fail
      refine (hla _ hW4).mono ?_
      rintro e w5 ⟨rfl, hB5⟩
      have hX5 := hX4.below hB5
      have hS5 := hS4.below hB5
      have hW5 := bel_step hW4 hB5
      obtain ⟨⟨x0, x1, x2⟩, y0, y1, y2⟩ := hX5.cells
      obtain ⟨⟨s0, s1, s2⟩, _, _, _⟩ := hS5.cells
      have hxl5 := hX5.lt
      have hsl5 := hS5.lt
      have hW6 := hW5.alloc hW5.size (Obj.cells #[.int .i64 lnum, .int .i64 lkind, .int .u64 lval, .string ltext] 73)
      have HRD6 : Hid (Below w5.heap.size w5 w5) := Lib.hid (Below.refl _ _)
      have HB5 := Lib.hid hB5
      clear hla hX4 hS4 hW4 hB5 hX5 hS5 HRD6
      by_cases b1 : 16 < nn ∨ 16 < nt
      · by_cases hNT : nn < nt
        · have hd : decide ((16 : Int) < (nt : Int)) = true := decide_eq_true (by omega)
          have hds : dsorted l = 6 := by rw [HDS.out]; rw [if_pos (by omega)]
          have HQ := Lib.hid hds
          clear hds
          go_wp2_with fail
          refine bodyPost_ret (v := .tuple #[.agg #[.slice none 0 0, .slice none 0 0, .slice none 0 0], .int .i64 6]) ?_ rfl (spost_err HQ.out (by decide) (bel_sa hW5 (Nat.le_refl _)))
          rw [results_cell_tmp rfl]; go_simp
        · have hd : decide ((16 : Int) < (nn : Int)) = true := decide_eq_true (by omega)
          have hds : dsorted l = 6 := by rw [HDS.out]; rw [if_pos (by omega)]
          have HQ := Lib.hid hds
          clear hds
          go_wp2_with fail
          refine bodyPost_ret (v := .tuple #[.agg #[.slice none 0 0, .slice none 0 0, .slice none 0 0], .int .i64 6]) ?_ rfl (spost_err HQ.out (by decide) (bel_sa hW5 (Nat.le_refl _)))
          rw [results_cell_tmp rfl]; go_simp
      have hd : decide ((16 : Int) < (nn : Int)) = false := decide_eq_false (by omega)
      have hdt : decide ((16 : Int) < (nt : Int)) = false := decide_eq_false (by omega)
      by_cases b2 : 32 < nr
      · have hd2 : decide ((32 : Int) < (nr : Int)) = true := decide_eq_true (by omega)
        by_cases hNT : nn < nt
        all_goals
          have hds : dsorted l = 6 := by rw [HDS.out]; rw [if_pos (by omega)]
          have HQ := Lib.hid hds
          clear hds
          go_wp2_with fail
          refine bodyPost_ret (v := .tuple #[.agg #[.slice none 0 0, .slice none 0 0, .slice none 0 0], .int .i64 6]) ?_ rfl (spost_err HQ.out (by decide) (bel_sa hW5 (Nat.le_refl _)))
          rw [results_cell_tmp rfl]; go_simp
      have hd2 : decide ((32 : Int) < (nr : Int)) = false := decide_eq_false (by omega)
      by_cases b3 : nn = nt
      rotate_left
      · have hb3 : ((nn : Int) != (nt : Int)) = true := by simp; omega
        by_cases hNT : nn < nt
        all_goals
          have hds : dsorted l = 4 := by rw [HDS.out]; rw [if_neg (by omega), if_neg (fun h => b3 h.1)]
          have HQ := Lib.hid hds
          clear hds
          go_wp2_with fail
          refine bodyPost_ret (v := .tuple #[.agg #[.slice none 0 0, .slice none 0 0, .slice none 0 0], .int .i64 4]) ?_ rfl (spost_err HQ.out (by decide) (bel_sa hW5 (Nat.le_refl _)))
          rw [results_cell_tmp rfl]; go_simp
      subst b3
      clear hdt
      by_cases b4 : lval = nn
      rotate_left
      · have hb4 : ((lval : Int) != (nn : Int)) = true := by simp; omega
        have hds : dsorted l = 4 := by rw [HDS.out]; rw [if_neg (by omega), if_neg (fun h => b4 h.2)]
        have HQ := Lib.hid hds
        clear hds
        go_wp2_with fail
        refine bodyPost_ret (v := .tuple #[.agg #[.slice none 0 0, .slice none 0 0, .slice none 0 0], .int .i64 4]) ?_ rfl (spost_err HQ.out (by decide) (bel_sa hW5 (Nat.le_refl _)))
        rw [results_cell_tmp rfl]; go_simp
      subst b4
      have hds : dsorted l = 0 := by rw [HDS.out, if_neg (by omega), if_pos ⟨rfl, rfl⟩]
      have HQ := Lib.hid hds
      clear hds b1 b2
      go_wp2_with fail
      refine bodyPost_ret (v := .tuple #[.agg #[.slice A1 lval c1, .slice A2 lval c2, .slice A3 nr c3], .int .i64 0]) ?_ rfl ?_
      · rw [results_cell_tmp rfl]; go_simp
      · obtain ⟨e1, e2, e3⟩ := HLN.out
        obtain ⟨r1, r2, r3⟩ := HRD.out
        have hb := HB5.out
        have hk : ∀ (A : Option Addr) (m c : Nat) (xs : List Value), (w3.alloc (Obj.cells #[.slice A1 lval c1, .slice A2 lval c2, .slice A3 nr c3] 102)).ownsRow wr.heap.size 73 4 (.slice A m c) m xs → Rd ((((w5.setCell ⟨w.heap.size, 0, none⟩ (.slice A1 lval c1)).setCell ⟨w.heap.size, 1, none⟩ (.slice A2 lval c2)).setCell ⟨w.heap.size, 2, none⟩ (.slice A3 nr c3)).alloc (Obj.cells #[.int .i64 lnum, .int .i64 lkind, .int .u64 lval, .string ltext] 73)) ((((w5.setCell ⟨w.heap.size, 0, none⟩ (.slice A1 lval c1)).setCell ⟨w.heap.size, 1, none⟩ (.slice A2 lval c2)).setCell ⟨w.heap.size, 2, none⟩ (.slice A3 nr c3)).alloc (Obj.cells #[.int .i64 lnum, .int .i64 lkind, .int .u64 lval, .string ltext] 73)).heap.size A xs := fun A m c xs h =>
          Rd.of_own ((own_low (own_low (own_low (own_kept h hb (Nat.le_refl _)) hxr _) hxr _) hxr _).alloc _)
        exact ⟨N, T, R, A1, c1, A2, c2, A3, c3, by rw [HQ.out, e1, e2, e3], ⟨hk _ _ _ _ r1, hk _ _ _ _ r2, hk _ _ _ _ r3⟩, fun _ => HEQ.out, bel_sa hW5 (Nat.le_refl _)⟩
end Go.Proofs.YtlgokfgbcohioaaDoor
