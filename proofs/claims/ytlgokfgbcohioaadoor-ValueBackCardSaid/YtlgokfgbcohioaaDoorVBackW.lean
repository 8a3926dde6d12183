/- LAW WALK: ValueBack -/
import Derived.Test.YtlgokfgbcohioaaDoorVBackP
import Derived.Test.YtlgokfgbcohioaaDoorVOfW
import Derived.Test.YtlgokfgbcohioaaDoorAwake5
import Derived.Test.YtlgokfgbcohioaaDoorWRo
import Derived.Test.YtlgokfgbcohioaaDoorAppG
import Derived.Test.YtlgokfgbcohioaaDoorValS
namespace Go.Proofs.YtlgokfgbcohioaaDoor
open Go.RowKit Plain

theorem Box3.below {W W' : World} {B : Nat} {v : VV} (h : Box3 W B v) (hb : Below W.heap.size W W') : Box3 W' B v := (hb.block B (Array.getElem?_eq_some_iff.1 h).1).trans h
theorem Box3.cells {W : World} {B : Nat} {k : Int} {n : Nat} {s : ByteArray} (h : Box3 W B ⟨k, n, s⟩) : W.cell? ⟨B, 0, none⟩ = some (.int .i64 k) ∧ W.cell? ⟨B, 1, none⟩ = some (.int .u64 n) ∧ W.cell? ⟨B, 2, none⟩ = some (.string s) := ⟨h.cell 0, h.cell 1, h.cell 2⟩
set_option maxRecDepth 100000 in
set_option maxHeartbeats 2000000 in
theorem vback_any (a b : VV) (base : Nat) (hna : a.n < 18446744073709551616) (hnb : b.n < 18446744073709551616) (hbase : base < 256) (w : World) (hK : Kinds w) :
    Calls Tryd.prog 8 #[.agg a.cells, .agg b.cells, .int .u8 base] w fun e w' => e = .returned (.bool true) ∧ Below w.heap.size w w' := by
  obtain ⟨n, hn⟩ : ∃ n : Nat, 1 + base = n := ⟨_, rfl⟩
  have hn' : (1 : Int) + (base : Int) = (n : Int) := by omega
  have hnr : (1 : Int) ≤ (n : Int) ∧ (n : Int) ≤ 256 := by omega
  obtain ⟨ak, an, sa⟩ := a
  obtain ⟨bk, bn, sb⟩ := b
  simp only at hna hnb
  have hpa := fun W hK => vput_any ak an sa (n : Int) true (by omega) (by omega) W hK
  have hpb := fun W hK => vput_any bk bn sb (n : Int) true (by omega) (by omega) W hK
  unfold PutPost at hpa hpb
  have htwo := fun ha hb l => vtwo_put (a := ⟨ak, an, sa⟩) (b := ⟨bk, bn, sb⟩) (base := (n : Int)) hna hnb ha hb l
  have hvof := fun ha hb => vof_two (a := ⟨ak, an, sa⟩) (b := ⟨bk, bn, sb⟩) (base := (n : Int)) hna hnb ha hb
  have herr := fun (k : Int) (m : Int) (e : Bool) => show verr k m e (n : Int) true = vright k m e by
    unfold verr
    rw [if_pos (by omega)]
    split
    · rename_i h; simp [h]
    · rfl
  simp only at htwo hvof
  simp only [herr] at hpa hpb htwo hvof
  generalize hla : vfls ak an sa (n : Int) true = la at *
  generalize hlb : vfls bk bn sb (n : Int) true = lb at *
  have hra := fun W => right_any ak an sa W
  have hrb := fun W => right_any bk bn sb W
  generalize hea : vright ak an sa.toList.isEmpty = ea at *
  generalize heb : vright bk bn sb.toList.isEmpty = eb at *
  obtain ⟨na, hnla⟩ : ∃ k, la.length = k := ⟨_, rfl⟩
  obtain ⟨nb, hnlb⟩ : ∃ k, lb.length = k := ⟨_, rfl⟩
  simp only [hnla] at hpa
  simp only [hnlb] at hpb
  have HT := Lib.hid htwo
  have HV := Lib.hid hvof
  have HNA := Lib.hid hnla
  have HNB := Lib.hid hnlb
  have HNR := Lib.hid hnr
  have HK := Lib.hid hK
  clear htwo hvof herr hla hlb hea heb hnla hnlb hn hnr hK
  unfold VV.cells
  simp only
  go_enter Tryd.func8, Tryd.ntmps8
  go_wp2_with fail
  have hBa : Below w.heap.size w ((w.alloc (Obj.cells #[.int .i64 ak, .int .u64 an, .string sa] 42)).alloc (Obj.cells #[.int .i64 bk, .int .u64 bn, .string sb] 42)) := ((Below.refl _ w).alloc (Nat.le_refl _) _).alloc (by simp) _
  have hXa : Box3 ((w.alloc (Obj.cells #[.int .i64 ak, .int .u64 an, .string sa] 42)).alloc (Obj.cells #[.int .i64 bk, .int .u64 bn, .string sb] 42)) w.heap.size ⟨ak, an, sa⟩ := Box3.alloc (Box3.new w ⟨ak, an, sa⟩) _
  have hXb : Box3 ((w.alloc (Obj.cells #[.int .i64 ak, .int .u64 an, .string sa] 42)).alloc (Obj.cells #[.int .i64 bk, .int .u64 bn, .string sb] 42)) (w.heap.size + 1) ⟨bk, bn, sb⟩ := by
    have := Box3.new (w.alloc (Obj.cells #[.int .i64 ak, .int .u64 an, .string sa] 42)) ⟨bk, bn, sb⟩
    rw [World.size_alloc] at this
    exact this
  have hKa := HK.out.below hBa HK.out.pos
  refine (hpa _ hKa).mono ?_
  rintro e w1 ⟨A1, c1, rfl, hc10, hc11, hr1, hB1⟩
  have hW1 := bel_step hBa hB1
  have hXa1 := hXa.below hB1
  have hXb1 := hXb.below hB1
  have hK1 := HK.out.below hW1 HK.out.pos
  obtain ⟨b0, b1, b2⟩ := hXb1.cells
  clear hpa hKa hBa hXa hXb hB1
  go_wp2_with fail
  refine (hpb _ hK1).mono ?_
  rintro e w2 ⟨A2, c2, rfl, hc20, hc21, hr2, hB2⟩
  have hW2 := bel_step hW1 hB2
  have hXa2 := hXa1.below hB2
  have hXb2 := hXb1.below hB2
  have hr12 := (hr1.below hB2 (Nat.le_refl _)).more hB2.size
  have hK2 := HK.out.below hW2 HK.out.pos
  clear hpb hK1 hW1 hXa1 hXb1 hr1 hB2 b0 b1 b2
  obtain ⟨x0, x1, x2⟩ := hXa2.cells
  obtain ⟨b0, b1, b2⟩ := hXb2.cells
  by_cases h1 : ea = 0
  · by_cases h2 : eb = 0
    · subst h1 h2
      obtain ⟨l, hl⟩ : ∃ l, la ++ lb = l := ⟨_, rfl⟩
      obtain ⟨hok, hlen, hput⟩ := HT.out rfl rfl l hl
      have hvo := HV.out rfl rfl
      rw [hl] at hvo
      obtain ⟨N, hN⟩ : ∃ N, l.length = N := ⟨_, rfl⟩
      have hsum : na + nb = N := by rw [← hN, ← hl, List.length_append, HNA.out, HNB.out]
      have HLL := Lib.hid hl
      have HOK := Lib.hid hok
      have HLEN : Hid (na ≤ 1 ∧ nb ≤ 1 ∧ na + nb = N) := Lib.hid ⟨by omega, by omega, hsum⟩
      have HPUT := Lib.hid hput
      have HVO := Lib.hid hvo
      have HNN := Lib.hid hN
      -- TAILS
      by_cases hbk : bk = 0
      · have hbk2 : (bk == 0) = true := by simpa using hbk
        have hwant : vwant ⟨ak, an, sa⟩ ⟨bk, bn, sb⟩ = ⟨ak, an, sa⟩ := by unfold vwant; rw [if_pos hbk]
        rw [hwant] at HVO
        clear hbk hwant
        have hE : (w2.alloc (.cells #[] 73)).ownsRow w2.heap.size 73 4 (.slice (some ⟨w2.heap.size, 0, none⟩) 0 0) 0 (flc []) := own_empty w2 _ (Nat.le_refl _)
        have hE0 : Below w2.heap.size w2 (w2.alloc (.cells #[] 73)) := (Below.refl _ w2).alloc (Nat.le_refl _) _
        have hq1' := hr12.alloc (Nat.le_refl _) (.cells #[] 73)
        clear hl hok hlen hput hvo hN hsum hr12 HT HV hra hrb x0 x1 x2 b0 b1 b2
        go_wp2_with (at_builtin; first
          | (refine wpList_appF_on (by rfl) _ _ rfl rfl hE rfl hq1' HNA.out na (by omega) (by have := HLEN.out; omega) (by simp) ?_; intro A8 c8 w8 ho8 hg8; have hB9 := own_grown hE0 hE (by simp) hg8; have hq25 := hr2.below hB9 (Nat.le_refl _); have hs8 := hB9.size; clear hE hE0 hq1' hg8)
          | (refine wpList_appF_on (by rfl) _ _ rfl rfl ho8 rfl hq25 HNB.out N HLEN.out.2.2 (by have := HLEN.out; omega) hs8 ?_; intro A9 c9 w9 ho9 hg9; have hB10 := own_grown hB9 ho8 hs8 hg9; have hXa9 := hXa2.below hB10; have hXb9 := hXb2.below hB10; obtain ⟨x0, x1, x2⟩ := hXa9.cells; obtain ⟨b0, b1, b2⟩ := hXb9.cells; have hlta := (Array.getElem?_eq_some_iff.1 hXa9).1; have hltb := (Array.getElem?_eq_some_iff.1 hXb9).1; clear hg9 ho8 hq25))
        have hE9 : Below w9.heap.size w9 (w9.alloc (Obj.cells #[.int .i64 ak, .int .u64 an, .string sa] 42)) := (Below.refl _ w9).alloc (Nat.le_refl _) _
        have hX9 : Box3 (w9.alloc (Obj.cells #[.int .i64 ak, .int .u64 an, .string sa] 42)) w9.heap.size ⟨ak, an, sa⟩ := Box3.new w9 ⟨ak, an, sa⟩
        have hW10 := bel_step (bel_step hW2 hB10) hE9
        have hr9 := Rd.of_own ho9
        rw [List.nil_append, HLL.out] at hr9
        have hr10 := (hr9.below hE9 (Nat.le_refl _)).more hE9.size
        clear hXa2 hXb2 hXa9 hXb9 hlta hltb x0 x1 x2 b0 b1 b2 ho9 hr9 hE9 hB9 hs8 hB10 hr2 hW2 hK2
        generalize (w9.alloc (Obj.cells #[.int .i64 ak, .int .u64 an, .string sa] 42)) = w10 at *
        generalize w9.heap.size = wb at *
        have hv := vof_any l A9 c9 (n : Int) true (by rw [HNN.out]; have := HLEN.out; omega) HOK.out w10 hr10 (HK.out.below hW10 HK.out.pos)
        rw [HNN.out, HVO.out] at hv
        unfold VV.cells at hv
        simp only at hv
        refine hv.mono ?_
        rintro e w11 ⟨rfl, hB11⟩
        have hX11 := hX9.below hB11
        have hW11 := bel_step hW10 hB11
        have hr11 := (hr10.below hB11 (Nat.le_refl _)).more hB11.size
        obtain ⟨x0, x1, x2⟩ := hX11.cells
        have hltx := (Array.getElem?_eq_some_iff.1 hX11).1
        clear hv hX9 hW10 hr10 hB11
        go_wp2_with fail
        have hE11 : Below w11.heap.size w11 (w11.alloc (Obj.cells #[.int .i64 ak, .int .u64 an, .string sa] 42)) := (Below.refl _ w11).alloc (Nat.le_refl _) _
        have hX12 := hX11.below hE11
        have hW12 := bel_step hW11 hE11
        have hr12 := (hr11.below hE11 (Nat.le_refl _)).more hE11.size
        have hp := puts_any l A9 c9 (by rw [HNN.out]; have := HLEN.out; omega) HOK.out _ hr12
        rw [HNN.out] at hp
        unfold PutsPost at hp
        clear hX11 hW11 hr11 hE11 x0 x1 x2 hltx hr12
        rcases HPUT.out with hput | ⟨hput, hwo⟩
        · rw [hput] at hp
          simp only [List.length_nil] at hp
          clear hput
          refine hp.mono ?_
          rintro e w13 ⟨A13, c13, rfl, ho13, hB13⟩
          have hW13 := bel_step hW12 hB13
          clear hp ho13 hX12
          go_wp2_with fail
          refine (awake5_any w13 (HK.out.below hW13 HK.out.pos)).mono ?_
          rintro e w14 ⟨rfl, hB14⟩
          go_wp2_with fail
          go_ret
          exact ⟨rfl, bel_step hW13 hB14⟩
        · rw [hput] at hp
          simp only at hp
          obtain ⟨bts, hbts⟩ : ∃ x, wencs l = x := ⟨_, rfl⟩
          rw [hbts] at hp hwo
          obtain ⟨M, hM⟩ : ∃ x, bts.length = x := ⟨_, rfl⟩
          rw [hM] at hp
          have HWO := Lib.hid hwo
          have HM := Lib.hid hM
          clear hput hbts hwo hM
          refine hp.mono ?_
          rintro e w13 ⟨A13, c13, rfl, ho13, hB13⟩
          have hW13 := bel_step hW12 hB13
          have hX13 := hX12.below hB13
          have hcap := own_cap ho13
          have hof := of_any bts A13 M c13 HM.out hcap.1 hcap.2 w13 (Rd.of_own ho13)
          unfold OfPost at hof
          rw [HWO.out] at hof
          simp only [HNN.out] at hof
          clear hp ho13 hX12 hW12 hB13 hcap
          go_wp2_with fail
          refine hof.mono ?_
          rintro e w14 ⟨A14, c14, rfl, ho14, hB14⟩
          have hW14 := bel_step hW13 hB14
          have hX14 := hX13.below hB14
          have hv := vof_any l A14 c14 (n : Int) true (by rw [HNN.out]; have := HLEN.out; omega) HOK.out w14 (Rd.of_own ho14) (HK.out.below hW14 HK.out.pos)
          rw [HNN.out, HVO.out] at hv
          unfold VV.cells at hv
          simp only at hv
          clear hof ho14 hX13 hW13 hB14
          go_wp2_with fail
          refine hv.mono ?_
          rintro e w15 ⟨rfl, hB15⟩
          have hX15 := hX14.below hB15
          have hW15 := bel_step hW14 hB15
          obtain ⟨x0, x1, x2⟩ := hX15.cells
          have hltx := (Array.getElem?_eq_some_iff.1 hX15).1
          have hW16 := bel_step hW15 ((Below.refl _ w15).alloc (Nat.le_refl _) (Obj.cells #[.int .i64 ak, .int .u64 an, .string sa] 42))
          clear hv hX14 hX15 hW14 hB15 hW15
          go_wp2_with fail
          refine (awake5_any _ (HK.out.below hW16 HK.out.pos)).mono ?_
          rintro e w17 ⟨rfl, hB17⟩
          go_wp2_with fail
          go_ret
          exact ⟨rfl, bel_step hW16 hB17⟩
      · have hbk2 : (bk == 0) = false := by simpa using hbk
        have hwant : vwant ⟨ak, an, sa⟩ ⟨bk, bn, sb⟩ = ⟨bk, bn, sb⟩ := by unfold vwant; rw [if_neg hbk]
        rw [hwant] at HVO
        clear hbk hwant
        have hE : (w2.alloc (.cells #[] 73)).ownsRow w2.heap.size 73 4 (.slice (some ⟨w2.heap.size, 0, none⟩) 0 0) 0 (flc []) := own_empty w2 _ (Nat.le_refl _)
        have hE0 : Below w2.heap.size w2 (w2.alloc (.cells #[] 73)) := (Below.refl _ w2).alloc (Nat.le_refl _) _
        have hq1' := hr12.alloc (Nat.le_refl _) (.cells #[] 73)
        clear hl hok hlen hput hvo hN hsum hr12 HT HV hra hrb x0 x1 x2 b0 b1 b2
        go_wp2_with (at_builtin; first
          | (refine wpList_appF_on (by rfl) _ _ rfl rfl hE rfl hq1' HNA.out na (by omega) (by have := HLEN.out; omega) (by simp) ?_; intro A8 c8 w8 ho8 hg8; have hB9 := own_grown hE0 hE (by simp) hg8; have hq25 := hr2.below hB9 (Nat.le_refl _); have hs8 := hB9.size; clear hE hE0 hq1' hg8)
          | (refine wpList_appF_on (by rfl) _ _ rfl rfl ho8 rfl hq25 HNB.out N HLEN.out.2.2 (by have := HLEN.out; omega) hs8 ?_; intro A9 c9 w9 ho9 hg9; have hB10 := own_grown hB9 ho8 hs8 hg9; have hXa9 := hXa2.below hB10; have hXb9 := hXb2.below hB10; obtain ⟨x0, x1, x2⟩ := hXa9.cells; obtain ⟨b0, b1, b2⟩ := hXb9.cells; have hlta := (Array.getElem?_eq_some_iff.1 hXa9).1; have hltb := (Array.getElem?_eq_some_iff.1 hXb9).1; clear hg9 ho8 hq25))
        have hE9 : Below w9.heap.size w9 (w9.alloc (Obj.cells #[.int .i64 bk, .int .u64 bn, .string sb] 42)) := (Below.refl _ w9).alloc (Nat.le_refl _) _
        have hX9 : Box3 (w9.alloc (Obj.cells #[.int .i64 bk, .int .u64 bn, .string sb] 42)) w9.heap.size ⟨bk, bn, sb⟩ := Box3.new w9 ⟨bk, bn, sb⟩
        have hW10 := bel_step (bel_step hW2 hB10) hE9
        have hr9 := Rd.of_own ho9
        rw [List.nil_append, HLL.out] at hr9
        have hr10 := (hr9.below hE9 (Nat.le_refl _)).more hE9.size
        clear hXa2 hXb2 hXa9 hXb9 hlta hltb x0 x1 x2 b0 b1 b2 ho9 hr9 hE9 hB9 hs8 hB10 hr2 hW2 hK2
        generalize (w9.alloc (Obj.cells #[.int .i64 bk, .int .u64 bn, .string sb] 42)) = w10 at *
        generalize w9.heap.size = wb at *
        have hv := vof_any l A9 c9 (n : Int) true (by rw [HNN.out]; have := HLEN.out; omega) HOK.out w10 hr10 (HK.out.below hW10 HK.out.pos)
        rw [HNN.out, HVO.out] at hv
        unfold VV.cells at hv
        simp only at hv
        refine hv.mono ?_
        rintro e w11 ⟨rfl, hB11⟩
        have hX11 := hX9.below hB11
        have hW11 := bel_step hW10 hB11
        have hr11 := (hr10.below hB11 (Nat.le_refl _)).more hB11.size
        obtain ⟨x0, x1, x2⟩ := hX11.cells
        have hltx := (Array.getElem?_eq_some_iff.1 hX11).1
        clear hv hX9 hW10 hr10 hB11
        go_wp2_with fail
        have hE11 : Below w11.heap.size w11 (w11.alloc (Obj.cells #[.int .i64 bk, .int .u64 bn, .string sb] 42)) := (Below.refl _ w11).alloc (Nat.le_refl _) _
        have hX12 := hX11.below hE11
        have hW12 := bel_step hW11 hE11
        have hr12 := (hr11.below hE11 (Nat.le_refl _)).more hE11.size
        have hp := puts_any l A9 c9 (by rw [HNN.out]; have := HLEN.out; omega) HOK.out _ hr12
        rw [HNN.out] at hp
        unfold PutsPost at hp
        clear hX11 hW11 hr11 hE11 x0 x1 x2 hltx hr12
        rcases HPUT.out with hput | ⟨hput, hwo⟩
        · rw [hput] at hp
          simp only [List.length_nil] at hp
          clear hput
          refine hp.mono ?_
          rintro e w13 ⟨A13, c13, rfl, ho13, hB13⟩
          have hW13 := bel_step hW12 hB13
          clear hp ho13 hX12
          go_wp2_with fail
          refine (awake5_any w13 (HK.out.below hW13 HK.out.pos)).mono ?_
          rintro e w14 ⟨rfl, hB14⟩
          go_wp2_with fail
          go_ret
          exact ⟨rfl, bel_step hW13 hB14⟩
        · rw [hput] at hp
          simp only at hp
          obtain ⟨bts, hbts⟩ : ∃ x, wencs l = x := ⟨_, rfl⟩
          rw [hbts] at hp hwo
          obtain ⟨M, hM⟩ : ∃ x, bts.length = x := ⟨_, rfl⟩
          rw [hM] at hp
          have HWO := Lib.hid hwo
          have HM := Lib.hid hM
          clear hput hbts hwo hM
          refine hp.mono ?_
          rintro e w13 ⟨A13, c13, rfl, ho13, hB13⟩
          have hW13 := bel_step hW12 hB13
          have hX13 := hX12.below hB13
          have hcap := own_cap ho13
          have hof := of_any bts A13 M c13 HM.out hcap.1 hcap.2 w13 (Rd.of_own ho13)
          unfold OfPost at hof
          rw [HWO.out] at hof
          simp only [HNN.out] at hof
          clear hp ho13 hX12 hW12 hB13 hcap
          go_wp2_with fail
          refine hof.mono ?_
          rintro e w14 ⟨A14, c14, rfl, ho14, hB14⟩
          have hW14 := bel_step hW13 hB14
          have hX14 := hX13.below hB14
          have hv := vof_any l A14 c14 (n : Int) true (by rw [HNN.out]; have := HLEN.out; omega) HOK.out w14 (Rd.of_own ho14) (HK.out.below hW14 HK.out.pos)
          rw [HNN.out, HVO.out] at hv
          unfold VV.cells at hv
          simp only at hv
          clear hof ho14 hX13 hW13 hB14
          go_wp2_with fail
          refine hv.mono ?_
          rintro e w15 ⟨rfl, hB15⟩
          have hX15 := hX14.below hB15
          have hW15 := bel_step hW14 hB15
          obtain ⟨x0, x1, x2⟩ := hX15.cells
          have hltx := (Array.getElem?_eq_some_iff.1 hX15).1
          have hW16 := bel_step hW15 ((Below.refl _ w15).alloc (Nat.le_refl _) (Obj.cells #[.int .i64 bk, .int .u64 bn, .string sb] 42))
          clear hv hX14 hX15 hW14 hB15 hW15
          go_wp2_with fail
          refine (awake5_any _ (HK.out.below hW16 HK.out.pos)).mono ?_
          rintro e w17 ⟨rfl, hB17⟩
          go_wp2_with fail
          go_ret
          exact ⟨rfl, bel_step hW16 hB17⟩
    · have hbe : (eb != 0) = true := by simpa using h2
      have hae : (ea != 0) = false := by simpa using h1
      clear h1 h2 hr12 hr2 HT HV
      go_wp2_with fail
      refine (hra _).mono ?_
      rintro e w3 ⟨rfl, hB3⟩
      have hW3 := bel_step hW2 hB3
      obtain ⟨d0, d1, d2⟩ := (hXb2.below hB3).cells
      clear hra hXa2 hXb2 hB3 hK2 x0 x1 x2 b0 b1 b2
      go_wp2_with fail
      refine (hrb _).mono ?_
      rintro e w4 ⟨rfl, hB4⟩
      have hW4 := bel_step hW3 hB4
      clear hrb d0 d1 d2
      go_wp2_with fail
      refine (awake5_any w4 (HK.out.below hW4 HK.out.pos)).mono ?_
      rintro e w5 ⟨rfl, hB5⟩
      go_wp2_with fail
      go_ret
      exact ⟨rfl, bel_step hW4 hB5⟩
  · have hae : (ea != 0) = true := by simpa using h1
    clear h1 hr12 hr2 HT HV
    go_wp2_with fail
    refine (hra _).mono ?_
    rintro e w3 ⟨rfl, hB3⟩
    have hW3 := bel_step hW2 hB3
    clear hra hXa2 hXb2 hB3 hK2 x0 x1 x2 b0 b1 b2
    go_wp2_with fail
    refine (awake5_any w3 (HK.out.below hW3 HK.out.pos)).mono ?_
    rintro e w5 ⟨rfl, hB5⟩
    go_wp2_with fail
    go_ret
    exact ⟨rfl, bel_step hW3 hB5⟩
end Go.Proofs.YtlgokfgbcohioaaDoor
