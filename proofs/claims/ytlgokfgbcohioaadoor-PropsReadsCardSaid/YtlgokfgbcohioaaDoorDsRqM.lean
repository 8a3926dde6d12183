/- WALK: the reference's Put of layer 8 -/
import Derived.Test.YtlgokfgbcohioaaDoorDsHM
import Derived.Test.YtlgokfgbcohioaaDoorDsRrM
import Derived.Test.YtlgokfgbcohioaaDoorDsQM
import Derived.BigQuiet
import Derived.Deep.QuietTactic
namespace Go.Proofs.YtlgokfgbcohioaaDoor
open Go.RowKit Plain

set_option maxRecDepth 100000 in
set_option maxHeartbeats 2000000 in
theorem rdput_any (d : DS) (hok : DSOk d) (w : World) (hd : d.At w w.heap.size) :
    Calls Tryd.prog 15 #[d.agg] w (BPost (dput d.cols d.types d.plain) w) := by
  obtain ⟨q, hq⟩ : ∃ q, dput d.cols d.types d.plain = q := ⟨_, rfl⟩
  rw [hq]
  have HD := Lib.hid hd
  have HOK := Lib.hid hok
  have HQ := Lib.hid hq
  have b1 := hok.l1
  have b2 := hok.l2
  have b3 := hok.l3
  clear hd hok hq
  obtain ⟨A1, c1, cols, A2, c2, types, A3, c3, rows⟩ := d
  simp only at b1 b2 b3
  unfold DS.agg
  simp only
  obtain ⟨n, hn⟩ : ∃ n, cols.length = n := ⟨_, rfl⟩
  obtain ⟨t, ht⟩ : ∃ n, types.length = n := ⟨_, rfl⟩
  obtain ⟨m, hm⟩ : ∃ n, rows.length = n := ⟨_, rfl⟩
  rw [hn, ht, hm]
  rw [hn] at b1
  rw [ht] at b2
  rw [hm] at b3
  have HN := Lib.hid hn
  have HT := Lib.hid ht
  have HM := Lib.hid hm
  clear hn ht hm
  have hE0 : Below w.heap.size w (w.alloc (Obj.cells #[.slice A1 n c1, .slice A2 t c2, .slice A3 m c3] 26)) := (Below.refl _ w).alloc (Nat.le_refl _) _
  have hD0 : BoxD (w.alloc (Obj.cells #[.slice A1 n c1, .slice A2 t c2, .slice A3 m c3] 26)) w.heap.size (.slice A1 n c1) (.slice A2 t c2) (.slice A3 m c3) := World.alloc_heap_new w _
  go_enter Tryd.func15, Tryd.ntmps15
  by_cases h1 : 16 < n
  · have hd1 : decide ((16 : Int) < (n : Int)) = true := decide_eq_true (by omega)
    have hq : q = ([], 6) := by rw [← HQ.out]; unfold dput; rw [if_pos (.inl (by rw [HN.out]; exact h1))]
    have HQ2 := Lib.hid hq
    clear h1 hq
    go_wp2_with fail
    go_ret2
    exact bpost_err HQ2.out hE0
  by_cases h2 : 32 < m
  · have hd1 : decide ((16 : Int) < (n : Int)) = false := decide_eq_false (by omega)
    have hd2 : decide ((32 : Int) < (m : Int)) = true := decide_eq_true (by omega)
    have hq : q = ([], 6) := by rw [← HQ.out]; unfold dput; rw [if_pos (.inr (by simp only [DS.plain, List.length_map]; rw [HM.out]; exact h2))]
    have HQ2 := Lib.hid hq
    clear h1 h2 hq
    go_wp2_with fail
    go_ret2
    exact bpost_err HQ2.out hE0
  have hlow : ¬ (16 < cols.length ∨ 32 < (DS.plain ⟨A1, c1, cols, A2, c2, types, A3, c3, rows⟩).length) := by
    simp only [DS.plain, List.length_map]
    rw [HN.out, HM.out]
    omega
  have hd1 : decide ((16 : Int) < (n : Int)) = false := decide_eq_false (by omega)
  have hd2 : decide ((32 : Int) < (m : Int)) = false := decide_eq_false (by omega)
  by_cases h3 : t = n
  · have hq2 : q = if derrs cols.length (rows.map RowH.vals) = 0 then wput (dhead cols types ++ (rows.map RowH.vals).map drfl) else ([], derrs cols.length (rows.map RowH.vals)) := by
      rw [← HQ.out]; unfold dput
      rw [if_neg hlow, if_pos (by rw [HT.out, HN.out]; exact h3)]
      rfl
    subst h3
    have HQ2 := Lib.hid hq2
    have H16 : Hid (t ≤ 16 ∧ m ≤ 32) := Lib.hid ⟨by omega, by omega⟩
    clear hlow hq2 h1 h2 b1 b2 b3
    have hdA := (HD.out.below hE0 (Nat.le_refl _)).more hE0.size
    have ht16 : t ≤ 16 := H16.out.1
    by_cases ht0 : t = 0
    · have ht0b : decide (0 < t) = false := by simp; omega
      have HH0 : Hid (([] : List Fld) ++ cols.map cfld ++ types.map tfld = dhead cols types) := Lib.hid (by unfold dhead; rw [HN.out, if_pos ht0]; rfl)
      have HKL : Hid (([] : List Fld).length = 0) := Lib.hid rfl
      have HKB : Hid (0 ≤ 1) := Lib.hid (by omega)
      clear ht0
      go_wp2_with fail
      generalize hW0 : w.alloc (Obj.cells #[.slice A1 t c1, .slice A2 t c2, .slice A3 m c3] 26) = W0 at *
      have hown0 : W0.ownsRow W0.heap.size 73 4 (.slice none 0 0) 0 (flc []) := World.ownsRow_nil W0 W0.heap.size 73 4
      have hB0 := Below.refl W0.heap.size W0
      obtain ⟨x0, x1, x2⟩ := hD0.cells
      obtain ⟨H0, hH0⟩ : ∃ H0 : List Fld, [] = H0 := ⟨_, rfl⟩
      rw [hH0] at HH0 HKL hown0
      clear ht0b hW0 hH0
      go_wp2_with fail
      go_loopw [4, 5] (fun o i wr => ∃ (j k : Nat) (A : Option Addr) (c : Nat), i = .int .i64 j ∧ o = .slice A k c ∧ j ≤ t ∧ k = 0 + j ∧ wr.ownsRow W0.heap.size 73 4 (.slice A k c) k (flc (H0 ++ (cols.take j).map cfld)) ∧ Below W0.heap.size W0 wr) (fun _ i _ => t - (intOf i).toNat)
      case atStart => exact ⟨0, 0, none, 0, rfl, rfl, Nat.zero_le _, rfl, by simpa using hown0, hB0⟩
      case round =>
        clear hown0 hB0 x0 x1 x2
        obtain ⟨j, k, A, c, rfl, rfl, hj, hk, hown, hB⟩ := hrel
        have hs := hB.size
        have hkb : k ≤ 100 := by have := HKB.out; omega
        have HKK := Lib.hid hk
        clear hk
        obtain ⟨x0, x1, x2⟩ := (hD0.below hB).cells
        by_cases hlt : j < t
        · obtain ⟨s, hsj⟩ : ∃ s, cols[j]? = some s := ⟨_, List.getElem?_eq_getElem (by rw [HN.out]; exact hlt)⟩
          obtain ⟨b1, o1, rfl, hb1, g0⟩ := one_at (hdA.r1.below hB (Nat.le_refl _)) hsj
          have HST : Hid ((cols.take (j + 1)).map cfld = (cols.take j).map cfld ++ [⟨2, 2, 0, s⟩]) := Lib.hid (by rw [List.take_add_one, hsj]; simp [cfld])
          clear hsj
          go_wp2_with (at_builtin; refine wpList_appF1 rfl _ _ rfl rfl hown ⟨2, 2, 0, s⟩ rfl (by simp) (by omega) hs ?_; intro A7 c7 w7 ho7 hg7)
          go_roundw
          case rel => exact ⟨j + 1, k + 1, A7, c7, by go_num, rfl, by omega, by have := HKK.out; omega, by rw [HST.out, ← List.append_assoc]; exact ho7, own_grown hB hown hs hg7⟩
          case measure => simp [intOf]; omega
        · obtain rfl : j = t := by omega
          rw [List.take_of_length_le (by rw [HN.out]; exact Nat.le_refl _)] at hown
          have hown1 := hown
          have hB1 := hB
          have HK1 := HKK
          obtain ⟨k1, hk1⟩ : ∃ k1, k = k1 := ⟨_, rfl⟩
          rw [hk1] at hown1 HK1 hkb ⊢
          clear hown hB HKK hk1 hlt hj
          go_wp2_with fail
          go_loopw [4, 6] (fun o i wr => ∃ (q k : Nat) (A : Option Addr) (c : Nat), i = .int .i64 q ∧ o = .slice A k c ∧ q ≤ j ∧ k = k1 + q ∧ wr.ownsRow W0.heap.size 73 4 (.slice A k c) k (flc ((H0 ++ cols.map cfld) ++ (types.take q).map tfld)) ∧ Below W0.heap.size W0 wr) (fun _ i _ => j - (intOf i).toNat)
          case atStart => exact ⟨0, k1, A, c, rfl, rfl, Nat.zero_le _, rfl, by simpa using hown1, hB1⟩
          case round =>
            clear hown1 hB1 x0 x1 x2
            obtain ⟨q2, k, A, c, rfl, rfl, hq2, hk, hown, hB⟩ := hrel
            have hs := hB.size
            have hkc : k ≤ 200 := by omega
            have HKK := Lib.hid hk
            clear hk
            obtain ⟨x0, x1, x2⟩ := (hD0.below hB).cells
            by_cases hlt : q2 < j
            · obtain ⟨s, hsj⟩ : ∃ s, types[q2]? = some s := ⟨_, List.getElem?_eq_getElem (by rw [HT.out]; exact hlt)⟩
              obtain ⟨b1, o1, rfl, hb1, g0⟩ := one_at (hdA.r2.below hB (Nat.le_refl _)) hsj
              have ht32 := HOK.out.ty s (List.mem_of_getElem? hsj)
              have HST : Hid ((types.take (q2 + 1)).map tfld = (types.take q2).map tfld ++ [⟨3, 0, s, ⟨#[]⟩⟩]) := Lib.hid (by rw [List.take_add_one, hsj]; simp [tfld])
              clear hsj
              go_wp2_with (at_builtin; refine wpList_appF1 rfl _ _ rfl rfl hown ⟨3, 0, s, ⟨#[]⟩⟩ rfl (by simp) (by omega) hs ?_; intro A7 c7 w7 ho7 hg7)
              go_roundw
              case rel => exact ⟨q2 + 1, k + 1, A7, c7, by go_num, rfl, by omega, by have := HKK.out; omega, by rw [HST.out, ← List.append_assoc]; exact ho7, own_grown hB hown hs hg7⟩
              case measure => simp [intOf]; omega
            · obtain rfl : q2 = j := by omega
              rw [List.take_of_length_le (by rw [HT.out]; exact Nat.le_refl _)] at hown
              obtain ⟨H, hH⟩ : ∃ H, dhead cols types = H := ⟨_, rfl⟩
              rw [HH0.out, hH] at hown
              have hHk : H.length = k := by
                have e1 := HKK.out
                have e2 := HK1.out
                have e3 := HN.out
                have e4 := HT.out
                have e5 := HKL.out
                rw [← hH, ← HH0.out]
                simp only [List.length_append, List.length_map]
                omega
              have HH := Lib.hid hH
              have HK0 := Lib.hid hHk
              have hown1 := hown
              have hB1 := hB
              obtain ⟨k2, hk2⟩ : ∃ k2, k = k2 := ⟨_, rfl⟩
              rw [hk2] at hown1 HK0 hkc ⊢
              have HKB2 := Lib.hid hkc
              clear hown hB HKK hlt hq2 hH hHk hk2 hkb HKB HKL HK1 HH0 hkc
              go_wp2_with fail
              go_loopw [4, 7] (fun o i wr => ∃ (j k : Nat) (A : Option Addr) (c : Nat), i = .int .i64 j ∧ o = .slice A k c ∧ j ≤ m ∧ k = k2 + j ∧ wr.ownsRow W0.heap.size 73 4 (.slice A k c) k (flc (H ++ ((rows.map RowH.vals).take j).map drfl)) ∧ derrs cols.length (rows.map RowH.vals) = derrs cols.length ((rows.map RowH.vals).drop j) ∧ Below W0.heap.size W0 wr) (fun _ i _ => m - (intOf i).toNat)
              case atStart => exact ⟨0, k2, A, c, rfl, rfl, Nat.zero_le _, rfl, by simpa using hown1, rfl, hB1⟩
              case round =>
                clear hown1 hB1 x0 x1 x2
                obtain ⟨j, k, A, c, rfl, rfl, hj, hk, hown, he, hB⟩ := hrel
                have hs := hB.size
                have hm32 : m ≤ 32 := H16.out.2
                have hkb : k ≤ 300 := by have := HKB2.out; omega
                have HKK := Lib.hid hk
                have HE := Lib.hid he
                clear hk he
                obtain ⟨x0, x1, x2⟩ := (hD0.below hB).cells
                by_cases hlt : j < m
                · obtain ⟨r, hr⟩ : ∃ r, rows[j]? = some r := ⟨_, List.getElem?_eq_getElem (by rw [HM.out]; exact hlt)⟩
                  have HLT := Lib.hid hlt
                  have hrm := List.mem_of_getElem? hr
                  have hrj : (rows.map RowH.vals)[j]? = some r.vals := by rw [List.getElem?_map, hr]; rfl
                  have hrd := (hdA.rs r hrm).below hB (Nat.le_refl _)
                  have hvok := HOK.out.vs r hrm
                  have hdd := drop_cons hrj
                  have HST : Hid (((rows.map RowH.vals).take (j + 1)).map drfl = ((rows.map RowH.vals).take j).map drfl ++ [drfl r.vals]) := Lib.hid (by rw [List.take_add_one, hrj]; simp)
                  have HDE : Hid (derrs cols.length (rows.map RowH.vals) = if r.vals.length = q2 then (if (drow r.vals).2 = 0 then derrs cols.length ((rows.map RowH.vals).drop (j + 1)) else (drow r.vals).2) else 4) := Lib.hid (by rw [HE.out, hdd, derrs, HN.out])
                  have hr3 : Rd wr W0.heap.size A3 (rcl rows) := hdA.r3.below hB (Nat.le_refl _)
                  obtain ⟨b1, o1, rfl, hb1, g0⟩ := one_at hr3 hr
                  obtain ⟨adr, cap, vals⟩ := r
                  simp only at g0 hvok hrd
                  obtain ⟨L, hL⟩ : ∃ L, vals.length = L := ⟨_, rfl⟩
                  rw [hL] at g0
                  simp only [hL] at HDE
                  have HL := Lib.hid hL
                  clear hrj hdd hr hrm hr3 HE hL
                  have hfail : ∀ e : Int, ¬ e = 0 → derrs cols.length (rows.map RowH.vals) = e → q = ([], e) := fun e h0 h1 => by rw [HQ2.out, h1, if_neg h0]
                  have HFAIL := Lib.hid hfail
                  clear hfail
                  by_cases hLt : L = q2
                  · subst hLt
                    have HDE2 := Lib.hid (show derrs cols.length (rows.map RowH.vals) = if (drow vals).2 = 0 then derrs cols.length ((rows.map RowH.vals).drop (j + 1)) else (drow vals).2 by have := HDE.out; rwa [if_pos rfl] at this)
                    have hrow := fun W hW => rdrow_any vals adr cap (by rw [HL.out]; have := H16.out.1; omega) hvok W hW
                    rw [HL.out] at hrow
                    unfold BPost at hrow
                    have HF : Hid (drfl vals = ⟨4, 2, 0, ⟨(drow vals).1.toArray⟩⟩) := Lib.hid rfl
                    obtain ⟨cq, hcq⟩ : ∃ cq, drow vals = cq := ⟨_, rfl⟩
                    rw [hcq] at hrow HDE2 HF
                    obtain ⟨cb, ce⟩ := cq
                    simp only at hrow HDE2 HF
                    clear hcq HDE hvok
                    go_wp2_with fail
                    go_quiet (fail)
                    have hB2 : Below W0.heap.size W0 (wr.drewN nq) := below_drewN hB nq
                    have hown2 : (wr.drewN nq).ownsRow W0.heap.size 73 4 (.slice A k c) k (flc (H ++ ((rows.map RowH.vals).take j).map drfl)) := hown
                    have hrd2 : Rd (wr.drewN nq) W0.heap.size adr (vvl vals) := hrd
                    have g02 : (wr.drewN nq).cell? ⟨b1, o1 + j, none⟩ = some (.slice adr L cap) := g0
                    have hs2 : W0.heap.size ≤ (wr.drewN nq).heap.size := hs
                    clear hB hown hrd g0 x0 x1 x2 hs
                    generalize wr.drewN nq = W3 at *
                    obtain ⟨x0, x1, x2⟩ := (hD0.below hB2).cells
                    go_wp2_with fail
                    refine (hrow W3 (hrd2.more hs2)).mono ?_
                    rintro e w4 ⟨A6, c6, rfl, ho6, hB6⟩
                    have hown3 := own_kept hown2 hB6 (Nat.le_refl _)
                    have hB7 := hB2.trans (hB6.mono hs2)
                    have hs7 := hB7.size
                    clear hrow hown2 hrd2 g02 hs2 hB2 hB6 x0 x1 x2
                    by_cases h0 : ce = 0
                    · subst h0
                      have hst := strB (Rd.of_own ho6) rfl c6
                      have HD3 : Hid (derrs cols.length (rows.map RowH.vals) = derrs cols.length ((rows.map RowH.vals).drop (j + 1))) := Lib.hid (by have := HDE2.out; rwa [if_pos rfl] at this)
                      clear ho6 HDE2 HFAIL
                      go_wp2_with (at_builtin; refine wpList_appF1 rfl _ _ rfl rfl hown3 ⟨4, 2, 0, ⟨cb.toArray⟩⟩ rfl (by simp) (by omega) hs7 ?_; intro A7 c7 w7 ho7 hg7)
                      go_roundw
                      case rel => exact ⟨j + 1, k + 1, A7, c7, by go_num, rfl, by have := HLT.out; omega, by have := HKK.out; omega, by rw [HST.out, HF.out, ← List.append_assoc]; exact ho7, HD3.out, own_grown hB7 hown3 hs7 hg7⟩
                      case measure => have := HLT.out; simp [intOf]; omega
                    · have hbe : (ce != 0) = true := by simpa using h0
                      have HQ3 := Lib.hid (HFAIL.out ce h0 (by have := HDE2.out; rwa [if_neg h0] at this))
                      clear h0 ho6 HDE2 HFAIL
                      go_wp2_with fail
                      go_ret2
                      exact bpost_err HQ3.out (bel_step hE0 hB7)
                  · have hbe : ((L : Int) != (q2 : Int)) = true := by simp; omega
                    have HQ3 := Lib.hid (HFAIL.out 4 (by decide) (by have := HDE.out; rwa [if_neg hLt] at this))
                    clear hLt HFAIL HDE
                    go_wp2_with fail
                    go_quiet (fail)
                    go_wp2_with fail
                    go_ret2
                    exact bpost_err HQ3.out (bel_step hE0 (below_drewN hB nq))
                · obtain rfl : j = m := by omega
                  have hrl : (rows.map RowH.vals).length = j := by rw [List.length_map]; exact HM.out
                  have hz : derrs cols.length (rows.map RowH.vals) = 0 := by rw [HE.out, List.drop_eq_nil_of_le (by rw [hrl]; exact Nat.le_refl _)]; rfl
                  rw [List.take_of_length_le (by rw [hrl]; exact Nat.le_refl _)] at hown
                  obtain ⟨l, hl⟩ : ∃ l, H ++ (rows.map RowH.vals).map drfl = l := ⟨_, rfl⟩
                  have hq : q = wput l := by rw [HQ2.out, if_pos hz, HH.out, hl]
                  have hll : l.length = k := by rw [← hl, List.length_append, HK0.out, List.length_map, hrl, ← HKK.out]
                  have hlok : ∀ f ∈ l, FldOk f := by
                    rw [← hl, ← HH.out]
                    exact dput_flds (by rw [HN.out]; exact H16.out.1) HOK.out.ty _
                  rw [hl] at hown
                  have hput := rputs_any l A c (by omega) hlok wr (Rd.of_own hown)
                  have hput2 : Calls Tryd.prog 39 #[.slice A l.length c] wr (BPost (wput l) wr) := hput
                  rw [← hq, hll] at hput2
                  have hW := bel_step hE0 hB
                  clear hput hlok hq hll hl hz hrl hlt hown HE
                  go_wp2_with fail
                  refine hput2.mono ?_
                  rintro e w5 ⟨A5, c5, rfl, ho5, hB5⟩
                  go_wp2_with fail
                  go_ret2
                  exact ⟨A5, c5, rfl, own_base ho5 hW.size, bel_step hW hB5⟩
    · have ht0b : 0 < t := by omega
      have HH0 : Hid ([⟨1, 0, t, ⟨#[]⟩⟩] ++ cols.map cfld ++ types.map tfld = dhead cols types) := Lib.hid (by unfold dhead; rw [HN.out, if_neg ht0]; rfl)
      have HKL : Hid ([(⟨1, 0, t, ⟨#[]⟩⟩ : Fld)].length = 1) := Lib.hid rfl
      have HKB : Hid (1 ≤ 1) := Lib.hid (by omega)
      have hnil := World.ownsRow_nil (w.alloc (Obj.cells #[.slice A1 t c1, .slice A2 t c2, .slice A3 m c3] 26)) (w.alloc (Obj.cells #[.slice A1 t c1, .slice A2 t c2, .slice A3 m c3] 26)).heap.size 73 4
      clear ht0
      go_wp2_with (at_builtin; refine wpList_appF1 (l := []) rfl _ _ rfl rfl hnil ⟨1, 0, t, ⟨#[]⟩⟩ rfl (by simp) (by omega) (Nat.le_refl _) ?_; intro A5 c5 w5 ho5 hg5; have hB0 := own_grown (Below.refl _ _) hnil (Nat.le_refl _) hg5; obtain ⟨x0, x1, x2⟩ := (hD0.below hB0).cells; clear hg5 hnil ht0b)
      generalize hW0 : w.alloc (Obj.cells #[.slice A1 t c1, .slice A2 t c2, .slice A3 m c3] 26) = W0 at *
      have hown0 : w5.ownsRow W0.heap.size 73 4 (.slice A5 1 c5) 1 (flc [⟨1, 0, t, ⟨#[]⟩⟩]) := ho5
      obtain ⟨H0, hH0⟩ : ∃ H0 : List Fld, [⟨1, 0, t, ⟨#[]⟩⟩] = H0 := ⟨_, rfl⟩
      rw [hH0] at HH0 HKL hown0
      clear ho5 hW0 hH0
      go_wp2_with fail
      go_loopw [4, 5] (fun o i wr => ∃ (j k : Nat) (A : Option Addr) (c : Nat), i = .int .i64 j ∧ o = .slice A k c ∧ j ≤ t ∧ k = 1 + j ∧ wr.ownsRow W0.heap.size 73 4 (.slice A k c) k (flc (H0 ++ (cols.take j).map cfld)) ∧ Below W0.heap.size W0 wr) (fun _ i _ => t - (intOf i).toNat)
      case atStart => exact ⟨0, 1, A5, c5, rfl, rfl, Nat.zero_le _, rfl, by simpa using hown0, hB0⟩
      case round =>
        clear hown0 hB0 x0 x1 x2
        obtain ⟨j, k, A, c, rfl, rfl, hj, hk, hown, hB⟩ := hrel
        have hs := hB.size
        have hkb : k ≤ 100 := by have := HKB.out; omega
        have HKK := Lib.hid hk
        clear hk
        obtain ⟨x0, x1, x2⟩ := (hD0.below hB).cells
        by_cases hlt : j < t
        · obtain ⟨s, hsj⟩ : ∃ s, cols[j]? = some s := ⟨_, List.getElem?_eq_getElem (by rw [HN.out]; exact hlt)⟩
          obtain ⟨b1, o1, rfl, hb1, g0⟩ := one_at (hdA.r1.below hB (Nat.le_refl _)) hsj
          have HST : Hid ((cols.take (j + 1)).map cfld = (cols.take j).map cfld ++ [⟨2, 2, 0, s⟩]) := Lib.hid (by rw [List.take_add_one, hsj]; simp [cfld])
          clear hsj
          go_wp2_with (at_builtin; refine wpList_appF1 rfl _ _ rfl rfl hown ⟨2, 2, 0, s⟩ rfl (by simp) (by omega) hs ?_; intro A7 c7 w7 ho7 hg7)
          go_roundw
          case rel => exact ⟨j + 1, k + 1, A7, c7, by go_num, rfl, by omega, by have := HKK.out; omega, by rw [HST.out, ← List.append_assoc]; exact ho7, own_grown hB hown hs hg7⟩
          case measure => simp [intOf]; omega
        · obtain rfl : j = t := by omega
          rw [List.take_of_length_le (by rw [HN.out]; exact Nat.le_refl _)] at hown
          have hown1 := hown
          have hB1 := hB
          have HK1 := HKK
          obtain ⟨k1, hk1⟩ : ∃ k1, k = k1 := ⟨_, rfl⟩
          rw [hk1] at hown1 HK1 hkb ⊢
          clear hown hB HKK hk1 hlt hj
          go_wp2_with fail
          go_loopw [4, 6] (fun o i wr => ∃ (q k : Nat) (A : Option Addr) (c : Nat), i = .int .i64 q ∧ o = .slice A k c ∧ q ≤ j ∧ k = k1 + q ∧ wr.ownsRow W0.heap.size 73 4 (.slice A k c) k (flc ((H0 ++ cols.map cfld) ++ (types.take q).map tfld)) ∧ Below W0.heap.size W0 wr) (fun _ i _ => j - (intOf i).toNat)
          case atStart => exact ⟨0, k1, A, c, rfl, rfl, Nat.zero_le _, rfl, by simpa using hown1, hB1⟩
          case round =>
            clear hown1 hB1 x0 x1 x2
            obtain ⟨q2, k, A, c, rfl, rfl, hq2, hk, hown, hB⟩ := hrel
            have hs := hB.size
            have hkc : k ≤ 200 := by omega
            have HKK := Lib.hid hk
            clear hk
            obtain ⟨x0, x1, x2⟩ := (hD0.below hB).cells
            by_cases hlt : q2 < j
            · obtain ⟨s, hsj⟩ : ∃ s, types[q2]? = some s := ⟨_, List.getElem?_eq_getElem (by rw [HT.out]; exact hlt)⟩
              obtain ⟨b1, o1, rfl, hb1, g0⟩ := one_at (hdA.r2.below hB (Nat.le_refl _)) hsj
              have ht32 := HOK.out.ty s (List.mem_of_getElem? hsj)
              have HST : Hid ((types.take (q2 + 1)).map tfld = (types.take q2).map tfld ++ [⟨3, 0, s, ⟨#[]⟩⟩]) := Lib.hid (by rw [List.take_add_one, hsj]; simp [tfld])
              clear hsj
              go_wp2_with (at_builtin; refine wpList_appF1 rfl _ _ rfl rfl hown ⟨3, 0, s, ⟨#[]⟩⟩ rfl (by simp) (by omega) hs ?_; intro A7 c7 w7 ho7 hg7)
              go_roundw
              case rel => exact ⟨q2 + 1, k + 1, A7, c7, by go_num, rfl, by omega, by have := HKK.out; omega, by rw [HST.out, ← List.append_assoc]; exact ho7, own_grown hB hown hs hg7⟩
              case measure => simp [intOf]; omega
            · obtain rfl : q2 = j := by omega
              rw [List.take_of_length_le (by rw [HT.out]; exact Nat.le_refl _)] at hown
              obtain ⟨H, hH⟩ : ∃ H, dhead cols types = H := ⟨_, rfl⟩
              rw [HH0.out, hH] at hown
              have hHk : H.length = k := by
                have e1 := HKK.out
                have e2 := HK1.out
                have e3 := HN.out
                have e4 := HT.out
                have e5 := HKL.out
                rw [← hH, ← HH0.out]
                simp only [List.length_append, List.length_map]
                omega
              have HH := Lib.hid hH
              have HK0 := Lib.hid hHk
              have hown1 := hown
              have hB1 := hB
              obtain ⟨k2, hk2⟩ : ∃ k2, k = k2 := ⟨_, rfl⟩
              rw [hk2] at hown1 HK0 hkc ⊢
              have HKB2 := Lib.hid hkc
              clear hown hB HKK hlt hq2 hH hHk hk2 hkb HKB HKL HK1 HH0 hkc
              go_wp2_with fail
              go_loopw [4, 7] (fun o i wr => ∃ (j k : Nat) (A : Option Addr) (c : Nat), i = .int .i64 j ∧ o = .slice A k c ∧ j ≤ m ∧ k = k2 + j ∧ wr.ownsRow W0.heap.size 73 4 (.slice A k c) k (flc (H ++ ((rows.map RowH.vals).take j).map drfl)) ∧ derrs cols.length (rows.map RowH.vals) = derrs cols.length ((rows.map RowH.vals).drop j) ∧ Below W0.heap.size W0 wr) (fun _ i _ => m - (intOf i).toNat)
              case atStart => exact ⟨0, k2, A, c, rfl, rfl, Nat.zero_le _, rfl, by simpa using hown1, rfl, hB1⟩
              case round =>
                clear hown1 hB1 x0 x1 x2
                obtain ⟨j, k, A, c, rfl, rfl, hj, hk, hown, he, hB⟩ := hrel
                have hs := hB.size
                have hm32 : m ≤ 32 := H16.out.2
                have hkb : k ≤ 300 := by have := HKB2.out; omega
                have HKK := Lib.hid hk
                have HE := Lib.hid he
                clear hk he
                obtain ⟨x0, x1, x2⟩ := (hD0.below hB).cells
                by_cases hlt : j < m
                · obtain ⟨r, hr⟩ : ∃ r, rows[j]? = some r := ⟨_, List.getElem?_eq_getElem (by rw [HM.out]; exact hlt)⟩
                  have HLT := Lib.hid hlt
                  have hrm := List.mem_of_getElem? hr
                  have hrj : (rows.map RowH.vals)[j]? = some r.vals := by rw [List.getElem?_map, hr]; rfl
                  have hrd := (hdA.rs r hrm).below hB (Nat.le_refl _)
                  have hvok := HOK.out.vs r hrm
                  have hdd := drop_cons hrj
                  have HST : Hid (((rows.map RowH.vals).take (j + 1)).map drfl = ((rows.map RowH.vals).take j).map drfl ++ [drfl r.vals]) := Lib.hid (by rw [List.take_add_one, hrj]; simp)
                  have HDE : Hid (derrs cols.length (rows.map RowH.vals) = if r.vals.length = q2 then (if (drow r.vals).2 = 0 then derrs cols.length ((rows.map RowH.vals).drop (j + 1)) else (drow r.vals).2) else 4) := Lib.hid (by rw [HE.out, hdd, derrs, HN.out])
                  have hr3 : Rd wr W0.heap.size A3 (rcl rows) := hdA.r3.below hB (Nat.le_refl _)
                  obtain ⟨b1, o1, rfl, hb1, g0⟩ := one_at hr3 hr
                  obtain ⟨adr, cap, vals⟩ := r
                  simp only at g0 hvok hrd
                  obtain ⟨L, hL⟩ : ∃ L, vals.length = L := ⟨_, rfl⟩
                  rw [hL] at g0
                  simp only [hL] at HDE
                  have HL := Lib.hid hL
                  clear hrj hdd hr hrm hr3 HE hL
                  have hfail : ∀ e : Int, ¬ e = 0 → derrs cols.length (rows.map RowH.vals) = e → q = ([], e) := fun e h0 h1 => by rw [HQ2.out, h1, if_neg h0]
                  have HFAIL := Lib.hid hfail
                  clear hfail
                  by_cases hLt : L = q2
                  · subst hLt
                    have HDE2 := Lib.hid (show derrs cols.length (rows.map RowH.vals) = if (drow vals).2 = 0 then derrs cols.length ((rows.map RowH.vals).drop (j + 1)) else (drow vals).2 by have := HDE.out; rwa [if_pos rfl] at this)
                    have hrow := fun W hW => rdrow_any vals adr cap (by rw [HL.out]; have := H16.out.1; omega) hvok W hW
                    rw [HL.out] at hrow
                    unfold BPost at hrow
                    have HF : Hid (drfl vals = ⟨4, 2, 0, ⟨(drow vals).1.toArray⟩⟩) := Lib.hid rfl
                    obtain ⟨cq, hcq⟩ : ∃ cq, drow vals = cq := ⟨_, rfl⟩
                    rw [hcq] at hrow HDE2 HF
                    obtain ⟨cb, ce⟩ := cq
                    simp only at hrow HDE2 HF
                    clear hcq HDE hvok
                    go_wp2_with fail
                    go_quiet (fail)
                    have hB2 : Below W0.heap.size W0 (wr.drewN nq) := below_drewN hB nq
                    have hown2 : (wr.drewN nq).ownsRow W0.heap.size 73 4 (.slice A k c) k (flc (H ++ ((rows.map RowH.vals).take j).map drfl)) := hown
                    have hrd2 : Rd (wr.drewN nq) W0.heap.size adr (vvl vals) := hrd
                    have g02 : (wr.drewN nq).cell? ⟨b1, o1 + j, none⟩ = some (.slice adr L cap) := g0
                    have hs2 : W0.heap.size ≤ (wr.drewN nq).heap.size := hs
                    clear hB hown hrd g0 x0 x1 x2 hs
                    generalize wr.drewN nq = W3 at *
                    obtain ⟨x0, x1, x2⟩ := (hD0.below hB2).cells
                    go_wp2_with fail
                    refine (hrow W3 (hrd2.more hs2)).mono ?_
                    rintro e w4 ⟨A6, c6, rfl, ho6, hB6⟩
                    have hown3 := own_kept hown2 hB6 (Nat.le_refl _)
                    have hB7 := hB2.trans (hB6.mono hs2)
                    have hs7 := hB7.size
                    clear hrow hown2 hrd2 g02 hs2 hB2 hB6 x0 x1 x2
                    by_cases h0 : ce = 0
                    · subst h0
                      have hst := strB (Rd.of_own ho6) rfl c6
                      have HD3 : Hid (derrs cols.length (rows.map RowH.vals) = derrs cols.length ((rows.map RowH.vals).drop (j + 1))) := Lib.hid (by have := HDE2.out; rwa [if_pos rfl] at this)
                      clear ho6 HDE2 HFAIL
                      go_wp2_with (at_builtin; refine wpList_appF1 rfl _ _ rfl rfl hown3 ⟨4, 2, 0, ⟨cb.toArray⟩⟩ rfl (by simp) (by omega) hs7 ?_; intro A7 c7 w7 ho7 hg7)
                      go_roundw
                      case rel => exact ⟨j + 1, k + 1, A7, c7, by go_num, rfl, by have := HLT.out; omega, by have := HKK.out; omega, by rw [HST.out, HF.out, ← List.append_assoc]; exact ho7, HD3.out, own_grown hB7 hown3 hs7 hg7⟩
                      case measure => have := HLT.out; simp [intOf]; omega
                    · have hbe : (ce != 0) = true := by simpa using h0
                      have HQ3 := Lib.hid (HFAIL.out ce h0 (by have := HDE2.out; rwa [if_neg h0] at this))
                      clear h0 ho6 HDE2 HFAIL
                      go_wp2_with fail
                      go_ret2
                      exact bpost_err HQ3.out (bel_step hE0 hB7)
                  · have hbe : ((L : Int) != (q2 : Int)) = true := by simp; omega
                    have HQ3 := Lib.hid (HFAIL.out 4 (by decide) (by have := HDE.out; rwa [if_neg hLt] at this))
                    clear hLt HFAIL HDE
                    go_wp2_with fail
                    go_quiet (fail)
                    go_wp2_with fail
                    go_ret2
                    exact bpost_err HQ3.out (bel_step hE0 (below_drewN hB nq))
                · obtain rfl : j = m := by omega
                  have hrl : (rows.map RowH.vals).length = j := by rw [List.length_map]; exact HM.out
                  have hz : derrs cols.length (rows.map RowH.vals) = 0 := by rw [HE.out, List.drop_eq_nil_of_le (by rw [hrl]; exact Nat.le_refl _)]; rfl
                  rw [List.take_of_length_le (by rw [hrl]; exact Nat.le_refl _)] at hown
                  obtain ⟨l, hl⟩ : ∃ l, H ++ (rows.map RowH.vals).map drfl = l := ⟨_, rfl⟩
                  have hq : q = wput l := by rw [HQ2.out, if_pos hz, HH.out, hl]
                  have hll : l.length = k := by rw [← hl, List.length_append, HK0.out, List.length_map, hrl, ← HKK.out]
                  have hlok : ∀ f ∈ l, FldOk f := by
                    rw [← hl, ← HH.out]
                    exact dput_flds (by rw [HN.out]; exact H16.out.1) HOK.out.ty _
                  rw [hl] at hown
                  have hput := rputs_any l A c (by omega) hlok wr (Rd.of_own hown)
                  have hput2 : Calls Tryd.prog 39 #[.slice A l.length c] wr (BPost (wput l) wr) := hput
                  rw [← hq, hll] at hput2
                  have hW := bel_step hE0 hB
                  clear hput hlok hq hll hl hz hrl hlt hown HE
                  go_wp2_with fail
                  refine hput2.mono ?_
                  rintro e w5 ⟨A5, c5, rfl, ho5, hB5⟩
                  go_wp2_with fail
                  go_ret2
                  exact ⟨A5, c5, rfl, own_base ho5 hW.size, bel_step hW hB5⟩
  · have hb : ((t : Int) != (n : Int)) = true := by simp; omega
    have hq : q = ([], 4) := by rw [← HQ.out]; unfold dput; rw [if_neg hlow, if_neg (by rw [HT.out, HN.out]; exact h3)]
    have HQ2 := Lib.hid hq
    clear h3 hq h1 h2 hlow
    go_wp2_with fail
    go_ret2
    exact bpost_err HQ2.out hE0
end Go.Proofs.YtlgokfgbcohioaaDoor
