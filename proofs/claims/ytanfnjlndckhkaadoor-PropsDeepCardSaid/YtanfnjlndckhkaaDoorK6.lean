/- Several texts in one: words, plain laws and walks that the statement's proof imports. -/
import Derived.Test.YtanfnjlndckhkaaDoorK5
import Derived.BigQuiet
import Derived.Deep.QuietTactic
import Derived.Laws.ResultCell
import Derived.Test.YtanfnjlndckhkaaDoorK2
import Derived.Test.YtanfnjlndckhkaaDoorK1
import Derived.LoopTactic
import Derived.RangeFuncRecord
/- WALK: the reference's Put of layer 8 -/
namespace Go.Proofs.YtanfnjlndckhkaaDoor
open Go.RowKit Plain

set_option maxRecDepth 100000 in
set_option maxHeartbeats 2000000 in
theorem rdput_any (d : DS) (hok : DSOk d) (w : World) (hd : d.At w w.heap.size) :
    Calls Tryd.prog 14 #[d.agg] w (BPost (dput d.cols d.types d.plain) w) := by
  obtain ⟨q, hq⟩ : ∃ q, dput d.cols d.types d.plain = q := ⟨_, rfl⟩
  rw [hq]
  have HD := Lib.hid hd
  have HOK := Lib.hid hok
  have HQ := Lib.hid hq
  have b1 := hok.l1
  have b2 := hok.l2
  have b3 := hok.l3
  clear hd hok hq
  obtain ⟨A1, c1, cols, A2, c2, types, A3, c3, rows⟩ := d
  simp only at b1 b2 b3
  unfold DS.agg
  simp only
  obtain ⟨n, hn⟩ : ∃ n, cols.length = n := ⟨_, rfl⟩
  obtain ⟨t, ht⟩ : ∃ n, types.length = n := ⟨_, rfl⟩
  obtain ⟨m, hm⟩ : ∃ n, rows.length = n := ⟨_, rfl⟩
  rw [hn, ht, hm]
  rw [hn] at b1
  rw [ht] at b2
  rw [hm] at b3
  have HN := Lib.hid hn
  have HT := Lib.hid ht
  have HM := Lib.hid hm
  clear hn ht hm
  have hE0 : Below w.heap.size w (w.alloc (Obj.cells #[.slice A1 n c1, .slice A2 t c2, .slice A3 m c3] 26)) := (Below.refl _ w).alloc (Nat.le_refl _) _
  have hD0 : BoxD (w.alloc (Obj.cells #[.slice A1 n c1, .slice A2 t c2, .slice A3 m c3] 26)) w.heap.size (.slice A1 n c1) (.slice A2 t c2) (.slice A3 m c3) := World.alloc_heap_new w _
  go_enter Tryd.func14, Tryd.ntmps14
  by_cases h1 : 16 < n
  · have hd1 : decide ((16 : Int) < (n : Int)) = true := decide_eq_true (by omega)
    have hq : q = ([], 6) := by rw [← HQ.out]; unfold dput; rw [if_pos (.inl (by rw [HN.out]; exact h1))]
    have HQ2 := Lib.hid hq
    clear h1 hq
    go_wp2_with fail
    go_ret2
    exact bpost_err HQ2.out hE0
  by_cases h2 : 32 < m
  · have hd1 : decide ((16 : Int) < (n : Int)) = false := decide_eq_false (by omega)
    have hd2 : decide ((32 : Int) < (m : Int)) = true := decide_eq_true (by omega)
    have hq : q = ([], 6) := by rw [← HQ.out]; unfold dput; rw [if_pos (.inr (by simp only [DS.plain, List.length_map]; rw [HM.out]; exact h2))]
    have HQ2 := Lib.hid hq
    clear h1 h2 hq
    go_wp2_with fail
    go_ret2
    exact bpost_err HQ2.out hE0
  have hlow : ¬ (16 < cols.length ∨ 32 < (DS.plain ⟨A1, c1, cols, A2, c2, types, A3, c3, rows⟩).length) := by
    simp only [DS.plain, List.length_map]
    rw [HN.out, HM.out]
    omega
  have hd1 : decide ((16 : Int) < (n : Int)) = false := decide_eq_false (by omega)
  have hd2 : decide ((32 : Int) < (m : Int)) = false := decide_eq_false (by omega)
  by_cases h3 : t = n
  · have hq2 : q = if derrs cols.length (rows.map RowH.vals) = 0 then wput (dhead cols types ++ (rows.map RowH.vals).map drfl) else ([], derrs cols.length (rows.map RowH.vals)) := by
      rw [← HQ.out]; unfold dput
      rw [if_neg hlow, if_pos (by rw [HT.out, HN.out]; exact h3)]
      rfl
    subst h3
    have HQ2 := Lib.hid hq2
    have H16 : Hid (t ≤ 16 ∧ m ≤ 32) := Lib.hid ⟨by omega, by omega⟩
    clear hlow hq2 h1 h2 b1 b2 b3
    have hdA := (HD.out.below hE0 (Nat.le_refl _)).more hE0.size
    have ht16 : t ≤ 16 := H16.out.1
    by_cases ht0 : t = 0
    · have ht0b : decide (0 < t) = false := by simp; omega
      have HH0 : Hid (([] : List Fld) ++ cols.map cfld ++ types.map tfld = dhead cols types) := Lib.hid (by unfold dhead; rw [HN.out, if_pos ht0]; rfl)
      have HKL : Hid (([] : List Fld).length = 0) := Lib.hid rfl
      have HKB : Hid (0 ≤ 1) := Lib.hid (by omega)
      clear ht0
      go_wp2_with fail
      generalize hW0 : w.alloc (Obj.cells #[.slice A1 t c1, .slice A2 t c2, .slice A3 m c3] 26) = W0 at *
      have hown0 : W0.ownsRow W0.heap.size 64 4 (.slice none 0 0) 0 (flc []) := World.ownsRow_nil W0 W0.heap.size 64 4
      have hB0 := Below.refl W0.heap.size W0
      obtain ⟨x0, x1, x2⟩ := hD0.cells
      obtain ⟨H0, hH0⟩ : ∃ H0 : List Fld, [] = H0 := ⟨_, rfl⟩
      rw [hH0] at HH0 HKL hown0
      clear ht0b hW0 hH0
      go_wp2_with fail
      go_loopw [4, 5] (fun o i wr => ∃ (j k : Nat) (A : Option Addr) (c : Nat), i = .int .i64 j ∧ o = .slice A k c ∧ j ≤ t ∧ k = 0 + j ∧ wr.ownsRow W0.heap.size 64 4 (.slice A k c) k (flc (H0 ++ (cols.take j).map cfld)) ∧ Below W0.heap.size W0 wr) (fun _ i _ => t - (intOf i).toNat)
      case atStart => exact ⟨0, 0, none, 0, rfl, rfl, Nat.zero_le _, rfl, by simpa using hown0, hB0⟩
      case round =>
        clear hown0 hB0 x0 x1 x2
        obtain ⟨j, k, A, c, rfl, rfl, hj, hk, hown, hB⟩ := hrel
        have hs := hB.size
        have hkb : k ≤ 100 := by have := HKB.out; omega
        have HKK := Lib.hid hk
        clear hk
        obtain ⟨x0, x1, x2⟩ := (hD0.below hB).cells
        by_cases hlt : j < t
        · obtain ⟨s, hsj⟩ : ∃ s, cols[j]? = some s := ⟨_, List.getElem?_eq_getElem (by rw [HN.out]; exact hlt)⟩
          obtain ⟨b1, o1, rfl, hb1, g0⟩ := one_at (hdA.r1.below hB (Nat.le_refl _)) hsj
          have HST : Hid ((cols.take (j + 1)).map cfld = (cols.take j).map cfld ++ [⟨2, 2, 0, s⟩]) := Lib.hid (by rw [List.take_add_one, hsj]; simp [cfld])
          clear hsj
          go_wp2_with (at_builtin; refine wpList_appF1 rfl _ _ rfl rfl hown ⟨2, 2, 0, s⟩ rfl (by simp) (by omega) hs ?_; intro A7 c7 w7 ho7 hg7)
          go_roundw
          case rel => exact ⟨j + 1, k + 1, A7, c7, by go_num, rfl, by omega, by have := HKK.out; omega, by rw [HST.out, ← List.append_assoc]; exact ho7, own_grown hB hown hs hg7⟩
          case measure => simp [intOf]; omega
        · obtain rfl : j = t := by omega
          rw [List.take_of_length_le (by rw [HN.out]; exact Nat.le_refl _)] at hown
          have hown1 := hown
          have hB1 := hB
          have HK1 := HKK
          obtain ⟨k1, hk1⟩ : ∃ k1, k = k1 := ⟨_, rfl⟩
          rw [hk1] at hown1 HK1 hkb ⊢
          clear hown hB HKK hk1 hlt hj
          go_wp2_with fail
          go_loopw [4, 6] (fun o i wr => ∃ (q k : Nat) (A : Option Addr) (c : Nat), i = .int .i64 q ∧ o = .slice A k c ∧ q ≤ j ∧ k = k1 + q ∧ wr.ownsRow W0.heap.size 64 4 (.slice A k c) k (flc ((H0 ++ cols.map cfld) ++ (types.take q).map tfld)) ∧ Below W0.heap.size W0 wr) (fun _ i _ => j - (intOf i).toNat)
          case atStart => exact ⟨0, k1, A, c, rfl, rfl, Nat.zero_le _, rfl, by simpa using hown1, hB1⟩
          case round =>
            clear hown1 hB1 x0 x1 x2
            obtain ⟨q2, k, A, c, rfl, rfl, hq2, hk, hown, hB⟩ := hrel
            have hs := hB.size
            have hkc : k ≤ 200 := by omega
            have HKK := Lib.hid hk
            clear hk
            obtain ⟨x0, x1, x2⟩ := (hD0.below hB).cells
            by_cases hlt : q2 < j
            · obtain ⟨s, hsj⟩ : ∃ s, types[q2]? = some s := ⟨_, List.getElem?_eq_getElem (by rw [HT.out]; exact hlt)⟩
              obtain ⟨b1, o1, rfl, hb1, g0⟩ := one_at (hdA.r2.below hB (Nat.le_refl _)) hsj
              have ht32 := HOK.out.ty s (List.mem_of_getElem? hsj)
              have HST : Hid ((types.take (q2 + 1)).map tfld = (types.take q2).map tfld ++ [⟨3, 0, s, ⟨#[]⟩⟩]) := Lib.hid (by rw [List.take_add_one, hsj]; simp [tfld])
              clear hsj
              go_wp2_with (at_builtin; refine wpList_appF1 rfl _ _ rfl rfl hown ⟨3, 0, s, ⟨#[]⟩⟩ rfl (by simp) (by omega) hs ?_; intro A7 c7 w7 ho7 hg7)
              go_roundw
              case rel => exact ⟨q2 + 1, k + 1, A7, c7, by go_num, rfl, by omega, by have := HKK.out; omega, by rw [HST.out, ← List.append_assoc]; exact ho7, own_grown hB hown hs hg7⟩
              case measure => simp [intOf]; omega
            · obtain rfl : q2 = j := by omega
              rw [List.take_of_length_le (by rw [HT.out]; exact Nat.le_refl _)] at hown
              obtain ⟨H, hH⟩ : ∃ H, dhead cols types = H := ⟨_, rfl⟩
              rw [HH0.out, hH] at hown
              have hHk : H.length = k := by
                have e1 := HKK.out
                have e2 := HK1.out
                have e3 := HN.out
                have e4 := HT.out
                have e5 := HKL.out
                rw [← hH, ← HH0.out]
                simp only [List.length_append, List.length_map]
                omega
              have HH := Lib.hid hH
              have HK0 := Lib.hid hHk
              have hown1 := hown
              have hB1 := hB
              obtain ⟨k2, hk2⟩ : ∃ k2, k = k2 := ⟨_, rfl⟩
              rw [hk2] at hown1 HK0 hkc ⊢
              have HKB2 := Lib.hid hkc
              clear hown hB HKK hlt hq2 hH hHk hk2 hkb HKB HKL HK1 HH0 hkc
              go_wp2_with fail
              go_loopw [4, 7] (fun o i wr => ∃ (j k : Nat) (A : Option Addr) (c : Nat), i = .int .i64 j ∧ o = .slice A k c ∧ j ≤ m ∧ k = k2 + j ∧ wr.ownsRow W0.heap.size 64 4 (.slice A k c) k (flc (H ++ ((rows.map RowH.vals).take j).map drfl)) ∧ derrs cols.length (rows.map RowH.vals) = derrs cols.length ((rows.map RowH.vals).drop j) ∧ Below W0.heap.size W0 wr) (fun _ i _ => m - (intOf i).toNat)
              case atStart => exact ⟨0, k2, A, c, rfl, rfl, Nat.zero_le _, rfl, by simpa using hown1, rfl, hB1⟩
              case round =>
                clear hown1 hB1 x0 x1 x2
                obtain ⟨j, k, A, c, rfl, rfl, hj, hk, hown, he, hB⟩ := hrel
                have hs := hB.size
                have hm32 : m ≤ 32 := H16.out.2
                have hkb : k ≤ 300 := by have := HKB2.out; omega
                have HKK := Lib.hid hk
                have HE := Lib.hid he
                clear hk he
                obtain ⟨x0, x1, x2⟩ := (hD0.below hB).cells
                by_cases hlt : j < m
                · obtain ⟨r, hr⟩ : ∃ r, rows[j]? = some r := ⟨_, List.getElem?_eq_getElem (by rw [HM.out]; exact hlt)⟩
                  have HLT := Lib.hid hlt
                  have hrm := List.mem_of_getElem? hr
                  have hrj : (rows.map RowH.vals)[j]? = some r.vals := by rw [List.getElem?_map, hr]; rfl
                  have hrd := (hdA.rs r hrm).below hB (Nat.le_refl _)
                  have hvok := HOK.out.vs r hrm
                  have hdd := drop_cons hrj
                  have HST : Hid (((rows.map RowH.vals).take (j + 1)).map drfl = ((rows.map RowH.vals).take j).map drfl ++ [drfl r.vals]) := Lib.hid (by rw [List.take_add_one, hrj]; simp)
                  have HDE : Hid (derrs cols.length (rows.map RowH.vals) = if r.vals.length = q2 then (if (drow r.vals).2 = 0 then derrs cols.length ((rows.map RowH.vals).drop (j + 1)) else (drow r.vals).2) else 4) := Lib.hid (by rw [HE.out, hdd, derrs, HN.out])
                  have hr3 : Rd wr W0.heap.size A3 (rcl rows) := hdA.r3.below hB (Nat.le_refl _)
                  obtain ⟨b1, o1, rfl, hb1, g0⟩ := one_at hr3 hr
                  obtain ⟨adr, cap, vals⟩ := r
                  simp only at g0 hvok hrd
                  obtain ⟨L, hL⟩ : ∃ L, vals.length = L := ⟨_, rfl⟩
                  rw [hL] at g0
                  simp only [hL] at HDE
                  have HL := Lib.hid hL
                  clear hrj hdd hr hrm hr3 HE hL
                  have hfail : ∀ e : Int, ¬ e = 0 → derrs cols.length (rows.map RowH.vals) = e → q = ([], e) := fun e h0 h1 => by rw [HQ2.out, h1, if_neg h0]
                  have HFAIL := Lib.hid hfail
                  clear hfail
                  by_cases hLt : L = q2
                  · subst hLt
                    have HDE2 := Lib.hid (show derrs cols.length (rows.map RowH.vals) = if (drow vals).2 = 0 then derrs cols.length ((rows.map RowH.vals).drop (j + 1)) else (drow vals).2 by have := HDE.out; rwa [if_pos rfl] at this)
                    have hrow := fun W hW => rdrow_any vals adr cap (by rw [HL.out]; have := H16.out.1; omega) hvok W hW
                    rw [HL.out] at hrow
                    unfold BPost at hrow
                    have HF : Hid (drfl vals = ⟨4, 2, 0, ⟨(drow vals).1.toArray⟩⟩) := Lib.hid rfl
                    obtain ⟨cq, hcq⟩ : ∃ cq, drow vals = cq := ⟨_, rfl⟩
                    rw [hcq] at hrow HDE2 HF
                    obtain ⟨cb, ce⟩ := cq
                    simp only at hrow HDE2 HF
                    clear hcq HDE hvok
                    go_wp2_with fail
                    go_quiet (fail)
                    have hB2 : Below W0.heap.size W0 (wr.drewN nq) := below_drewN hB nq
                    have hown2 : (wr.drewN nq).ownsRow W0.heap.size 64 4 (.slice A k c) k (flc (H ++ ((rows.map RowH.vals).take j).map drfl)) := hown
                    have hrd2 : Rd (wr.drewN nq) W0.heap.size adr (vvl vals) := hrd
                    have g02 : (wr.drewN nq).cell? ⟨b1, o1 + j, none⟩ = some (.slice adr L cap) := g0
                    have hs2 : W0.heap.size ≤ (wr.drewN nq).heap.size := hs
                    clear hB hown hrd g0 x0 x1 x2 hs
                    generalize wr.drewN nq = W3 at *
                    obtain ⟨x0, x1, x2⟩ := (hD0.below hB2).cells
                    go_wp2_with fail
                    refine (hrow W3 (hrd2.more hs2)).mono ?_
                    rintro e w4 ⟨A6, c6, rfl, ho6, hB6⟩
                    have hown3 := own_kept hown2 hB6 (Nat.le_refl _)
                    have hB7 := hB2.trans (hB6.mono hs2)
                    have hs7 := hB7.size
                    clear hrow hown2 hrd2 g02 hs2 hB2 hB6 x0 x1 x2
                    by_cases h0 : ce = 0
                    · subst h0
                      have hst := strB (Rd.of_own ho6) rfl c6
                      have HD3 : Hid (derrs cols.length (rows.map RowH.vals) = derrs cols.length ((rows.map RowH.vals).drop (j + 1))) := Lib.hid (by have := HDE2.out; rwa [if_pos rfl] at this)
                      clear ho6 HDE2 HFAIL
                      go_wp2_with (at_builtin; refine wpList_appF1 rfl _ _ rfl rfl hown3 ⟨4, 2, 0, ⟨cb.toArray⟩⟩ rfl (by simp) (by omega) hs7 ?_; intro A7 c7 w7 ho7 hg7)
                      go_roundw
                      case rel => exact ⟨j + 1, k + 1, A7, c7, by go_num, rfl, by have := HLT.out; omega, by have := HKK.out; omega, by rw [HST.out, HF.out, ← List.append_assoc]; exact ho7, HD3.out, own_grown hB7 hown3 hs7 hg7⟩
                      case measure => have := HLT.out; simp [intOf]; omega
                    · have hbe : (ce != 0) = true := by simpa using h0
                      have HQ3 := Lib.hid (HFAIL.out ce h0 (by have := HDE2.out; rwa [if_neg h0] at this))
                      clear h0 ho6 HDE2 HFAIL
                      go_wp2_with fail
                      go_ret2
                      exact bpost_err HQ3.out (bel_step hE0 hB7)
                  · have hbe : ((L : Int) != (q2 : Int)) = true := by simp; omega
                    have HQ3 := Lib.hid (HFAIL.out 4 (by decide) (by have := HDE.out; rwa [if_neg hLt] at this))
                    clear hLt HFAIL HDE
                    go_wp2_with fail
                    go_quiet (fail)
                    go_wp2_with fail
                    go_ret2
                    exact bpost_err HQ3.out (bel_step hE0 (below_drewN hB nq))
                · obtain rfl : j = m := by omega
                  have hrl : (rows.map RowH.vals).length = j := by rw [List.length_map]; exact HM.out
                  have hz : derrs cols.length (rows.map RowH.vals) = 0 := by rw [HE.out, List.drop_eq_nil_of_le (by rw [hrl]; exact Nat.le_refl _)]; rfl
                  rw [List.take_of_length_le (by rw [hrl]; exact Nat.le_refl _)] at hown
                  obtain ⟨l, hl⟩ : ∃ l, H ++ (rows.map RowH.vals).map drfl = l := ⟨_, rfl⟩
                  have hq : q = wput l := by rw [HQ2.out, if_pos hz, HH.out, hl]
                  have hll : l.length = k := by rw [← hl, List.length_append, HK0.out, List.length_map, hrl, ← HKK.out]
                  have hlok : ∀ f ∈ l, FldOk f := by
                    rw [← hl, ← HH.out]
                    exact dput_flds (by rw [HN.out]; exact H16.out.1) HOK.out.ty _
                  rw [hl] at hown
                  have hput := rputs_any l A c (by omega) hlok wr (Rd.of_own hown)
                  have hput2 : Calls Tryd.prog 32 #[.slice A l.length c] wr (BPost (wput l) wr) := hput
                  rw [← hq, hll] at hput2
                  have hW := bel_step hE0 hB
                  clear hput hlok hq hll hl hz hrl hlt hown HE
                  go_wp2_with fail
                  refine hput2.mono ?_
                  rintro e w5 ⟨A5, c5, rfl, ho5, hB5⟩
                  go_wp2_with fail
                  go_ret2
                  exact ⟨A5, c5, rfl, own_base ho5 hW.size, bel_step hW hB5⟩
    · have ht0b : 0 < t := by omega
      have HH0 : Hid ([⟨1, 0, t, ⟨#[]⟩⟩] ++ cols.map cfld ++ types.map tfld = dhead cols types) := Lib.hid (by unfold dhead; rw [HN.out, if_neg ht0]; rfl)
      have HKL : Hid ([(⟨1, 0, t, ⟨#[]⟩⟩ : Fld)].length = 1) := Lib.hid rfl
      have HKB : Hid (1 ≤ 1) := Lib.hid (by omega)
      have hnil := World.ownsRow_nil (w.alloc (Obj.cells #[.slice A1 t c1, .slice A2 t c2, .slice A3 m c3] 26)) (w.alloc (Obj.cells #[.slice A1 t c1, .slice A2 t c2, .slice A3 m c3] 26)).heap.size 64 4
      clear ht0
      go_wp2_with (at_builtin; refine wpList_appF1 (l := []) rfl _ _ rfl rfl hnil ⟨1, 0, t, ⟨#[]⟩⟩ rfl (by simp) (by omega) (Nat.le_refl _) ?_; intro A5 c5 w5 ho5 hg5; have hB0 := own_grown (Below.refl _ _) hnil (Nat.le_refl _) hg5; obtain ⟨x0, x1, x2⟩ := (hD0.below hB0).cells; clear hg5 hnil ht0b)
      generalize hW0 : w.alloc (Obj.cells #[.slice A1 t c1, .slice A2 t c2, .slice A3 m c3] 26) = W0 at *
      have hown0 : w5.ownsRow W0.heap.size 64 4 (.slice A5 1 c5) 1 (flc [⟨1, 0, t, ⟨#[]⟩⟩]) := ho5
      obtain ⟨H0, hH0⟩ : ∃ H0 : List Fld, [⟨1, 0, t, ⟨#[]⟩⟩] = H0 := ⟨_, rfl⟩
      rw [hH0] at HH0 HKL hown0
      clear ho5 hW0 hH0
      go_wp2_with fail
      go_loopw [4, 5] (fun o i wr => ∃ (j k : Nat) (A : Option Addr) (c : Nat), i = .int .i64 j ∧ o = .slice A k c ∧ j ≤ t ∧ k = 1 + j ∧ wr.ownsRow W0.heap.size 64 4 (.slice A k c) k (flc (H0 ++ (cols.take j).map cfld)) ∧ Below W0.heap.size W0 wr) (fun _ i _ => t - (intOf i).toNat)
      case atStart => exact ⟨0, 1, A5, c5, rfl, rfl, Nat.zero_le _, rfl, by simpa using hown0, hB0⟩
      case round =>
        clear hown0 hB0 x0 x1 x2
        obtain ⟨j, k, A, c, rfl, rfl, hj, hk, hown, hB⟩ := hrel
        have hs := hB.size
        have hkb : k ≤ 100 := by have := HKB.out; omega
        have HKK := Lib.hid hk
        clear hk
        obtain ⟨x0, x1, x2⟩ := (hD0.below hB).cells
        by_cases hlt : j < t
        · obtain ⟨s, hsj⟩ : ∃ s, cols[j]? = some s := ⟨_, List.getElem?_eq_getElem (by rw [HN.out]; exact hlt)⟩
          obtain ⟨b1, o1, rfl, hb1, g0⟩ := one_at (hdA.r1.below hB (Nat.le_refl _)) hsj
          have HST : Hid ((cols.take (j + 1)).map cfld = (cols.take j).map cfld ++ [⟨2, 2, 0, s⟩]) := Lib.hid (by rw [List.take_add_one, hsj]; simp [cfld])
          clear hsj
          go_wp2_with (at_builtin; refine wpList_appF1 rfl _ _ rfl rfl hown ⟨2, 2, 0, s⟩ rfl (by simp) (by omega) hs ?_; intro A7 c7 w7 ho7 hg7)
          go_roundw
          case rel => exact ⟨j + 1, k + 1, A7, c7, by go_num, rfl, by omega, by have := HKK.out; omega, by rw [HST.out, ← List.append_assoc]; exact ho7, own_grown hB hown hs hg7⟩
          case measure => simp [intOf]; omega
        · obtain rfl : j = t := by omega
          rw [List.take_of_length_le (by rw [HN.out]; exact Nat.le_refl _)] at hown
          have hown1 := hown
          have hB1 := hB
          have HK1 := HKK
          obtain ⟨k1, hk1⟩ : ∃ k1, k = k1 := ⟨_, rfl⟩
          rw [hk1] at hown1 HK1 hkb ⊢
          clear hown hB HKK hk1 hlt hj
          go_wp2_with fail
          go_loopw [4, 6] (fun o i wr => ∃ (q k : Nat) (A : Option Addr) (c : Nat), i = .int .i64 q ∧ o = .slice A k c ∧ q ≤ j ∧ k = k1 + q ∧ wr.ownsRow W0.heap.size 64 4 (.slice A k c) k (flc ((H0 ++ cols.map cfld) ++ (types.take q).map tfld)) ∧ Below W0.heap.size W0 wr) (fun _ i _ => j - (intOf i).toNat)
          case atStart => exact ⟨0, k1, A, c, rfl, rfl, Nat.zero_le _, rfl, by simpa using hown1, hB1⟩
          case round =>
            clear hown1 hB1 x0 x1 x2
            obtain ⟨q2, k, A, c, rfl, rfl, hq2, hk, hown, hB⟩ := hrel
            have hs := hB.size
            have hkc : k ≤ 200 := by omega
            have HKK := Lib.hid hk
            clear hk
            obtain ⟨x0, x1, x2⟩ := (hD0.below hB).cells
            by_cases hlt : q2 < j
            · obtain ⟨s, hsj⟩ : ∃ s, types[q2]? = some s := ⟨_, List.getElem?_eq_getElem (by rw [HT.out]; exact hlt)⟩
              obtain ⟨b1, o1, rfl, hb1, g0⟩ := one_at (hdA.r2.below hB (Nat.le_refl _)) hsj
              have ht32 := HOK.out.ty s (List.mem_of_getElem? hsj)
              have HST : Hid ((types.take (q2 + 1)).map tfld = (types.take q2).map tfld ++ [⟨3, 0, s, ⟨#[]⟩⟩]) := Lib.hid (by rw [List.take_add_one, hsj]; simp [tfld])
              clear hsj
              go_wp2_with (at_builtin; refine wpList_appF1 rfl _ _ rfl rfl hown ⟨3, 0, s, ⟨#[]⟩⟩ rfl (by simp) (by omega) hs ?_; intro A7 c7 w7 ho7 hg7)
              go_roundw
              case rel => exact ⟨q2 + 1, k + 1, A7, c7, by go_num, rfl, by omega, by have := HKK.out; omega, by rw [HST.out, ← List.append_assoc]; exact ho7, own_grown hB hown hs hg7⟩
              case measure => simp [intOf]; omega
            · obtain rfl : q2 = j := by omega
              rw [List.take_of_length_le (by rw [HT.out]; exact Nat.le_refl _)] at hown
              obtain ⟨H, hH⟩ : ∃ H, dhead cols types = H := ⟨_, rfl⟩
              rw [HH0.out, hH] at hown
              have hHk : H.length = k := by
                have e1 := HKK.out
                have e2 := HK1.out
                have e3 := HN.out
                have e4 := HT.out
                have e5 := HKL.out
                rw [← hH, ← HH0.out]
                simp only [List.length_append, List.length_map]
                omega
              have HH := Lib.hid hH
              have HK0 := Lib.hid hHk
              have hown1 := hown
              have hB1 := hB
              obtain ⟨k2, hk2⟩ : ∃ k2, k = k2 := ⟨_, rfl⟩
              rw [hk2] at hown1 HK0 hkc ⊢
              have HKB2 := Lib.hid hkc
              clear hown hB HKK hlt hq2 hH hHk hk2 hkb HKB HKL HK1 HH0 hkc
              go_wp2_with fail
              go_loopw [4, 7] (fun o i wr => ∃ (j k : Nat) (A : Option Addr) (c : Nat), i = .int .i64 j ∧ o = .slice A k c ∧ j ≤ m ∧ k = k2 + j ∧ wr.ownsRow W0.heap.size 64 4 (.slice A k c) k (flc (H ++ ((rows.map RowH.vals).take j).map drfl)) ∧ derrs cols.length (rows.map RowH.vals) = derrs cols.length ((rows.map RowH.vals).drop j) ∧ Below W0.heap.size W0 wr) (fun _ i _ => m - (intOf i).toNat)
              case atStart => exact ⟨0, k2, A, c, rfl, rfl, Nat.zero_le _, rfl, by simpa using hown1, rfl, hB1⟩
              case round =>
                clear hown1 hB1 x0 x1 x2
                obtain ⟨j, k, A, c, rfl, rfl, hj, hk, hown, he, hB⟩ := hrel
                have hs := hB.size
                have hm32 : m ≤ 32 := H16.out.2
                have hkb : k ≤ 300 := by have := HKB2.out; omega
                have HKK := Lib.hid hk
                have HE := Lib.hid he
                clear hk he
                obtain ⟨x0, x1, x2⟩ := (hD0.below hB).cells
                by_cases hlt : j < m
                · obtain ⟨r, hr⟩ : ∃ r, rows[j]? = some r := ⟨_, List.getElem?_eq_getElem (by rw [HM.out]; exact hlt)⟩
                  have HLT := Lib.hid hlt
                  have hrm := List.mem_of_getElem? hr
                  have hrj : (rows.map RowH.vals)[j]? = some r.vals := by rw [List.getElem?_map, hr]; rfl
                  have hrd := (hdA.rs r hrm).below hB (Nat.le_refl _)
                  have hvok := HOK.out.vs r hrm
                  have hdd := drop_cons hrj
                  have HST : Hid (((rows.map RowH.vals).take (j + 1)).map drfl = ((rows.map RowH.vals).take j).map drfl ++ [drfl r.vals]) := Lib.hid (by rw [List.take_add_one, hrj]; simp)
                  have HDE : Hid (derrs cols.length (rows.map RowH.vals) = if r.vals.length = q2 then (if (drow r.vals).2 = 0 then derrs cols.length ((rows.map RowH.vals).drop (j + 1)) else (drow r.vals).2) else 4) := Lib.hid (by rw [HE.out, hdd, derrs, HN.out])
                  have hr3 : Rd wr W0.heap.size A3 (rcl rows) := hdA.r3.below hB (Nat.le_refl _)
                  obtain ⟨b1, o1, rfl, hb1, g0⟩ := one_at hr3 hr
                  obtain ⟨adr, cap, vals⟩ := r
                  simp only at g0 hvok hrd
                  obtain ⟨L, hL⟩ : ∃ L, vals.length = L := ⟨_, rfl⟩
                  rw [hL] at g0
                  simp only [hL] at HDE
                  have HL := Lib.hid hL
                  clear hrj hdd hr hrm hr3 HE hL
                  have hfail : ∀ e : Int, ¬ e = 0 → derrs cols.length (rows.map RowH.vals) = e → q = ([], e) := fun e h0 h1 => by rw [HQ2.out, h1, if_neg h0]
                  have HFAIL := Lib.hid hfail
                  clear hfail
                  by_cases hLt : L = q2
                  · subst hLt
                    have HDE2 := Lib.hid (show derrs cols.length (rows.map RowH.vals) = if (drow vals).2 = 0 then derrs cols.length ((rows.map RowH.vals).drop (j + 1)) else (drow vals).2 by have := HDE.out; rwa [if_pos rfl] at this)
                    have hrow := fun W hW => rdrow_any vals adr cap (by rw [HL.out]; have := H16.out.1; omega) hvok W hW
                    rw [HL.out] at hrow
                    unfold BPost at hrow
                    have HF : Hid (drfl vals = ⟨4, 2, 0, ⟨(drow vals).1.toArray⟩⟩) := Lib.hid rfl
                    obtain ⟨cq, hcq⟩ : ∃ cq, drow vals = cq := ⟨_, rfl⟩
                    rw [hcq] at hrow HDE2 HF
                    obtain ⟨cb, ce⟩ := cq
                    simp only at hrow HDE2 HF
                    clear hcq HDE hvok
                    go_wp2_with fail
                    go_quiet (fail)
                    have hB2 : Below W0.heap.size W0 (wr.drewN nq) := below_drewN hB nq
                    have hown2 : (wr.drewN nq).ownsRow W0.heap.size 64 4 (.slice A k c) k (flc (H ++ ((rows.map RowH.vals).take j).map drfl)) := hown
                    have hrd2 : Rd (wr.drewN nq) W0.heap.size adr (vvl vals) := hrd
                    have g02 : (wr.drewN nq).cell? ⟨b1, o1 + j, none⟩ = some (.slice adr L cap) := g0
                    have hs2 : W0.heap.size ≤ (wr.drewN nq).heap.size := hs
                    clear hB hown hrd g0 x0 x1 x2 hs
                    generalize wr.drewN nq = W3 at *
                    obtain ⟨x0, x1, x2⟩ := (hD0.below hB2).cells
                    go_wp2_with fail
                    refine (hrow W3 (hrd2.more hs2)).mono ?_
                    rintro e w4 ⟨A6, c6, rfl, ho6, hB6⟩
                    have hown3 := own_kept hown2 hB6 (Nat.le_refl _)
                    have hB7 := hB2.trans (hB6.mono hs2)
                    have hs7 := hB7.size
                    clear hrow hown2 hrd2 g02 hs2 hB2 hB6 x0 x1 x2
                    by_cases h0 : ce = 0
                    · subst h0
                      have hst := strB (Rd.of_own ho6) rfl c6
                      have HD3 : Hid (derrs cols.length (rows.map RowH.vals) = derrs cols.length ((rows.map RowH.vals).drop (j + 1))) := Lib.hid (by have := HDE2.out; rwa [if_pos rfl] at this)
                      clear ho6 HDE2 HFAIL
                      go_wp2_with (at_builtin; refine wpList_appF1 rfl _ _ rfl rfl hown3 ⟨4, 2, 0, ⟨cb.toArray⟩⟩ rfl (by simp) (by omega) hs7 ?_; intro A7 c7 w7 ho7 hg7)
                      go_roundw
                      case rel => exact ⟨j + 1, k + 1, A7, c7, by go_num, rfl, by have := HLT.out; omega, by have := HKK.out; omega, by rw [HST.out, HF.out, ← List.append_assoc]; exact ho7, HD3.out, own_grown hB7 hown3 hs7 hg7⟩
                      case measure => have := HLT.out; simp [intOf]; omega
                    · have hbe : (ce != 0) = true := by simpa using h0
                      have HQ3 := Lib.hid (HFAIL.out ce h0 (by have := HDE2.out; rwa [if_neg h0] at this))
                      clear h0 ho6 HDE2 HFAIL
                      go_wp2_with fail
                      go_ret2
                      exact bpost_err HQ3.out (bel_step hE0 hB7)
                  · have hbe : ((L : Int) != (q2 : Int)) = true := by simp; omega
                    have HQ3 := Lib.hid (HFAIL.out 4 (by decide) (by have := HDE.out; rwa [if_neg hLt] at this))
                    clear hLt HFAIL HDE
                    go_wp2_with fail
                    go_quiet (fail)
                    go_wp2_with fail
                    go_ret2
                    exact bpost_err HQ3.out (bel_step hE0 (below_drewN hB nq))
                · obtain rfl : j = m := by omega
                  have hrl : (rows.map RowH.vals).length = j := by rw [List.length_map]; exact HM.out
                  have hz : derrs cols.length (rows.map RowH.vals) = 0 := by rw [HE.out, List.drop_eq_nil_of_le (by rw [hrl]; exact Nat.le_refl _)]; rfl
                  rw [List.take_of_length_le (by rw [hrl]; exact Nat.le_refl _)] at hown
                  obtain ⟨l, hl⟩ : ∃ l, H ++ (rows.map RowH.vals).map drfl = l := ⟨_, rfl⟩
                  have hq : q = wput l := by rw [HQ2.out, if_pos hz, HH.out, hl]
                  have hll : l.length = k := by rw [← hl, List.length_append, HK0.out, List.length_map, hrl, ← HKK.out]
                  have hlok : ∀ f ∈ l, FldOk f := by
                    rw [← hl, ← HH.out]
                    exact dput_flds (by rw [HN.out]; exact H16.out.1) HOK.out.ty _
                  rw [hl] at hown
                  have hput := rputs_any l A c (by omega) hlok wr (Rd.of_own hown)
                  have hput2 : Calls Tryd.prog 32 #[.slice A l.length c] wr (BPost (wput l) wr) := hput
                  rw [← hq, hll] at hput2
                  have hW := bel_step hE0 hB
                  clear hput hlok hq hll hl hz hrl hlt hown HE
                  go_wp2_with fail
                  refine hput2.mono ?_
                  rintro e w5 ⟨A5, c5, rfl, ho5, hB5⟩
                  go_wp2_with fail
                  go_ret2
                  exact ⟨A5, c5, rfl, own_base ho5 hW.size, bel_step hW hB5⟩
  · have hb : ((t : Int) != (n : Int)) = true := by simp; omega
    have hq : q = ([], 4) := by rw [← HQ.out]; unfold dput; rw [if_neg hlow, if_neg (by rw [HT.out, HN.out]; exact h3)]
    have HQ2 := Lib.hid hq
    clear h3 hq h1 h2 hlow
    go_wp2_with fail
    go_ret2
    exact bpost_err HQ2.out hE0
end Go.Proofs.YtanfnjlndckhkaaDoor

/- LAW WALK: DatasetPuts -/
namespace Go.Proofs.YtanfnjlndckhkaaDoor
open Go.RowKit Plain

theorem rd_one {W : World} {b B : Nat} {v : Value} (hb : b < B) (h : W.cell? ⟨b, 0, none⟩ = some v) : Rd W B (some ⟨b, 0, none⟩) [v] := by
  refine .inr ⟨b, 0, rfl, hb, fun i hi => ?_⟩
  obtain rfl : i = 0 := by simpa using hi
  exact h
theorem rd_three {W : World} {b B : Nat} {x y z : Value} (hb : b < B) (h0 : W.cell? ⟨b, 0, none⟩ = some x) (h1 : W.cell? ⟨b, 1, none⟩ = some y) (h2 : W.cell? ⟨b, 2, none⟩ = some z) : Rd W B (some ⟨b, 0, none⟩) [x, y, z] := by
  refine .inr ⟨b, 0, rfl, hb, fun i hi => ?_⟩
  have h3 : i < 3 := by simpa using hi
  rcases (show i = 0 ∨ i = 1 ∨ i = 2 by omega) with rfl | rfl | rfl
  · exact h0
  · exact h1
  · exact h2
def dsx (n : Nat) : DS := ⟨some ⟨n, 0, none⟩, 1, [⟨#[97]⟩], some ⟨n + 1, 0, none⟩, 1, [3], some ⟨n + 1 + 1 + 1, 0, none⟩, 1, [⟨some ⟨n + 1 + 1, 0, none⟩, 1, [⟨1, 5, ⟨#[]⟩⟩]⟩]⟩
theorem dsx_ok (n : Nat) : DSOk (dsx n) := ⟨by simp [dsx], by simp [dsx], by simp [dsx], by simp [dsx], by simp [dsx], by intro r hr v hv; simp [dsx] at hr; subst hr; simp at hv; subst hv; exact ⟨by simp, by simp, by simp⟩⟩
theorem dsx_put : dput [⟨#[97]⟩] [3] [[⟨1, 5, ⟨#[]⟩⟩]] = ([8, 1, 18, 1, 97, 24, 3, 34, 4, 10, 2, 8, 5], 0) := by decide +kernel
set_option maxRecDepth 100000 in
set_option maxHeartbeats 2000000 in
theorem awake8_any (w : World) (hK : Kinds w) : Calls Tryd.prog 15 #[] w fun e w' => e = .returned (.bool true) ∧ Below w.heap.size w w' := by
  go_enter Tryd.func15, Tryd.ntmps15
  go_wp2_with fail
  have hE : Below w.heap.size w ((((w.alloc (.cells #[.string ⟨#[97]⟩] 9)).alloc (.cells #[.int .u32 3] 60)).alloc (.cells #[.int .i64 1, .int .u64 5, .string ⟨#[]⟩] 42)).alloc (.cells #[.slice (some ⟨w.heap.size + 1 + 1, 0, none⟩) 1 1] 45)) :=
    ((((Below.refl _ w).alloc (Nat.le_refl _) _).alloc (by simp) _).alloc (by simp; omega) _).alloc (by simp; omega) _
  have hA : (dsx w.heap.size).At ((((w.alloc (.cells #[.string ⟨#[97]⟩] 9)).alloc (.cells #[.int .u32 3] 60)).alloc (.cells #[.int .i64 1, .int .u64 5, .string ⟨#[]⟩] 42)).alloc (.cells #[.slice (some ⟨w.heap.size + 1 + 1, 0, none⟩) 1 1] 45)) (w.heap.size + 4) := by
    refine ⟨rd_one (by omega) (by go_simp), rd_one (by omega) (by go_simp), rd_one (by omega) (by go_simp), fun r hr => ?_⟩
    obtain rfl : r = _ := by simpa [dsx] using hr
    exact rd_three (by omega) (by go_simp) (by go_simp) (by go_simp)
  have hz : w.heap.size + 4 = ((((w.alloc (.cells #[.string ⟨#[97]⟩] 9)).alloc (.cells #[.int .u32 3] 60)).alloc (.cells #[.int .i64 1, .int .u64 5, .string ⟨#[]⟩] 42)).alloc (.cells #[.slice (some ⟨w.heap.size + 1 + 1, 0, none⟩) 1 1] 45)).heap.size := by simp
  rw [hz] at hA
  have hput := dput_any (dsx w.heap.size) (dsx_ok _) _ hA (hK.below hE hK.pos)
  have hput2 : BPost (dput [⟨#[97]⟩] [3] [[⟨1, 5, ⟨#[]⟩⟩]]) = BPost (dput (dsx w.heap.size).cols (dsx w.heap.size).types (dsx w.heap.size).plain) := rfl
  rw [← hput2, dsx_put] at hput
  unfold BPost at hput
  simp only [List.length_cons, List.length_nil] at hput
  clear hput2 hA hz
  refine hput.mono ?_
  rintro e w1 ⟨A, c, rfl, ho, hB⟩
  have hst := strB (Rd.of_own ho) rfl c
  simp only [List.length_cons, List.length_nil] at hst
  clear hput ho
  go_wp2_with fail
  go_ret
  exact ⟨rfl, bel_step hE hB⟩
set_option maxRecDepth 100000 in
set_option maxHeartbeats 2000000 in
theorem dputs_any (d : DS) (hok : DSOk d) (w : World) (hd : d.At w w.heap.size) (hK : Kinds w) :
    Calls Tryd.prog 3 #[d.agg] w fun e w' => e = .returned (.bool true) ∧ Below w.heap.size w w' := by
  have h1 := fun W (hB : Below w.heap.size w W) => dput_any d hok W ((hd.below hB (Nat.le_refl _)).more hB.size) (hK.below hB hK.pos)
  have h2 := fun W (hB : Below w.heap.size w W) => rdput_any d hok W ((hd.below hB (Nat.le_refl _)).more hB.size)
  obtain ⟨q, hq⟩ : ∃ q, dput d.cols d.types d.plain = q := ⟨_, rfl⟩
  rw [hq] at h1 h2
  obtain ⟨L, er⟩ := q
  obtain ⟨A1, c1, cols, A2, c2, types, A3, c3, rows⟩ := d
  unfold DS.agg BPost at h1 h2
  unfold DS.agg
  simp only at h1 h2 ⊢
  generalize cols.length = n1 at *
  generalize types.length = n2 at *
  generalize rows.length = n3 at *
  have HK := Lib.hid hK
  obtain ⟨N, hN⟩ : ∃ N, L.length = N := ⟨_, rfl⟩
  rw [hN] at h1 h2
  have HN := Lib.hid hN
  clear hd hok hq hK hN
  have hE0 : Below w.heap.size w (w.alloc (Obj.cells #[.slice A1 n1 c1, .slice A2 n2 c2, .slice A3 n3 c3] 26)) := (Below.refl _ w).alloc (Nat.le_refl _) _
  have hD0 : BoxD (w.alloc (Obj.cells #[.slice A1 n1 c1, .slice A2 n2 c2, .slice A3 n3 c3] 26)) w.heap.size (.slice A1 n1 c1) (.slice A2 n2 c2) (.slice A3 n3 c3) := World.alloc_heap_new w _
  go_enter Tryd.func3, Tryd.ntmps3
  go_wp2_with fail
  refine (h1 _ hE0).mono ?_
  rintro e w1 ⟨B1, d1, rfl, ho1, hB1⟩
  have hW1 := bel_step hE0 hB1
  obtain ⟨x0, x1, x2⟩ := (hD0.below hB1).cells
  clear h1 hD0 hE0
  go_wp2_with fail
  refine (h2 w1 hW1).mono ?_
  rintro e w2 ⟨B2, d2, rfl, ho2, hB2⟩
  have hW2 := bel_step hW1 hB2
  have hs1 := strB ((Rd.of_own ho1).below hB2 (Nat.le_refl _)) HN.out d1
  have hs2 := strB (Rd.of_own ho2) HN.out d2
  clear h2 ho1 ho2 hB1 hB2 hW1 x0 x1 x2
  go_wp2_with fail
  refine (awake8_any w2 (HK.out.below hW2 HK.out.pos)).mono ?_
  rintro e w3 ⟨rfl, hB3⟩
  go_wp2_with fail
  go_ret
  exact ⟨rfl, bel_step hW2 hB3⟩
end Go.Proofs.YtanfnjlndckhkaaDoor

/- WALKS: dataset.Cell, Column -/
namespace Go.Proofs.YtanfnjlndckhkaaDoor
open Go.RowKit Plain

set_option maxRecDepth 100000 in
set_option maxHeartbeats 2000000 in
/-- a place that is none -/
theorem cell_out (d : DS) (r c : Int) (hok : DSOk d) (w : World) (hd : d.At w w.heap.size) (hout : r < 0 ∨ (d.rows.length : Int) ≤ r) :
    Calls Tryd.prog 21 #[d.agg, .int .i64 r, .int .i64 c] w fun e w' => e = .returned (.tuple #[.agg VV.zero.cells, .bool false]) ∧ Below w.heap.size w w' := by
  obtain ⟨A1, c1, cols, A2, c2, types, A3, c3, rows⟩ := d
  simp only at hout
  have b3 := hok.l3
  simp only at b3
  clear hok hd
  unfold DS.agg
  simp only
  generalize cols.length = n1 at *
  generalize types.length = n2 at *
  generalize rows.length = n3 at *
  by_cases h0 : r < 0
  · clear hout
    go_enter Tryd.func21, Tryd.ntmps21
    go_wp2_with fail
    refine bodyPost_ret (v := .tuple #[.agg VV.zero.cells, .bool false]) ?_ rfl ⟨rfl, ?_⟩
    · rw [results_cell_tmp rfl]; go_simp; rfl
    · exact ((Below.refl _ w).alloc (Nat.le_refl _) _).alloc (by simp) _
  · have h1 : (n3 : Int) ≤ r := by omega
    clear hout
    go_enter Tryd.func21, Tryd.ntmps21
    go_wp2_with fail
    refine bodyPost_ret (v := .tuple #[.agg VV.zero.cells, .bool false]) ?_ rfl ⟨rfl, ?_⟩
    · rw [results_cell_tmp rfl]; go_simp; rfl
    · exact ((Below.refl _ w).alloc (Nat.le_refl _) _).alloc (by simp) _
set_option maxRecDepth 100000 in
set_option maxHeartbeats 2000000 in
/-- a place of a row that is there -/
theorem cell_in (d : DS) (j : Nat) (c : Int) (hok : DSOk d) (w : World) (hd : d.At w w.heap.size) (r : RowH) (hr : d.rows[j]? = some r) :
    (c < 0 ∨ (r.vals.length : Int) ≤ c → Calls Tryd.prog 21 #[d.agg, .int .i64 j, .int .i64 c] w fun e w' => e = .returned (.tuple #[.agg VV.zero.cells, .bool false]) ∧ Below w.heap.size w w') ∧
    (∀ (i : Nat) (v : VV), c = i → r.vals[i]? = some v → Calls Tryd.prog 21 #[d.agg, .int .i64 j, .int .i64 c] w fun e w' => e = .returned (.tuple #[.agg v.cells, .bool true]) ∧ Below w.heap.size w w') := by
  have hrs := hd.rs r (List.mem_of_getElem? hr)
  have hlt := (List.getElem?_eq_some_iff.1 hr).1
  have hl := hok.ls r (List.mem_of_getElem? hr)
  obtain ⟨A1, c1, cols, A2, c2, types, A3, c3, rows⟩ := d
  simp only at hlt hr
  have b3 := hok.l3
  have hr3 := hd.r3
  simp only at b3 hr3
  obtain ⟨b1, o1, rfl, hb1, g0⟩ := one_at hr3 hr
  clear hok hd hr hr3
  unfold DS.agg
  simp only
  generalize cols.length = n1 at *
  generalize types.length = n2 at *
  generalize rows.length = n3 at *
  obtain ⟨adr, cap, vals⟩ := r
  simp only at hrs hl g0 ⊢
  obtain ⟨L, hL⟩ : ∃ L, vals.length = L := ⟨_, rfl⟩
  rw [hL] at g0 hl ⊢
  have HL := Lib.hid hL
  have hlt2 : ¬ (n3 : Int) ≤ (j : Int) := by omega
  clear hL
  refine ⟨fun hout => ?_, fun i v hi hv => ?_⟩
  · clear hrs
    by_cases h0 : c < 0
    · clear hout
      go_enter Tryd.func21, Tryd.ntmps21
      go_wp2_with fail
      refine bodyPost_ret (v := .tuple #[.agg VV.zero.cells, .bool false]) ?_ rfl ⟨rfl, ?_⟩
      · rw [results_cell_tmp rfl]; go_simp; rfl
      · exact ((Below.refl _ w).alloc (Nat.le_refl _) _).alloc (by simp) _
    · have h1 : (L : Int) ≤ c := by omega
      clear hout
      go_enter Tryd.func21, Tryd.ntmps21
      go_wp2_with fail
      refine bodyPost_ret (v := .tuple #[.agg VV.zero.cells, .bool false]) ?_ rfl ⟨rfl, ?_⟩
      · rw [results_cell_tmp rfl]; go_simp; rfl
      · exact ((Below.refl _ w).alloc (Nat.le_refl _) _).alloc (by simp) _
  · subst hi
    have hiL : i < L := by rw [← HL.out]; exact (List.getElem?_eq_some_iff.1 hv).1
    have hiL2 : ¬ (L : Int) ≤ (i : Int) := by omega
    obtain ⟨b2, o2, rfl, hb2, e0, e1, e2⟩ := val_at hrs hv
    obtain ⟨k, n, s⟩ := v
    simp only at e0 e1 e2
    clear hrs hv
    go_enter Tryd.func21, Tryd.ntmps21
    go_wp2_with fail
    refine bodyPost_ret (v := .tuple #[.agg #[.int .i64 k, .int .u64 n, .string s], .bool true]) ?_ rfl ⟨rfl, ?_⟩
    · rw [results_cell_tmp rfl]; go_simp
    · exact ((Below.refl _ w).alloc (Nat.le_refl _) _).alloc (by simp) _
/-- the place of a text in a list, counted from k; -1: none -/
def sidx (s : ByteArray) : List ByteArray → Nat → Int
  | [], _ => -1
  | x :: l, k => if (s.toList == x.toList) = true then (k : Int) else sidx s l (k + 1)
set_option maxRecDepth 100000 in
set_option maxHeartbeats 2000000 in
theorem index_any (l : List ByteArray) (s : ByteArray) (A : Option Addr) (c : Nat) (hl : l.length ≤ 9223372036854775807) (w : World) (hr : Rd w w.heap.size A (scl l)) :
    Calls Tryd.prog 40 #[.slice A l.length c, .string s] w fun e w' => e = .returned (.int .i64 (sidx s l 0)) ∧ Below w.heap.size w w' := by
  obtain ⟨q, hq⟩ : ∃ q, sidx s l 0 = q := ⟨_, rfl⟩
  rw [hq]
  have HQ := Lib.hid hq
  have HR := Lib.hid hr
  obtain ⟨n, hn⟩ : ∃ n, l.length = n := ⟨_, rfl⟩
  rw [hn] at hl ⊢
  have HN := Lib.hid hn
  clear hq hr hn
  go_enter Tryd.func40, Tryd.ntmps40
  go_wp2_with fail
  go_loopw [8] (fun i wr => ∃ j : Nat, i = .int .i64 j ∧ j ≤ n ∧ sidx s (l.drop j) j = q ∧ wr = w) (fun i _ => n - (intOf i).toNat)
  case atStart => exact ⟨0, rfl, Nat.zero_le _, HQ.out, rfl⟩
  case round =>
    obtain ⟨j, rfl, hj, he, rfl⟩ := hrel
    have HE := Lib.hid he
    clear he
    by_cases hlt : j < n
    · obtain ⟨x, hx⟩ : ∃ x, l[j]? = some x := ⟨_, List.getElem?_eq_getElem (by rw [HN.out]; exact hlt)⟩
      obtain ⟨b1, o1, rfl, hb1, g0⟩ := one_at HR.out hx
      have he2 := HE.out
      rw [drop_cons hx, sidx] at he2
      clear hx HE
      by_cases heq : (s.toList == x.toList) = true
      · have hb := heq
        rw [if_pos heq] at he2
        have HE := Lib.hid he2
        clear he2 heq
        go_wp2_with fail
        go_ret
        exact ⟨ret_int HE.out, Below.refl _ _⟩
      · have hb : (s.toList == x.toList) = false := by simpa using heq
        rw [if_neg heq] at he2
        have HE := Lib.hid he2
        clear he2 heq
        go_wp2_with fail
        go_roundw
        case rel => exact ⟨j + 1, by go_num, by omega, HE.out, by trivial⟩
        case measure => simp [intOf]; omega
    · rw [List.drop_eq_nil_of_le (by rw [HN.out]; omega)] at HE
      have HE2 : Hid (-1 = q) := Lib.hid HE.out
      clear HE
      go_wp2_with fail
      go_ret
      exact ⟨ret_int HE2.out, Below.refl _ _⟩
set_option maxRecDepth 100000 in
set_option maxHeartbeats 2000000 in
theorem column_any (d : DS) (s : ByteArray) (hok : DSOk d) (w : World) (hd : d.At w w.heap.size) :
    Calls Tryd.prog 22 #[d.agg, .string s] w fun e w' => e = .returned (.int .i64 (sidx s d.cols 0)) ∧ Below w.heap.size w w' := by
  have hi := fun W (hB : Below w.heap.size w W) => index_any d.cols s d.A1 d.c1 hok.l1 W ((hd.r1.below hB (Nat.le_refl _)).more hB.size)
  obtain ⟨A1, c1, cols, A2, c2, types, A3, c3, rows⟩ := d
  unfold DS.agg
  simp only at hi ⊢
  generalize sidx s cols 0 = q at *
  generalize cols.length = n1 at *
  generalize types.length = n2 at *
  generalize rows.length = n3 at *
  clear hok hd
  have hE0 : Below w.heap.size w (w.alloc (Obj.cells #[.slice A1 n1 c1, .slice A2 n2 c2, .slice A3 n3 c3] 26)) := (Below.refl _ w).alloc (Nat.le_refl _) _
  go_enter Tryd.func22, Tryd.ntmps22
  go_wp2_with fail
  refine (hi _ hE0).mono ?_
  rintro e w1 ⟨rfl, hB1⟩
  go_wp2_with fail
  go_ret
  exact ⟨rfl, bel_step hE0 hB1⟩
end Go.Proofs.YtanfnjlndckhkaaDoor

/- WALKS: slices.Equal, EqualFunc -/
namespace Go.Proofs.YtanfnjlndckhkaaDoor
open Go.RowKit Plain

def alleq {α : Type} (f : α → α → Bool) : List α → List α → Bool
  | [], [] => true
  | a :: l, b :: m => f a b && alleq f l m
  | _, _ => false
theorem alleq_len {α : Type} {f : α → α → Bool} : ∀ {l m : List α}, ¬ l.length = m.length → alleq f l m = false := by
  intro l
  induction l with
  | nil => intro m h; cases m with
    | nil => exact absurd rfl h
    | cons b m => rfl
  | cons a l ih => intro m h; cases m with
    | nil => rfl
    | cons b m => rw [alleq, ih (by simpa using h), Bool.and_false]
theorem alleq_refl {α : Type} {f : α → α → Bool} (h : ∀ a, f a a = true) : ∀ l, alleq f l l = true := by
  intro l
  induction l with
  | nil => rfl
  | cons a l ih => rw [alleq, h a, ih]; rfl
theorem alleq_symm {α : Type} {f : α → α → Bool} (h : ∀ a b, f a b = f b a) : ∀ l m, alleq f l m = alleq f m l := by
  intro l
  induction l with
  | nil => intro m; cases m <;> rfl
  | cons a l ih => intro m; cases m with
    | nil => rfl
    | cons b m => rw [alleq, alleq, h a b, ih m]
def seq (x y : ByteArray) : Bool := x.toList == y.toList
def neq (x y : Nat) : Bool := (x : Int) == (y : Int)
def veq (x y : VV) : Bool := x.k == y.k && (((x.n : Int) == (y.n : Int)) && seq x.s y.s)
def req (x y : List VV) : Bool := alleq veq x y
theorem seq_refl (x : ByteArray) : seq x x = true := by simp [seq]
theorem seq_symm (x y : ByteArray) : seq x y = seq y x := by unfold seq; exact BEq.comm
theorem neq_refl (x : Nat) : neq x x = true := by simp [neq]
theorem neq_symm (x y : Nat) : neq x y = neq y x := by unfold neq; exact BEq.comm
theorem veq_refl (x : VV) : veq x x = true := by simp [veq, seq_refl]
theorem veq_symm (x y : VV) : veq x y = veq y x := by
  unfold veq
  rw [seq_symm x.s y.s, BEq.comm (a := x.k), BEq.comm (a := (x.n : Int))]
theorem req_refl (x : List VV) : req x x = true := alleq_refl veq_refl x
theorem req_symm (x y : List VV) : req x y = req y x := alleq_symm veq_symm x y
set_option maxRecDepth 100000 in
set_option maxHeartbeats 2000000 in
theorem eqs_any (l m : List ByteArray) (A1 A2 : Option Addr) (c1 c2 : Nat) (hl : l.length ≤ 9223372036854775807) (hm : m.length ≤ 9223372036854775807) (w : World) (hr1 : Rd w w.heap.size A1 (scl l)) (hr2 : Rd w w.heap.size A2 (scl m)) :
    Calls Tryd.prog 41 #[.slice A1 l.length c1, .slice A2 m.length c2] w fun e w' => e = .returned (.bool (alleq seq l m)) ∧ Below w.heap.size w w' := by
  obtain ⟨q, hq⟩ : ∃ q, alleq seq l m = q := ⟨_, rfl⟩
  rw [hq]
  have HQ := Lib.hid hq
  have HR1 := Lib.hid hr1
  have HR2 := Lib.hid hr2
  obtain ⟨n, hn⟩ : ∃ n, l.length = n := ⟨_, rfl⟩
  obtain ⟨n2, hn2⟩ : ∃ n, m.length = n := ⟨_, rfl⟩
  rw [hn] at hl ⊢
  rw [hn2] at hm ⊢
  have HN := Lib.hid hn
  have HN2 := Lib.hid hn2
  clear hq hr1 hr2 hn hn2
  by_cases hne : n = n2
  · subst hne
    go_enter Tryd.func41, Tryd.ntmps41
    go_wp2_with fail
    go_loopw [13] (fun i wr => ∃ j : Nat, i = .int .i64 j ∧ j ≤ n ∧ alleq seq (l.drop j) (m.drop j) = q ∧ Below w.heap.size w wr) (fun i _ => n - (intOf i).toNat)
    case atStart => exact ⟨0, rfl, Nat.zero_le _, HQ.out, Below.refl _ _⟩
    case round =>
      obtain ⟨j, rfl, hj, he, hB⟩ := hrel
      have HE := Lib.hid he
      clear he
      by_cases hlt : j < n
      · obtain ⟨x, hx⟩ : ∃ x, l[j]? = some x := ⟨_, List.getElem?_eq_getElem (by rw [HN.out]; exact hlt)⟩
        obtain ⟨y, hy⟩ : ∃ y, m[j]? = some y := ⟨_, List.getElem?_eq_getElem (by rw [HN2.out]; exact hlt)⟩
        obtain ⟨b1, o1, rfl, hb1, g0⟩ := one_at (HR1.out.below hB (Nat.le_refl _)) hx
        obtain ⟨b2, o2, rfl, hb2, g1⟩ := one_at (HR2.out.below hB (Nat.le_refl _)) hy
        have he2 := HE.out
        rw [drop_cons hx, drop_cons hy, alleq] at he2
        clear hx hy HE
        unfold seq at he2
        cases heq : (x.toList == y.toList)
        · rw [heq, Bool.false_and] at he2
          subst he2
          go_wp2_with fail
          go_quiet (fail)
          go_wp2_with fail
          go_ret
          exact ⟨rfl, below_drewN hB nq⟩
        · rw [heq, Bool.true_and] at he2
          have HE := Lib.hid he2
          clear he2
          go_wp2_with fail
          go_quiet (fail)
          go_wp2_with fail
          go_roundw
          case rel => exact ⟨j + 1, by go_num, by omega, HE.out, below_drewN hB nq⟩
          case measure => simp [intOf]; omega
      · rw [List.drop_eq_nil_of_le (by rw [HN.out]; omega), List.drop_eq_nil_of_le (by rw [HN2.out]; omega)] at HE
        have hq : true = q := HE.out
        subst hq
        clear HE
        go_wp2_with fail
        go_ret
        exact ⟨rfl, hB⟩
  · have hb : ((n : Int) != (n2 : Int)) = true := by simp; omega
    have hq : false = q := by rw [← HQ.out, alleq_len (by rw [HN.out, HN2.out]; exact hne)]
    subst hq
    clear hne
    go_enter Tryd.func41, Tryd.ntmps41
    go_wp2_with fail
    go_ret
    exact ⟨rfl, Below.refl _ _⟩
set_option maxRecDepth 100000 in
set_option maxHeartbeats 2000000 in
theorem equ_any (l m : List Nat) (A1 A2 : Option Addr) (c1 c2 : Nat) (hl : l.length ≤ 9223372036854775807) (hm : m.length ≤ 9223372036854775807) (w : World) (hr1 : Rd w w.heap.size A1 (ucl l)) (hr2 : Rd w w.heap.size A2 (ucl m)) :
    Calls Tryd.prog 42 #[.slice A1 l.length c1, .slice A2 m.length c2] w fun e w' => e = .returned (.bool (alleq neq l m)) ∧ Below w.heap.size w w' := by
  obtain ⟨q, hq⟩ : ∃ q, alleq neq l m = q := ⟨_, rfl⟩
  rw [hq]
  have HQ := Lib.hid hq
  have HR1 := Lib.hid hr1
  have HR2 := Lib.hid hr2
  obtain ⟨n, hn⟩ : ∃ n, l.length = n := ⟨_, rfl⟩
  obtain ⟨n2, hn2⟩ : ∃ n, m.length = n := ⟨_, rfl⟩
  rw [hn] at hl ⊢
  rw [hn2] at hm ⊢
  have HN := Lib.hid hn
  have HN2 := Lib.hid hn2
  clear hq hr1 hr2 hn hn2
  by_cases hne : n = n2
  · subst hne
    go_enter Tryd.func42, Tryd.ntmps42
    go_wp2_with fail
    go_loopw [13] (fun i wr => ∃ j : Nat, i = .int .i64 j ∧ j ≤ n ∧ alleq neq (l.drop j) (m.drop j) = q ∧ Below w.heap.size w wr) (fun i _ => n - (intOf i).toNat)
    case atStart => exact ⟨0, rfl, Nat.zero_le _, HQ.out, Below.refl _ _⟩
    case round =>
      obtain ⟨j, rfl, hj, he, hB⟩ := hrel
      have HE := Lib.hid he
      clear he
      by_cases hlt : j < n
      · obtain ⟨x, hx⟩ : ∃ x, l[j]? = some x := ⟨_, List.getElem?_eq_getElem (by rw [HN.out]; exact hlt)⟩
        obtain ⟨y, hy⟩ : ∃ y, m[j]? = some y := ⟨_, List.getElem?_eq_getElem (by rw [HN2.out]; exact hlt)⟩
        obtain ⟨b1, o1, rfl, hb1, g0⟩ := one_at (HR1.out.below hB (Nat.le_refl _)) hx
        obtain ⟨b2, o2, rfl, hb2, g1⟩ := one_at (HR2.out.below hB (Nat.le_refl _)) hy
        have he2 := HE.out
        rw [drop_cons hx, drop_cons hy, alleq] at he2
        clear hx hy HE
        unfold neq at he2
        cases heq : ((x : Int) == (y : Int))
        · rw [heq, Bool.false_and] at he2
          subst he2
          go_wp2_with fail
          go_quiet (fail)
          go_wp2_with fail
          go_ret
          exact ⟨rfl, below_drewN hB nq⟩
        · rw [heq, Bool.true_and] at he2
          have HE := Lib.hid he2
          clear he2
          go_wp2_with fail
          go_quiet (fail)
          go_wp2_with fail
          go_roundw
          case rel => exact ⟨j + 1, by go_num, by omega, HE.out, below_drewN hB nq⟩
          case measure => simp [intOf]; omega
      · rw [List.drop_eq_nil_of_le (by rw [HN.out]; omega), List.drop_eq_nil_of_le (by rw [HN2.out]; omega)] at HE
        have hq : true = q := HE.out
        subst hq
        clear HE
        go_wp2_with fail
        go_ret
        exact ⟨rfl, hB⟩
  · have hb : ((n : Int) != (n2 : Int)) = true := by simp; omega
    have hq : false = q := by rw [← HQ.out, alleq_len (by rw [HN.out, HN2.out]; exact hne)]
    subst hq
    clear hne
    go_enter Tryd.func42, Tryd.ntmps42
    go_wp2_with fail
    go_ret
    exact ⟨rfl, Below.refl _ _⟩
set_option maxRecDepth 100000 in
set_option maxHeartbeats 2000000 in
theorem eqv_any (l m : List VV) (A1 A2 : Option Addr) (c1 c2 : Nat) (hl : l.length ≤ 9223372036854775807) (hm : m.length ≤ 9223372036854775807) (w : World) (hr1 : Rd w w.heap.size A1 (vvl l)) (hr2 : Rd w w.heap.size A2 (vvl m)) :
    Calls Tryd.prog 45 #[.slice A1 l.length c1, .slice A2 m.length c2] w fun e w' => e = .returned (.bool (alleq veq l m)) ∧ Below w.heap.size w w' := by
  obtain ⟨q, hq⟩ : ∃ q, alleq veq l m = q := ⟨_, rfl⟩
  rw [hq]
  have HQ := Lib.hid hq
  have HR1 := Lib.hid hr1
  have HR2 := Lib.hid hr2
  obtain ⟨n, hn⟩ : ∃ n, l.length = n := ⟨_, rfl⟩
  obtain ⟨n2, hn2⟩ : ∃ n, m.length = n := ⟨_, rfl⟩
  rw [hn] at hl ⊢
  rw [hn2] at hm ⊢
  have HN := Lib.hid hn
  have HN2 := Lib.hid hn2
  clear hq hr1 hr2 hn hn2
  by_cases hne : n = n2
  · subst hne
    go_enter Tryd.func45, Tryd.ntmps45
    go_wp2_with fail
    go_loopw [13] (fun i wr => ∃ j : Nat, i = .int .i64 j ∧ j ≤ n ∧ alleq veq (l.drop j) (m.drop j) = q ∧ Below w.heap.size w wr) (fun i _ => n - (intOf i).toNat)
    case atStart => exact ⟨0, rfl, Nat.zero_le _, HQ.out, Below.refl _ _⟩
    case round =>
      obtain ⟨j, rfl, hj, he, hB⟩ := hrel
      have HE := Lib.hid he
      clear he
      by_cases hlt : j < n
      · obtain ⟨x, hx⟩ : ∃ x, l[j]? = some x := ⟨_, List.getElem?_eq_getElem (by rw [HN.out]; exact hlt)⟩
        obtain ⟨y, hy⟩ : ∃ y, m[j]? = some y := ⟨_, List.getElem?_eq_getElem (by rw [HN2.out]; exact hlt)⟩
        obtain ⟨b1, o1, rfl, hb1, g0, g1, g2⟩ := val_at (HR1.out.below hB (Nat.le_refl _)) hx
        obtain ⟨b2, o2, rfl, hb2, f0, f1, f2⟩ := val_at (HR2.out.below hB (Nat.le_refl _)) hy
        have he2 := HE.out
        rw [drop_cons hx, drop_cons hy, alleq] at he2
        clear hx hy HE
        obtain ⟨xk, xn, xs⟩ := x
        obtain ⟨yk, yn, ys⟩ := y
        unfold veq seq at he2
        simp only at he2 g0 g1 g2 f0 f1 f2
        have HE2 := Lib.hid he2
        clear he2
        cases e0 : (xk == yk) <;> cases e1 : ((xn : Int) == (yn : Int)) <;> cases e2 : (xs.toList == ys.toList)
        all_goals
          have he2 := HE2.out
          rw [e0, e1, e2] at he2
          simp only [Bool.and_self, Bool.and_true, Bool.true_and, Bool.false_and, Bool.and_false] at he2
        rotate_right
        · have HE := Lib.hid he2
          clear he2 HE2
          go_wp2_with fail
          go_quiet (fail)
          go_wp2_with fail
          go_roundw
          case rel => exact ⟨j + 1, by go_num, by omega, HE.out, below_drewN hB nq⟩
          case measure => simp [intOf]; omega
        all_goals
          subst he2
          clear HE2
          go_wp2_with fail
          go_quiet (fail)
          go_wp2_with fail
          go_ret
          exact ⟨rfl, below_drewN hB nq⟩
      · rw [List.drop_eq_nil_of_le (by rw [HN.out]; omega), List.drop_eq_nil_of_le (by rw [HN2.out]; omega)] at HE
        have hq : true = q := HE.out
        subst hq
        clear HE
        go_wp2_with fail
        go_ret
        exact ⟨rfl, hB⟩
  · have hb : ((n : Int) != (n2 : Int)) = true := by simp; omega
    have hq : false = q := by rw [← HQ.out, alleq_len (by rw [HN.out, HN2.out]; exact hne)]
    subst hq
    clear hne
    go_enter Tryd.func45, Tryd.ntmps45
    go_wp2_with fail
    go_ret
    exact ⟨rfl, Below.refl _ _⟩
end Go.Proofs.YtanfnjlndckhkaaDoor

/- PLAIN LAW: properties as bytes; how they lie in memory: a tree of lists. No program in sight but for types' numbers. -/
namespace Go.Proofs.YtanfnjlndckhkaaDoor
open Go.RowKit Plain

/-- a list of properties, each with its own list -/
inductive Ps where
  | nil
  | cons (key : ByteArray) (type : Nat) (null : Bool) (v : VV) (adr : Option Addr) (cap : Nat) (sub rest : Ps)
structure Pn where
  key : ByteArray
  type : Nat
  null : Bool
  v : VV
  adr : Option Addr
  cap : Nat
  sub : Ps
def Ps.list : Ps → List Pn
  | .nil => []
  | .cons k t n v a c s r => ⟨k, t, n, v, a, c, s⟩ :: r.list
def Pn.cells (p : Pn) : List Value := [.string p.key, .int .u32 p.type, .bool p.null, .int .i64 p.v.k, .int .u64 p.v.n, .string p.v.s, .slice p.adr p.sub.list.length p.cap]
def Pn.agg (p : Pn) : Value := .agg #[.string p.key, .int .u32 p.type, .bool p.null, .int .i64 p.v.k, .int .u64 p.v.n, .string p.v.s, .slice p.adr p.sub.list.length p.cap]
def pcl (l : List Pn) : List Value := l.flatMap Pn.cells
theorem Ps.ind {M : Ps → Prop} (h : ∀ l : Ps, (∀ p ∈ l.list, M p.sub) → M l) : ∀ l, M l := by
  have : ∀ l : Ps, M l ∧ ∀ p ∈ l.list, M p.sub := by
    intro l
    induction l with
    | nil => exact ⟨h _ (by simp [Ps.list]), by simp [Ps.list]⟩
    | cons k t n v a c s r ih1 ih2 =>
      have hm : ∀ p ∈ (Ps.cons k t n v a c s r).list, M p.sub := by
        intro p hp
        rcases List.mem_cons.1 hp with rfl | hp
        · exact ih1.1
        · exact ih2.2 p hp
      exact ⟨h _ hm, hm⟩
  exact fun l => (this l).1
/-- each list below lies in memory -/
def Ps.Subs (W : World) (B : Nat) : Ps → Prop
  | .nil => True
  | .cons _ _ _ _ a _ s r => Rd W B a (pcl s.list) ∧ s.Subs W B ∧ r.Subs W B
def Ps.Ok : Ps → Prop
  | .nil => True
  | .cons _ t _ v _ _ s r => t < 4294967296 ∧ VVOk v ∧ s.list.length ≤ 9223372036854775807 ∧ s.Ok ∧ r.Ok
theorem Ps.subs_mem {W : World} {B : Nat} : ∀ {l : Ps}, l.Subs W B → ∀ p ∈ l.list, Rd W B p.adr (pcl p.sub.list) ∧ p.sub.Subs W B := by
  intro l
  induction l with
  | nil => intro _ p hp; cases hp
  | cons k t n v a c s r ih1 ih2 =>
    intro h p hp
    rcases List.mem_cons.1 hp with rfl | hp
    · exact ⟨h.1, h.2.1⟩
    · exact ih2 h.2.2 p hp
theorem Ps.ok_mem : ∀ {l : Ps}, l.Ok → ∀ p ∈ l.list, p.type < 4294967296 ∧ VVOk p.v ∧ p.sub.list.length ≤ 9223372036854775807 ∧ p.sub.Ok := by
  intro l
  induction l with
  | nil => intro _ p hp; cases hp
  | cons k t n v a c s r ih1 ih2 =>
    intro h p hp
    rcases List.mem_cons.1 hp with rfl | hp
    · exact ⟨h.1, h.2.1, h.2.2.1, h.2.2.2.1⟩
    · exact ih2 h.2.2.2.2 p hp
theorem Ps.Subs.keep {W W' : World} {B B' : Nat} (hk : ∀ A xs, Rd W B A xs → Rd W' B' A xs) : ∀ {l : Ps}, l.Subs W B → l.Subs W' B' := by
  intro l
  induction l with
  | nil => exact id
  | cons k t n v a c s r ih1 ih2 => exact fun h => ⟨hk _ _ h.1, ih1 h.2.1, ih2 h.2.2⟩
/-- a list of properties lies there -/
structure Ps.At (l : Ps) (W : World) (B : Nat) (A : Option Addr) : Prop where
  rd : Rd W B A (pcl l.list)
  subs : l.Subs W B
theorem Ps.At.below {l : Ps} {W W' : World} {B C : Nat} {A : Option Addr} (h : l.At W B A) (hb : Below C W W') (hC : B ≤ C) : l.At W' B A := ⟨h.rd.below hb hC, h.subs.keep fun _ _ r => r.below hb hC⟩
theorem Ps.At.more {l : Ps} {W : World} {B C : Nat} {A : Option Addr} (h : l.At W B A) (hC : B ≤ C) : l.At W C A := ⟨h.rd.more hC, h.subs.keep fun _ _ r => r.more hC⟩
theorem Ps.At.sub {l : Ps} {W : World} {B : Nat} {A : Option Addr} (h : l.At W B A) {p : Pn} (hp : p ∈ l.list) : p.sub.At W B p.adr := ⟨(Ps.subs_mem h.subs p hp).1, (Ps.subs_mem h.subs p hp).2⟩
theorem pcl_len (l : List Pn) : (pcl l).length = 7 * l.length := by
  induction l with
  | nil => rfl
  | cons f l ih => simp only [pcl, List.flatMap_cons, List.length_append, List.length_cons] at *; rw [ih]; simp [Pn.cells]; omega
theorem pcl_at : ∀ {l : List Pn} {i : Nat} {f : Pn}, l[i]? = some f → ∀ j, j < 7 → (pcl l)[7 * i + j]? = f.cells[j]? := by
  intro l
  induction l with
  | nil => intro i f h; simp at h
  | cons g l ih =>
    intro i f h j hj
    simp only [pcl, List.flatMap_cons]
    cases i with
    | zero =>
      obtain rfl : g = f := by simpa using h
      rw [List.getElem?_append_left (by simp [Pn.cells]; omega)]
      simp
    | succ i =>
      rw [List.getElem?_append_right (by simp [Pn.cells]; omega)]
      have := ih (by simpa using h) j hj
      rw [← this]
      congr 1
      simp [Pn.cells]; omega
/-- the cells of one property -/
structure PropAt (w : World) (b o : Nat) (p : Pn) : Prop where
  c0 : w.cell? ⟨b, o, none⟩ = some (.string p.key)
  c1 : w.cell? ⟨b, o + 1, none⟩ = some (.int .u32 p.type)
  c2 : w.cell? ⟨b, o + 2, none⟩ = some (.bool p.null)
  c3 : w.cell? ⟨b, o + 3, none⟩ = some (.int .i64 p.v.k)
  c4 : w.cell? ⟨b, o + 4, none⟩ = some (.int .u64 p.v.n)
  c5 : w.cell? ⟨b, o + 5, none⟩ = some (.string p.v.s)
  c6 : w.cell? ⟨b, o + 6, none⟩ = some (.slice p.adr p.sub.list.length p.cap)
theorem prop_at {w : World} {B : Nat} {A : Option Addr} {l : List Pn} {j : Nat} {p : Pn} (hr : Rd w B A (pcl l)) (hf : l[j]? = some p) :
    ∃ b o, A = some ⟨b, o, none⟩ ∧ b < B ∧ PropAt w b (o + j * 7) p := by
  have hlen := pcl_len l
  have hlt := (List.getElem?_eq_some_iff.1 hf).1
  obtain ⟨b, o, rfl, hb, hc⟩ := hr.some_ (by omega)
  have g : ∀ i, i < 7 → w.cell? ⟨b, o + j * 7 + i, none⟩ = p.cells[i]? := fun i hi => by
    rw [show o + j * 7 + i = o + (7 * j + i) by omega]; exact (hc _ (by omega)).trans (pcl_at hf i hi)
  exact ⟨b, o, rfl, hb, g 0 (by omega), g 1 (by omega), g 2 (by omega), g 3 (by omega), g 4 (by omega), g 5 (by omega), g 6 (by omega)⟩

/-- two lists are the same -/
def Ps.same : Ps → Ps → Bool
  | .nil, .nil => true
  | .cons k t n v _ _ s r, .cons k' t' n' v' _ _ s' r' => (((((seq k k' && neq t t') && (n == n')) && veq v v') && s.same s') && r.same r')
  | .nil, .cons .. => false
  | .cons .., .nil => false
def psame (p q : Pn) : Bool := ((((seq p.key q.key && neq p.type q.type) && (p.null == q.null)) && veq p.v q.v) && p.sub.same q.sub)
theorem Ps.same_list : ∀ (l m : Ps), l.same m = alleq psame l.list m.list := by
  intro l
  induction l with
  | nil => intro m; cases m <;> rfl
  | cons k t n v a c s r ih1 ih2 =>
    intro m
    cases m with
    | nil => rfl
    | cons k' t' n' v' a' c' s' r' => rw [Ps.same, ih2]; rfl

/-- how deep -/
def pone (v : VV) (n : Nat) : Nat := if v.k = 8 then 1 + max 1 n else 1
def Ps.depth : Ps → Nat
  | .nil => 0
  | .cons _ _ _ v _ _ s r => max (pone v s.depth) r.depth
def pdeep : List Pn → Nat
  | [] => 0
  | p :: l => max (pone p.v p.sub.depth) (pdeep l)
theorem Ps.depth_list : ∀ l : Ps, l.depth = pdeep l.list := by
  intro l
  induction l with
  | nil => rfl
  | cons k t n v a c s r ih1 ih2 => rw [Ps.depth, ih2]; rfl
theorem pdeep_mem : ∀ {l : List Pn}, ∀ p ∈ l, pone p.v p.sub.depth ≤ pdeep l := by
  intro l
  induction l with
  | nil => intro p hp; cases hp
  | cons q l ih =>
    intro p hp
    rw [pdeep]
    rcases List.mem_cons.1 hp with rfl | hp
    · omega
    · have := ih p hp; omega

/-- the fields ahead of a value -/
def pahead (t : Nat) (n : Bool) : List Fld := (if t = 0 then [] else [⟨1, 0, t, ⟨#[]⟩⟩]) ++ (if n = true then [⟨2, 0, 1, ⟨#[]⟩⟩] else [])
def pbad (v : VV) (n : Nat) : Bool := if v.k = 8 then !(v.n == 0 && v.s.toList.isEmpty) else decide (0 < n)
/-- a property's value's bytes: 'sub' its own list's -/
def ptell (t : Nat) (n : Bool) (v : VV) (len : Nat) (sub : List UInt8 × Int) : List UInt8 × Int :=
  if pbad v len = true then ([], 4)
  else if v.k = 8 then (if sub.2 = 0 then wput (pahead t n ++ [⟨9, 2, 0, ⟨sub.1.toArray⟩⟩]) else ([], sub.2))
  else if verr v.k v.n v.s.toList.isEmpty 3 false = 0 then wput (pahead t n ++ vfls v.k v.n v.s 3 false) else ([], verr v.k v.n v.s.toList.isEmpty 3 false)
def perrs : List (List UInt8 × Int) → Int
  | [] => 0
  | x :: l => if x.2 = 0 then perrs l else x.2
def pkfl (s : ByteArray) : Fld := ⟨1, 2, 0, s⟩
def pvfl (x : List UInt8 × Int) : Fld := ⟨2, 2, 0, ⟨x.1.toArray⟩⟩
def putof (deep : Nat) (keys : List ByteArray) (vals : List (List UInt8 × Int)) : List UInt8 × Int :=
  if 8 < deep then ([], 12) else if 32 < keys.length then ([], 6) else if perrs vals = 0 then wput (keys.map pkfl ++ vals.map pvfl) else ([], perrs vals)
def Ps.vals : Ps → Nat → List (List UInt8 × Int)
  | .nil, _ => []
  | .cons _ t n v _ _ s r, d => ptell t n v s.list.length (putof (d + 1) (s.list.map Pn.key) (s.vals (d + 1))) :: r.vals d
/-- what props.put answers -/
def Ps.put (l : Ps) (deep : Nat) : List UInt8 × Int := putof deep (l.list.map Pn.key) (l.vals deep)
def Pn.tell (p : Pn) (d : Nat) : List UInt8 × Int := ptell p.type p.null p.v p.sub.list.length (p.sub.put (d + 1))
theorem Ps.vals_list : ∀ (l : Ps) (d : Nat), l.vals d = l.list.map fun p => p.tell d := by
  intro l
  induction l with
  | nil => intro d; rfl
  | cons k t n v a c s r ih1 ih2 => intro d; rw [Ps.vals, ih2]; rfl
theorem Ps.put_list (l : Ps) (d : Nat) : l.put d = if 8 < d then ([], 12) else if 32 < l.list.length then ([], 6) else if perrs (l.list.map fun p => p.tell d) = 0 then wput (l.list.map (fun p => pkfl p.key) ++ l.list.map (fun p => pvfl (p.tell d))) else ([], perrs (l.list.map fun p => p.tell d)) := by
  unfold Ps.put putof
  rw [Ps.vals_list]
  simp only [List.length_map, List.map_map]
  rfl
theorem pahead_ok {t : Nat} (ht : t < 4294967296) (n : Bool) : ∀ f ∈ pahead t n, FldOk f := by
  intro f hf
  unfold pahead at hf
  rcases List.mem_append.1 hf with hf | hf
  · split at hf
    · cases hf
    · obtain rfl : f = _ := by simpa using hf
      refine ⟨by simp, by simp, ?_⟩
      simp only
      omega
  · split at hf
    · obtain rfl : f = _ := by simpa using hf
      exact ⟨by simp, by simp, by simp⟩
    · cases hf
theorem pahead_len (t : Nat) (n : Bool) : (pahead t n).length ≤ 2 := by
  unfold pahead
  split <;> split <;> simp
end Go.Proofs.YtanfnjlndckhkaaDoor

/- PLAIN LAW: the properties of bytes; a tree that lies in blocks of a kind. -/
namespace Go.Proofs.YtanfnjlndckhkaaDoor
open Go.RowKit Plain

/-- a property on its way -/
structure PSt where
  type : Nat
  null : Bool
  v : VV
  set : ByteArray
def PSt.zero : PSt := ⟨0, false, VV.zero, ⟨#[]⟩⟩
def pnum (f : Fld) (most : Nat) : Int := if f.kind = 0 then (if most < f.val then 5 else 0) else 4
/-- one field -/
def ptake (f : Fld) (s : PSt) : PSt × Int :=
  if f.num = 1 then (⟨if pnum f 4294967295 = 0 then f.val else 0, s.null, s.v, s.set⟩, pnum f 4294967295)
  else if f.num = 2 then (⟨s.type, if pnum f 1 = 0 then f.val == 1 else false, s.v, s.set⟩, pnum f 1)
  else if f.num = 9 then (if f.kind = 2 then (⟨s.type, s.null, ⟨8, 0, ⟨#[]⟩⟩, f.text⟩, 0) else (s, 4))
  else if 3 ≤ f.num ∧ f.num ≤ 8 then (⟨s.type, s.null, (vof 3 false [f]).1, s.set⟩, (vof 3 false [f]).2)
  else (s, 0)
def ptakes : List Fld → PSt → PSt × Int
  | [], s => (s, 0)
  | f :: l, s => if (ptake f s).2 = 0 then ptakes l (ptake f s).1 else (PSt.zero, (ptake f s).2)
def Pn.zero : Pn := ⟨⟨#[]⟩, 0, false, VV.zero, none, 0, .nil⟩
/-- a property of its key and a value's bytes; 'rec': what the bytes of its own list tell -/
def pitem (rec : List UInt8 → Ps × Int) (key s : ByteArray) : Pn × Int :=
  if (wof s.data.toList).2 = 0 then
    (if (ptakes (wof s.data.toList).1 PSt.zero).2 = 0 then
      (if (ptakes (wof s.data.toList).1 PSt.zero).1.v.k = 8 then
        (if (rec (ptakes (wof s.data.toList).1 PSt.zero).1.set.data.toList).2 = 0 then
          (⟨key, (ptakes (wof s.data.toList).1 PSt.zero).1.type, (ptakes (wof s.data.toList).1 PSt.zero).1.null, (ptakes (wof s.data.toList).1 PSt.zero).1.v, none, 0, (rec (ptakes (wof s.data.toList).1 PSt.zero).1.set.data.toList).1⟩, 0)
        else (Pn.zero, (rec (ptakes (wof s.data.toList).1 PSt.zero).1.set.data.toList).2))
      else (⟨key, (ptakes (wof s.data.toList).1 PSt.zero).1.type, (ptakes (wof s.data.toList).1 PSt.zero).1.null, (ptakes (wof s.data.toList).1 PSt.zero).1.v, none, 0, .nil⟩, 0))
    else (Pn.zero, (ptakes (wof s.data.toList).1 PSt.zero).2))
  else (Pn.zero, (wof s.data.toList).2)
def phalf (f : Fld) : Int := if (f.num = 1 ∨ f.num = 2) ∧ ¬ f.kind = 2 then 4 else 0
def phalves (l : List Fld) : Int :=
  if ferr (l.map phalf) = 0 then (if 32 < (wall 1 l).length ∨ 32 < (wall 2 l).length then 6 else if (wall 1 l).length = (wall 2 l).length then 0 else 4) else ferr (l.map phalf)
def Ps.build : List Pn → Ps
  | [] => .nil
  | p :: l => .cons p.key p.type p.null p.v p.adr p.cap p.sub (Ps.build l)
theorem Ps.build_list : ∀ l : List Pn, (Ps.build l).list = l := by
  intro l
  induction l with
  | nil => rfl
  | cons p l ih => rw [Ps.build, Ps.list, ih]
def pitems (rec : List UInt8 → Ps × Int) (l : List Fld) : List (Pn × Int) := List.zipWith (fun k v => pitem rec k.text v.text) (wall 1 l) (wall 2 l)
/-- the properties of bytes; the number: how many levels more there may be -/
def pofn : Nat → List UInt8 → Ps × Int
  | 0, _ => (.nil, 12)
  | n + 1, b =>
    if (wof b).2 = 0 then
      (if phalves (wof b).1 = 0 then
        (if ferr ((pitems (pofn n) (wof b).1).map (·.2)) = 0 then (Ps.build ((pitems (pofn n) (wof b).1).map (·.1)), 0) else (.nil, ferr ((pitems (pofn n) (wof b).1).map (·.2))))
      else (.nil, phalves (wof b).1))
    else (.nil, (wof b).2)
theorem phalves_ok {l : List Fld} (h : phalves l = 0) : (wall 1 l).length ≤ 32 ∧ (wall 2 l).length = (wall 1 l).length := by
  unfold phalves at h
  split at h
  · split at h
    · exact absurd h (by decide)
    · rename_i h1
      split at h
      · rename_i h2; exact ⟨by omega, h2.symm⟩
      · exact absurd h (by decide)
  · rename_i h0; exact absurd h h0

/-- what is told of it, without where it lies -/
def Ps.strip : Ps → Ps
  | .nil => .nil
  | .cons k t n v _ _ s r => .cons k t n v none 0 s.strip r.strip
def Pn.strip (p : Pn) : Pn := ⟨p.key, p.type, p.null, p.v, none, 0, p.sub.strip⟩
theorem Ps.strip_list : ∀ l : Ps, l.strip.list = l.list.map Pn.strip := by
  intro l
  induction l with
  | nil => rfl
  | cons k t n v a c s r ih1 ih2 => rw [Ps.strip, Ps.list, ih2]; rfl
theorem Ps.strip_len (l : Ps) : l.strip.list.length = l.list.length := by rw [Ps.strip_list, List.length_map]
theorem Ps.same_strip : ∀ l m : Ps, l.same m = l.strip.same m.strip := by
  intro l
  induction l with
  | nil => intro m; cases m <;> rfl
  | cons k t n v a c s r ih1 ih2 =>
    intro m
    cases m with
    | nil => rfl
    | cons k' t' n' v' a' c' s' r' => rw [Ps.same, Ps.strip, Ps.strip, Ps.same, ih1, ih2]
theorem Ps.same_of_strip {l m : Ps} (h : l.strip = m.strip) : l.same m = true := by
  rw [Ps.same_strip, h]
  generalize m.strip = q
  clear h l m
  induction q with
  | nil => rfl
  | cons k t n v a c s r ih1 ih2 => simp [Ps.same, ih1, ih2, seq_refl, neq_refl, veq_refl]
theorem Ps.depth_strip : ∀ l : Ps, l.strip.depth = l.depth := by
  intro l
  induction l with
  | nil => rfl
  | cons k t n v a c s r ih1 ih2 => rw [Ps.strip, Ps.depth, Ps.depth, ih1, ih2]
theorem Ps.keys_strip (l : Ps) : l.strip.list.map Pn.key = l.list.map Pn.key := by
  rw [Ps.strip_list, List.map_map]; rfl
theorem Ps.vals_strip : ∀ (l : Ps) (d : Nat), l.strip.vals d = l.vals d := by
  intro l
  induction l with
  | nil => intro d; rfl
  | cons k t n v a c s r ih1 ih2 => intro d; rw [Ps.strip, Ps.vals, Ps.vals, ih1, ih2, Ps.keys_strip, Ps.strip_len]
theorem Ps.put_strip (l : Ps) (d : Nat) : l.strip.put d = l.put d := by
  unfold Ps.put
  rw [Ps.keys_strip, Ps.vals_strip]

/-- the slice at A reads as the cells xs; its block is of the kind S -/
def RdS (W : World) (S : Nat → Prop) (A : Option Addr) (xs : List Value) : Prop :=
  xs = [] ∨ ∃ b off, A = some ⟨b, off, none⟩ ∧ b < W.heap.size ∧ S b ∧ ∀ i, i < xs.length → W.cell? ⟨b, off + i, none⟩ = xs[i]?
theorem RdS.rd {W : World} {S : Nat → Prop} {A : Option Addr} {xs : List Value} (h : RdS W S A xs) : Rd W W.heap.size A xs := by
  rcases h with h | ⟨b, off, e, hb, _, hc⟩
  · exact .inl h
  · exact .inr ⟨b, off, e, hb, hc⟩
theorem RdS.keep {W W' : World} {S S' : Nat → Prop} {A : Option Addr} {xs : List Value} (h : RdS W S A xs) (hk : ∀ b, b < W.heap.size → S b → W'.heap[b]? = W.heap[b]?) (hs : W.heap.size ≤ W'.heap.size) (hS : ∀ b, b < W.heap.size → S b → S' b) : RdS W' S' A xs := by
  rcases h with h | ⟨b, off, e, hb, hb2, hc⟩
  · exact .inl h
  · refine .inr ⟨b, off, e, by omega, hS b hb hb2, fun i hi => ?_⟩
    rw [← hc i hi]
    simp only [World.cell?, hk b hb hb2]
def Ps.SubsS (W : World) (S : Nat → Prop) : Ps → Prop
  | .nil => True
  | .cons _ _ _ _ a _ s r => RdS W S a (pcl s.list) ∧ s.SubsS W S ∧ r.SubsS W S
structure Ps.AtS (l : Ps) (W : World) (S : Nat → Prop) (A : Option Addr) : Prop where
  rd : RdS W S A (pcl l.list)
  subs : l.SubsS W S
theorem Ps.SubsS.keep {W W' : World} {S S' : Nat → Prop} (hk : ∀ b, b < W.heap.size → S b → W'.heap[b]? = W.heap[b]?) (hs : W.heap.size ≤ W'.heap.size) (hS : ∀ b, b < W.heap.size → S b → S' b) : ∀ {l : Ps}, l.SubsS W S → l.SubsS W' S' := by
  intro l
  induction l with
  | nil => exact id
  | cons k t n v a c s r ih1 ih2 => exact fun h => ⟨h.1.keep hk hs hS, ih1 h.2.1, ih2 h.2.2⟩
theorem Ps.AtS.keep {l : Ps} {W W' : World} {S S' : Nat → Prop} {A : Option Addr} (h : l.AtS W S A) (hk : ∀ b, b < W.heap.size → S b → W'.heap[b]? = W.heap[b]?) (hs : W.heap.size ≤ W'.heap.size) (hS : ∀ b, b < W.heap.size → S b → S' b) : l.AtS W' S' A := ⟨h.rd.keep hk hs hS, h.subs.keep hk hs hS⟩
theorem Ps.AtS.below {l : Ps} {W W' : World} {S : Nat → Prop} {A : Option Addr} (h : l.AtS W S A) (hb : Below W.heap.size W W') : l.AtS W' S A := h.keep (fun b hlt _ => hb.block b hlt) hb.size (fun _ _ h => h)
theorem Ps.SubsS.at_ {W : World} {S : Nat → Prop} : ∀ {l : Ps}, l.SubsS W S → l.Subs W W.heap.size := by
  intro l
  induction l with
  | nil => exact id
  | cons k t n v a c s r ih1 ih2 => exact fun h => ⟨h.1.rd, ih1 h.2.1, ih2 h.2.2⟩
theorem Ps.AtS.at_ {l : Ps} {W : World} {S : Nat → Prop} {A : Option Addr} (h : l.AtS W S A) : l.At W W.heap.size A := ⟨h.rd.rd, h.subs.at_⟩
theorem Ps.nil_atS (W : World) (S : Nat → Prop) : Ps.AtS .nil W S none := ⟨.inl rfl, trivial⟩
theorem Ps.build_subsS {W : World} {S : Nat → Prop} : ∀ {l : List Pn}, (∀ p ∈ l, p.sub.AtS W S p.adr) → (Ps.build l).SubsS W S := by
  intro l
  induction l with
  | nil => intro _; exact trivial
  | cons p l ih => exact fun h => ⟨(h p (by simp)).rd, (h p (by simp)).subs, ih fun q hq => h q (by simp [hq])⟩
def Pn.Ok (p : Pn) : Prop := p.type < 4294967296 ∧ VVOk p.v ∧ p.sub.list.length ≤ 9223372036854775807 ∧ p.sub.Ok
theorem Ps.build_ok : ∀ {l : List Pn}, (∀ p ∈ l, p.Ok) → (Ps.build l).Ok := by
  intro l
  induction l with
  | nil => intro _; exact trivial
  | cons p l ih => exact fun h => ⟨(h p (by simp)).1, (h p (by simp)).2.1, (h p (by simp)).2.2.1, (h p (by simp)).2.2.2, ih fun q hq => h q (by simp [hq])⟩
theorem Ps.build_strip (l : List Pn) : (Ps.build l).strip = Ps.build (l.map Pn.strip) := by
  induction l with
  | nil => rfl
  | cons p l ih => rw [Ps.build, Ps.strip, ih]; rfl
/-- what is read is in bounds -/
theorem pnum_ok {f : Fld} {most : Nat} (h : pnum f most = 0) : f.kind = 0 ∧ f.val ≤ most := by
  unfold pnum at h
  split at h
  · rename_i h0
    split at h
    · exact absurd h (by decide)
    · exact ⟨h0, by omega⟩
  · exact absurd h (by decide)
structure PSt.Ok (s : PSt) : Prop where
  ty : s.type < 4294967296
  v : VVOk s.v
  set : s.set.size ≤ 4096
theorem PSt.zero_ok : PSt.zero.Ok := ⟨by simp [PSt.zero], zero_rd.ok, by show (⟨#[]⟩ : ByteArray).size ≤ 4096; exact Nat.zero_le _⟩
theorem ptake_ok (f : Fld) (s : PSt) (h : s.Ok) (hf : FldRd f) : (ptake f s).1.Ok := by
  unfold ptake
  split
  · refine ⟨?_, h.v, h.set⟩
    show (if pnum f 4294967295 = 0 then f.val else 0) < 4294967296
    by_cases h0 : pnum f 4294967295 = 0
    · rw [if_pos h0]; have := (pnum_ok h0).2; omega
    · rw [if_neg h0]; omega
  split
  · exact ⟨h.ty, h.v, h.set⟩
  split
  · split
    · exact ⟨h.ty, ⟨by simp, by simp, by simp⟩, hf.2.2.2.2.2⟩
    · exact h
  split
  · exact ⟨h.ty, (vof_rd 3 false [f] (fun g hg => (by simpa using hg : g = f) ▸ hf)).ok, h.set⟩
  · exact h
theorem ptakes_ok : ∀ (l : List Fld) (s : PSt), s.Ok → (∀ f ∈ l, FldRd f) → (ptakes l s).1.Ok := by
  intro l
  induction l with
  | nil => intro s h _; exact h
  | cons f l ih =>
    intro s h hl
    rw [ptakes]
    split
    · exact ih _ (ptake_ok f s h (hl f (by simp))) fun g hg => hl g (by simp [hg])
    · exact PSt.zero_ok
end Go.Proofs.YtanfnjlndckhkaaDoor

/- WALKS: value.Of -/
namespace Go.Proofs.YtanfnjlndckhkaaDoor
open Go.RowKit Plain

def Box3 (W : World) (B : Nat) (v : VV) : Prop := W.heap[B]? = some (.cells v.cells 42 (0, 0))
theorem Box3.cell {W : World} {B : Nat} {v : VV} (h : Box3 W B v) (i : Nat) : W.cell? ⟨B, i, none⟩ = v.cells[i]? := by simp [World.cell?, show W.heap[B]? = _ from h]
theorem Box3.frozen {W : World} {B : Nat} {v : VV} (h : Box3 W B v) (i : Nat) : W.frozen? ⟨B, i, none⟩ = false := by simp [World.frozen?, show W.heap[B]? = _ from h]
theorem Box3.new (W : World) (v : VV) : Box3 (W.alloc (.cells v.cells 42)) W.heap.size v := World.alloc_heap_new W _

theorem Box3.alloc {W : World} {B : Nat} {v : VV} (h : Box3 W B v) (o : Obj) : Box3 (W.alloc o) B v := (Below.heap_alloc W o B (Array.getElem?_eq_some_iff.1 h).1).trans h
theorem Box3.set3 {W : World} {B : Nat} {v : VV} (h : Box3 W B v) (u : VV) : Box3 (((W.setCell ⟨B, 0, none⟩ (.int .i64 u.k)).setCell ⟨B, 1, none⟩ (.int .u64 u.n)).setCell ⟨B, 2, none⟩ (.string u.s)) B u := by
  have h1 := heap_setCell_same W B 0 v.cells _ (.int .i64 u.k) h
  have h2 := heap_setCell_same _ B 1 _ _ (.int .u64 u.n) h1
  exact heap_setCell_same _ B 2 _ _ (.string u.s) h2
theorem Box3.other3 {W : World} {B C : Nat} {v : VV} (h : Box3 W B v) (hne : C ≠ B) (x y z : Value) : Box3 (((W.setCell ⟨C, 0, none⟩ x).setCell ⟨C, 1, none⟩ y).setCell ⟨C, 2, none⟩ z) B v :=
  ((heap_setCell_other _ ⟨C, 2, none⟩ B z hne.symm).trans ((heap_setCell_other _ ⟨C, 1, none⟩ B y hne.symm).trans (heap_setCell_other _ ⟨C, 0, none⟩ B x hne.symm))).trans h
theorem Box3.drewN {W : World} {B : Nat} {v : VV} (h : Box3 W B v) (n : Nat) : Box3 (W.drewN n) B v := h
/-- in a round: the result's box, v's, f's; the table -/
structure InB (w W : World) (fb : Nat) (acc : VV) (f : Fld) : Prop where
  R : Box3 W w.heap.size VV.zero
  V : Box3 W (w.heap.size + 1) acc
  F : W.heap[fb]? = some (.cells #[.int .i64 f.num, .int .i64 f.kind, .int .u64 f.val, .string f.text] 64 (0, 0))
  K : Kinds W
  bel : Below w.heap.size w W
theorem InB.drewN {w W : World} {fb : Nat} {acc : VV} {f : Fld} (h : InB w W fb acc f) (n : Nat) : InB w (W.drewN n) fb acc f := ⟨h.R, h.V, h.F, h.K, below_drewN h.bel n⟩
theorem InB.cells {w W : World} {fb : Nat} {acc : VV} {f : Fld} (h : InB w W fb acc f) :
    W.cell? ⟨fb, 0, none⟩ = some (.int .i64 f.num) ∧ W.cell? ⟨fb, 1, none⟩ = some (.int .i64 f.kind) ∧ W.cell? ⟨fb, 2, none⟩ = some (.int .u64 f.val) ∧ W.cell? ⟨fb, 3, none⟩ = some (.string f.text) := by
  refine ⟨?_, ?_, ?_, ?_⟩ <;> simp [World.cell?, h.F]
theorem InB.boxes {w W : World} {fb : Nat} {acc : VV} {f : Fld} (h : InB w W fb acc f) :
    (W.cell? ⟨w.heap.size, 0, none⟩ = some (.int .i64 0) ∧ W.cell? ⟨w.heap.size, 1, none⟩ = some (.int .u64 0) ∧ W.cell? ⟨w.heap.size, 2, none⟩ = some (.string ⟨#[]⟩)) ∧
    (W.cell? ⟨w.heap.size + 1, 0, none⟩ = some (.int .i64 acc.k) ∧ W.cell? ⟨w.heap.size + 1, 1, none⟩ = some (.int .u64 acc.n) ∧ W.cell? ⟨w.heap.size + 1, 2, none⟩ = some (.string acc.s)) ∧
    (W.frozen? ⟨w.heap.size, 0, none⟩ = false ∧ W.frozen? ⟨w.heap.size, 1, none⟩ = false ∧ W.frozen? ⟨w.heap.size, 2, none⟩ = false) ∧
    (W.frozen? ⟨w.heap.size + 1, 0, none⟩ = false ∧ W.frozen? ⟨w.heap.size + 1, 1, none⟩ = false ∧ W.frozen? ⟨w.heap.size + 1, 2, none⟩ = false) :=
  ⟨⟨h.R.cell 0, h.R.cell 1, h.R.cell 2⟩, ⟨h.V.cell 0, h.V.cell 1, h.V.cell 2⟩, ⟨h.R.frozen 0, h.R.frozen 1, h.R.frozen 2⟩, ⟨h.V.frozen 0, h.V.frozen 1, h.V.frozen 2⟩⟩
theorem below_set3 {w W : World} {B : Nat} (h : Below w.heap.size w W) (hB : w.heap.size ≤ B) (x y z : Value) : Below w.heap.size w (((W.setCell ⟨B, 0, none⟩ x).setCell ⟨B, 1, none⟩ y).setCell ⟨B, 2, none⟩ z) :=
  ((h.setCell (p := ⟨B, 0, none⟩) hB _).setCell (p := ⟨B, 1, none⟩) hB _).setCell (p := ⟨B, 2, none⟩) hB _
theorem InB.fresh {w wr : World} {acc : VV} {f : Fld} (hR : Box3 wr w.heap.size VV.zero) (hV : Box3 wr (w.heap.size + 1) acc) (hK : Kinds wr) (hB : Below w.heap.size w wr) :
    InB w (wr.alloc (.cells #[.int .i64 f.num, .int .i64 f.kind, .int .u64 f.val, .string f.text] 64)) wr.heap.size acc f :=
  ⟨hR.alloc _, hV.alloc _, World.alloc_heap_new wr _, hK.below ((Below.refl wr.heap.size wr).alloc (Nat.le_refl _) _) hK.pos, hB.alloc hB.size _⟩
theorem vkof_bd {num base : Int} {raw : Bool} (h : ¬ vkof num base raw = 0) : 1 ≤ vkof num base raw ∧ vkof num base raw ≤ 7 := by
  unfold vkof at h ⊢
  split at h
  · rename_i h1; rw [if_pos h1]; omega
  · omega
theorem vgreat_lim {k : Int} {n : Nat} (hk0 : 1 ≤ k) (hk1 : k ≤ 7) (hn : n < 18446744073709551616) : vgreat k n = (!vtextual k && decide (vlimit k < (n : Int))) := by
  have h : k = 1 ∨ k = 2 ∨ k = 3 ∨ k = 4 ∨ k = 5 ∨ k = 6 ∨ k = 7 := by omega
  rcases h with rfl | rfl | rfl | rfl | rfl | rfl | rfl <;> simp [vgreat, vtextual, vlimit] <;> omega

set_option maxHeartbeats 1000000 in
theorem vof_any (l : List Fld) (A : Option Addr) (c : Nat) (base : Int) (raw : Bool) (hl : l.length ≤ 9223372036854775807) (hwf : ∀ f ∈ l, -9223372036854775808 ≤ f.num ∧ f.num ≤ 9223372036854775807 ∧ f.val < 18446744073709551616) (w : World) (hr : Rd w w.heap.size A (flc l)) (hK : Kinds w) :
    Calls Tryd.prog 74 #[.slice A l.length c, .int .i64 base, .bool raw] w fun e w' => e = .returned (.tuple #[.agg (vof base raw l).1.cells, .int .i64 (vof base raw l).2]) ∧ Below w.heap.size w w' := by
  by_cases hb : 1 ≤ base ∧ base ≤ 1000
  · have hbd : decide (1 ≤ base ∧ base ≤ 1000) = true := by simpa using hb
    have hv : vof base raw l = vofs base raw l VV.zero := by unfold vof; rw [if_pos hb]
    rw [hv]
    have HR := Lib.hid hr
    have HWF := Lib.hid hwf
    have HKK := Lib.hid hK
    clear hr hv hwf hK
    generalize hres : vofs base raw l VV.zero = res at *
    have HRES := Lib.hid hres
    clear hres
    go_enter Tryd.func74, Tryd.ntmps74
    go_wp2_with (go_at_call 99; refine (based_any _ _).mono ?_; rintro e w1 ⟨rfl, rfl⟩)
    go_loopw [18] (fun i wr => ∃ (j : Nat) (acc : VV), i = .int .i64 j ∧ j ≤ l.length ∧ vofs base raw (l.drop j) acc = res ∧ Box3 wr w.heap.size VV.zero ∧ Box3 wr (w.heap.size + 1) acc ∧ Below w.heap.size w wr) (fun i _ => l.length - (intOf i).toNat)
    case atStart =>
      refine ⟨0, VV.zero, rfl, Nat.zero_le _, HRES.out, ?_, ?_, ((Below.refl _ w).alloc (Nat.le_refl _) _).alloc (by simp) _⟩
      · exact (Below.heap_alloc _ _ _ (by simp)).trans (Box3.new w VV.zero)
      · have := Box3.new (w.alloc (.cells VV.zero.cells 42)) VV.zero
        rw [World.size_alloc] at this
        exact this
    case round =>
      obtain ⟨j, acc, rfl, hj, he, hbR, hbV, hB⟩ := hrel
      have r0 : wr.cell? ⟨w.heap.size, 0, none⟩ = some (.int .i64 0) := hbR.cell 0
      have r1 : wr.cell? ⟨w.heap.size, 1, none⟩ = some (.int .u64 0) := hbR.cell 1
      have r2 : wr.cell? ⟨w.heap.size, 2, none⟩ = some (.string ⟨#[]⟩) := hbR.cell 2
      have v0 : wr.cell? ⟨w.heap.size + 1, 0, none⟩ = some (.int .i64 acc.k) := hbV.cell 0
      have v1 : wr.cell? ⟨w.heap.size + 1, 1, none⟩ = some (.int .u64 acc.n) := hbV.cell 1
      have v2 : wr.cell? ⟨w.heap.size + 1, 2, none⟩ = some (.string acc.s) := hbV.cell 2
      have f0 := hbR.frozen 0
      have f1 := hbR.frozen 1
      have f2 := hbR.frozen 2
      have f3 := hbV.frozen 0
      have f4 := hbV.frozen 1
      have f5 := hbV.frozen 2
      have HE := Lib.hid he
      clear he
      by_cases hlt : j < l.length
      · obtain ⟨f, hf⟩ : ∃ f, l[j]? = some f := ⟨_, List.getElem?_eq_getElem hlt⟩
        have hdrop : l.drop j = f :: l.drop (j + 1) := by
          obtain ⟨h1, h2⟩ := List.getElem?_eq_some_iff.1 hf
          rw [List.drop_eq_getElem_cons h1, h2]
        obtain ⟨hn0, hn1, hn2⟩ := HWF.out f (List.mem_of_getElem? hf)
        have hlen := flc_len l
        obtain ⟨b1, o1, rfl, hb1, hc1⟩ := (HR.out.below hB (by omega)).some_ (by omega)
        have g1 : ∀ i, i < 4 → wr.cell? ⟨b1, o1 + j * 4 + i, none⟩ = f.cells[i]? := fun i hi => by
          rw [show o1 + j * 4 + i = o1 + (4 * j + i) by omega]; exact (hc1 _ (by omega)).trans (flc_at hf i hi)
        have g10 : wr.cell? ⟨b1, o1 + j * 4, none⟩ = some (.int .i64 f.num) := g1 0 (by omega)
        have g11 : wr.cell? ⟨b1, o1 + j * 4 + 1, none⟩ = some (.int .i64 f.kind) := g1 1 (by omega)
        have g12 : wr.cell? ⟨b1, o1 + j * 4 + 2, none⟩ = some (.int .u64 f.val) := g1 2 (by omega)
        have g13 : wr.cell? ⟨b1, o1 + j * 4 + 3, none⟩ = some (.string f.text) := g1 3 (by omega)
        have hKw : Kinds wr := HKK.out.below hB HKK.out.pos
        obtain ⟨hb10, hb11⟩ := hb
        have hstep : vofs base raw (f :: l.drop (j + 1)) acc = res := hdrop ▸ HE.out
        have HS := Lib.hid hstep
        clear hstep hdrop hc1 g1 hlen hf HWF HR HE
        generalize hkk : vkof f.num base raw = kk at *
        have HKV := Lib.hid hkk
        clear hkk
        by_cases hk0 : kk = 0
        · subst hk0
          go_wp2_with (go_at_call 100; refine (kindOf_any _ _ _ hn0 hn1 hb10 hb11 _).mono ?_; rintro e w1 ⟨rfl, rfl⟩; rw [HKV.out])
          go_roundw
          case rel => exact ⟨j + 1, acc, by go_num, by omega, by have e := HS.out; rwa [vofs, if_pos HKV.out] at e, hbR.alloc _, hbV.alloc _, hB.alloc hB.size _⟩
          case measure => simp [intOf]; omega
        · have hk0' : (kk == 0) = false := by simpa using hk0
          have hkb : 1 ≤ kk ∧ kk ≤ 7 := by rw [← HKV.out]; exact vkof_bd (by rw [HKV.out]; exact hk0)
          obtain ⟨hkb0, hkb1⟩ := hkb
          have hgl := vgreat_lim hkb0 hkb1 hn2
          have hnz : ¬ vkof f.num base raw = 0 := by rw [HKV.out]; exact hk0
          have hs2 : res = if ¬ f.kind = vkind kk then (VV.zero, 4) else if vgreat kk f.val = true then (VV.zero, 5) else vofs base raw (l.drop (j + 1)) ⟨kk, f.val, f.text⟩ := by
            have e := HS.out
            rw [vofs, if_neg hnz, HKV.out] at e
            exact e.symm
          have HS2 := Lib.hid hs2
          have HGL := Lib.hid hgl
          have hin := InB.fresh (f := f) hbR hbV hKw hB
          go_wp2_with (go_at_call 100; refine (kindOf_any _ _ _ hn0 hn1 hb10 hb11 _).mono ?_; rintro e w1 ⟨rfl, rfl⟩; rw [HKV.out])
          generalize hfb : wr.heap.size = fb at *
          generalize wr.alloc (.cells #[.int .i64 f.num, .int .i64 f.kind, .int .u64 f.val, .string f.text] 64) = W2 at *
          obtain ⟨e0, e1, e2, e3⟩ := hin.cells
          have hKk : W2.cell? ⟨0, kk.toNat, none⟩ = some (.int .i64 (vkind kk)) := by
            have := hin.K kk.toNat (by omega)
            rwa [show ((kk.toNat : Nat) : Int) = kk by omega] at this
          have hk8 : kk < 8 := by omega
          have hk00 : 0 ≤ kk := by omega
          clear hs2 hgl hnz r0 r1 r2 v0 v1 v2 f0 f1 f2 f3 f4 f5 g10 g11 g12 g13 hbR hbV hKw hB hfb HS
          obtain ⟨⟨r0, r1, r2⟩, ⟨v0, v1, v2⟩, ⟨f0, f1, f2⟩, f3, f4, f5⟩ := hin.boxes
          by_cases hkd : f.kind = vkind kk
          · have hkb : (f.kind != vkind kk) = false := by simpa using hkd
            have HKD := Lib.hid hkd
            clear hkd
            go_quiet (fail)
            go_wp2_with fail
            clear r0 r1 r2 v0 v1 v2 f0 f1 f2 f3 f4 f5 e0 e1 e2 e3 hKk
            have hin3 := hin.drewN nq
            clear hin
            generalize W2.drewN nq = W3 at *
            obtain ⟨⟨r0, r1, r2⟩, ⟨v0, v1, v2⟩, ⟨f0, f1, f2⟩, f3, f4, f5⟩ := hin3.boxes
            obtain ⟨e0, e1, e2, e3⟩ := hin3.cells
            have hin := hin3
            cases hT : vtextual kk
            · cases hd : decide (vlimit kk < (f.val : Int))
              · go_quiet (first | (go_at_call 101; exact Calls.quiet_of_same ((textual_any kk _).mono fun _ _ h => ⟨h.1, h.2.symm⟩)) | (go_at_call 102; exact Calls.quiet_of_same ((limit_any kk _).mono fun _ _ h => ⟨h.1, h.2.symm⟩)))
                go_wp2_with fail
                go_roundw
                case rel => exact ⟨j + 1, ⟨kk, f.val, f.text⟩, by go_num, by omega, by rw [HS2.out, if_neg (fun h => h HKD.out), if_neg (by rw [HGL.out, hT, hd]; simp)], (hin.R.other3 (by omega) _ _ _).drewN _, (hin.V.set3 ⟨kk, f.val, f.text⟩).drewN _, below_drewN (below_set3 hin.bel (by omega) _ _ _) _⟩
                case measure => simp [intOf]; omega
              · go_quiet (first | (go_at_call 101; exact Calls.quiet_of_same ((textual_any kk _).mono fun _ _ h => ⟨h.1, h.2.symm⟩)) | (go_at_call 102; exact Calls.quiet_of_same ((limit_any kk _).mono fun _ _ h => ⟨h.1, h.2.symm⟩)))
                go_wp2_with fail
                (try simp only [Exit.inBlock, Exit.then])
                refine bodyPost_ret (v := .tuple #[.agg VV.zero.cells, .int .i64 5]) ?_ rfl ⟨?_, below_set3 (below_drewN hin.bel _) (Nat.le_refl _) _ _ _⟩
                · rw [results_cell_tmp rfl]; go_simp; rfl
                · rw [HS2.out, if_neg (fun h => h HKD.out), if_pos (by rw [HGL.out, hT, hd]; rfl)]
            · go_quiet (first | (go_at_call 101; exact Calls.quiet_of_same ((textual_any kk _).mono fun _ _ h => ⟨h.1, h.2.symm⟩)) | (go_at_call 102; exact Calls.quiet_of_same ((limit_any kk _).mono fun _ _ h => ⟨h.1, h.2.symm⟩)))
              go_wp2_with fail
              go_roundw
              case rel => exact ⟨j + 1, ⟨kk, f.val, f.text⟩, by go_num, by omega, by rw [HS2.out, if_neg (fun h => h HKD.out), if_neg (by rw [HGL.out, hT]; simp)], (hin.R.other3 (by omega) _ _ _).drewN _, (hin.V.set3 ⟨kk, f.val, f.text⟩).drewN _, below_drewN (below_set3 hin.bel (by omega) _ _ _) _⟩
              case measure => simp [intOf]; omega
          · have hkb : (f.kind != vkind kk) = true := by simpa using hkd
            have HKD := Lib.hid hkd
            clear hkd
            go_quiet (fail)
            go_wp2_with fail
            (try simp only [Exit.inBlock, Exit.then])
            refine bodyPost_ret (v := .tuple #[.agg VV.zero.cells, .int .i64 4]) ?_ rfl ⟨?_, below_set3 (below_drewN hin.bel _) (Nat.le_refl _) _ _ _⟩
            · rw [results_cell_tmp rfl]; go_simp; rfl
            · rw [HS2.out, if_pos HKD.out]
      · go_wp2_with fail
        (try simp only [Exit.inBlock, Exit.then])
        refine bodyPost_ret (v := .tuple #[.agg acc.cells, .int .i64 0]) ?_ rfl ⟨?_, ((hB.setCell (p := ⟨w.heap.size, 0, none⟩) (Nat.le_refl _) _).setCell (p := ⟨w.heap.size, 1, none⟩) (Nat.le_refl _) _).setCell (p := ⟨w.heap.size, 2, none⟩) (Nat.le_refl _) _⟩
        · rw [results_cell_tmp rfl]; go_simp; rfl
        · have e := HE.out
          rw [List.drop_eq_nil_of_le (by omega)] at e
          rw [← e]; rfl
  · have hbd : decide (1 ≤ base ∧ base ≤ 1000) = false := by simpa using hb
    have hv : vof base raw l = (VV.zero, 1) := by unfold vof; rw [if_neg hb]
    rw [hv]
    clear hv hb hr hwf hK
    go_enter Tryd.func74, Tryd.ntmps74
    go_wp2_with (go_at_call 99; refine (based_any _ _).mono ?_; rintro e w1 ⟨rfl, rfl⟩)
    (try simp only [Exit.inBlock, Exit.then])
    refine bodyPost_ret (v := .tuple #[.agg VV.zero.cells, .int .i64 1]) ?_ rfl ⟨rfl, ((Below.refl _ w).alloc (Nat.le_refl _) _).alloc (by simp) _⟩
    rw [results_cell_tmp rfl]; go_simp; rfl
end Go.Proofs.YtanfnjlndckhkaaDoor
