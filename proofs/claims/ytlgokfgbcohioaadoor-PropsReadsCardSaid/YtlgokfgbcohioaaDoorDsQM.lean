/- WALK: dataset.Put -/
import Derived.Test.YtlgokfgbcohioaaDoorDsHM
import Derived.Test.YtlgokfgbcohioaaDoorDsRM
import Derived.BigQuiet
import Derived.Deep.QuietTactic
namespace Go.Proofs.YtlgokfgbcohioaaDoor
open Go.RowKit Plain

set_option maxRecDepth 100000 in
set_option maxHeartbeats 2000000 in
theorem dput_any (d : DS) (hok : DSOk d) (w : World) (hd : d.At w w.heap.size) (hK : Kinds w) :
    Calls Tryd.prog 14 #[d.agg] w (BPost (dput d.cols d.types d.plain) w) := by
  obtain ⟨q, hq⟩ : ∃ q, dput d.cols d.types d.plain = q := ⟨_, rfl⟩
  rw [hq]
  have hhead := fun h16 ht W hW => dhead_any d h16 ht hok W hW
  have HD := Lib.hid hd
  have HOK := Lib.hid hok
  have HK := Lib.hid hK
  have HQ := Lib.hid hq
  have b1 := hok.l1
  have b2 := hok.l2
  have b3 := hok.l3
  clear hd hok hK hq
  obtain ⟨A1, c1, cols, A2, c2, types, A3, c3, rows⟩ := d
  simp only at b1 b2 b3
  unfold DS.agg at hhead ⊢
  simp only at hhead ⊢
  obtain ⟨n, hn⟩ : ∃ n, cols.length = n := ⟨_, rfl⟩
  obtain ⟨t, ht⟩ : ∃ n, types.length = n := ⟨_, rfl⟩
  obtain ⟨m, hm⟩ : ∃ n, rows.length = n := ⟨_, rfl⟩
  rw [hn, ht, hm] at hhead ⊢
  rw [hn] at b1
  rw [ht] at b2
  rw [hm] at b3
  have HN := Lib.hid hn
  have HT := Lib.hid ht
  have HM := Lib.hid hm
  clear hn ht hm
  have hE0 : Below w.heap.size w (w.alloc (Obj.cells #[.slice A1 n c1, .slice A2 t c2, .slice A3 m c3] 26)) := (Below.refl _ w).alloc (Nat.le_refl _) _
  have hD0 : BoxD (w.alloc (Obj.cells #[.slice A1 n c1, .slice A2 t c2, .slice A3 m c3] 26)) w.heap.size (.slice A1 n c1) (.slice A2 t c2) (.slice A3 m c3) := World.alloc_heap_new w _
  go_enter Tryd.func14, Tryd.ntmps14
  by_cases h1 : 16 < n
  · have hd1 : decide ((16 : Int) < (n : Int)) = true := decide_eq_true (by omega)
    have hq : q = ([], 6) := by rw [← HQ.out]; unfold dput; rw [if_pos (.inl (by rw [HN.out]; exact h1))]
    have HQ2 := Lib.hid hq
    clear h1 hq hhead
    go_wp2_with fail
    go_ret2
    exact bpost_err HQ2.out hE0
  by_cases h2 : 32 < m
  · have hd1 : decide ((16 : Int) < (n : Int)) = false := decide_eq_false (by omega)
    have hd2 : decide ((32 : Int) < (m : Int)) = true := decide_eq_true (by omega)
    have hq : q = ([], 6) := by rw [← HQ.out]; unfold dput; rw [if_pos (.inr (by simp only [DS.plain, List.length_map]; rw [HM.out]; exact h2))]
    have HQ2 := Lib.hid hq
    clear h1 h2 hq hhead
    go_wp2_with fail
    go_ret2
    exact bpost_err HQ2.out hE0
  have hlow : ¬ (16 < cols.length ∨ 32 < (DS.plain ⟨A1, c1, cols, A2, c2, types, A3, c3, rows⟩).length) := by
    simp only [DS.plain, List.length_map]
    rw [HN.out, HM.out]
    omega
  have hd1 : decide ((16 : Int) < (n : Int)) = false := decide_eq_false (by omega)
  have hd2 : decide ((32 : Int) < (m : Int)) = false := decide_eq_false (by omega)
  by_cases h3 : t = n
  · have hq2 : q = if derrs cols.length (rows.map RowH.vals) = 0 then wput (dhead cols types ++ (rows.map RowH.vals).map drfl) else ([], derrs cols.length (rows.map RowH.vals)) := by
      rw [← HQ.out]; unfold dput
      rw [if_neg hlow, if_pos (by rw [HT.out, HN.out]; exact h3)]
      rfl
    subst h3
    have HQ2 := Lib.hid hq2
    have H16 : Hid (t ≤ 16 ∧ m ≤ 32) := Lib.hid ⟨by omega, by omega⟩
    clear hlow hq2 h1 h2 b1 b2 b3
    go_wp2_with fail
    have hdA := (HD.out.below hE0 (Nat.le_refl _)).more hE0.size
    generalize hW0 : w.alloc (Obj.cells #[.slice A1 t c1, .slice A2 t c2, .slice A3 m c3] 26) = W0 at *
    refine (hhead H16.out.1 (by trivial) _ hdA).mono ?_
    rintro e w1 ⟨A4, c4, rfl, ho, hB1⟩
    obtain ⟨x0, x1, x2⟩ := (hD0.below hB1).cells
    obtain ⟨H, hH⟩ : ∃ H, dhead cols types = H := ⟨_, rfl⟩
    rw [hH] at ho ⊢
    obtain ⟨k0, hk0⟩ : ∃ k, H.length = k := ⟨_, rfl⟩
    rw [hk0] at ho ⊢
    have HH := Lib.hid hH
    have HK0 := Lib.hid hk0
    have hk0b : k0 ≤ 100 := by rw [← hk0, ← hH]; unfold dhead; simp only [List.length_append, List.length_map]; rw [HN.out, HT.out]; have := H16.out; split <;> simp <;> omega
    have HKB := Lib.hid hk0b
    have h0s : w.heap.size < W0.heap.size := by rw [← hW0]; simp
    clear hhead hW0 hH hk0 hk0b
    go_wp2_with fail
    go_loopw [4, 30] (fun o i wr => ∃ (j k : Nat) (A : Option Addr) (c : Nat), i = .int .i64 j ∧ o = .slice A k c ∧ j ≤ m ∧ k = k0 + j ∧ wr.ownsRow W0.heap.size 73 4 (.slice A k c) k (flc (H ++ ((rows.map RowH.vals).take j).map drfl)) ∧ derrs cols.length (rows.map RowH.vals) = derrs cols.length ((rows.map RowH.vals).drop j) ∧ Below W0.heap.size W0 wr) (fun _ i _ => m - (intOf i).toNat)
    case atStart => exact ⟨0, k0, A4, c4, rfl, rfl, Nat.zero_le _, rfl, by simpa using ho, rfl, hB1⟩
    case round =>
      clear ho hB1 x0 x1 x2
      obtain ⟨j, k, A, c, rfl, rfl, hj, hk, hown, he, hB⟩ := hrel
      have hs := hB.size
      have hm32 : m ≤ 32 := H16.out.2
      have hkb : k ≤ 200 := by have := HKB.out; have := H16.out; omega
      have HKK := Lib.hid hk
      have HE := Lib.hid he
      clear hk he
      obtain ⟨x0, x1, x2⟩ := (hD0.below hB).cells
      by_cases hlt : j < m
      · obtain ⟨r, hr⟩ : ∃ r, rows[j]? = some r := ⟨_, List.getElem?_eq_getElem (by rw [HM.out]; exact hlt)⟩
        have hrm := List.mem_of_getElem? hr
        have HLT := Lib.hid hlt
        have hrj : (rows.map RowH.vals)[j]? = some r.vals := by rw [List.getElem?_map, hr]; rfl
        have hrd := (hdA.rs r hrm).below hB (Nat.le_refl _)
        have hvok := HOK.out.vs r hrm
        have hdd := drop_cons hrj
        have HST : Hid (((rows.map RowH.vals).take (j + 1)).map drfl = ((rows.map RowH.vals).take j).map drfl ++ [drfl r.vals]) := Lib.hid (by rw [List.take_add_one, hrj]; simp)
        have HDE : Hid (derrs cols.length (rows.map RowH.vals) = if r.vals.length = t then (if (drow r.vals).2 = 0 then derrs cols.length ((rows.map RowH.vals).drop (j + 1)) else (drow r.vals).2) else 4) := Lib.hid (by rw [HE.out, hdd, derrs, HN.out])
        have hr3 : Rd wr W0.heap.size A3 (rcl rows) := hdA.r3.below hB (Nat.le_refl _)
        obtain ⟨b1, o1, rfl, hb1, g0⟩ := one_at hr3 hr
        obtain ⟨adr, cap, vals⟩ := r
        simp only at g0 hvok hrd
        obtain ⟨L, hL⟩ : ∃ L, vals.length = L := ⟨_, rfl⟩
        rw [hL] at g0
        simp only [hL] at HDE
        have HL := Lib.hid hL
        clear hrj hdd hr hrm hr3 HE hL
        have hfail : ∀ e : Int, ¬ e = 0 → derrs cols.length (rows.map RowH.vals) = e → q = ([], e) := fun e h0 h1 => by rw [HQ2.out, h1, if_neg h0]
        have HFAIL := Lib.hid hfail
        clear hfail
        by_cases hLt : L = t
        · subst hLt
          have HDE2 := Lib.hid (show derrs cols.length (rows.map RowH.vals) = if (drow vals).2 = 0 then derrs cols.length ((rows.map RowH.vals).drop (j + 1)) else (drow vals).2 by have := HDE.out; rwa [if_pos rfl] at this)
          have hrow := fun W hW hKW => drow_any vals adr cap (by rw [HL.out]; exact H16.out.1) hvok W hW hKW
          rw [HL.out] at hrow
          unfold BPost at hrow
          have HF : Hid (drfl vals = ⟨4, 2, 0, ⟨(drow vals).1.toArray⟩⟩) := Lib.hid rfl
          obtain ⟨cq, hcq⟩ : ∃ cq, drow vals = cq := ⟨_, rfl⟩
          rw [hcq] at hrow HDE2 HF
          obtain ⟨cb, ce⟩ := cq
          simp only at hrow HDE2 HF
          clear hcq HDE hvok
          go_wp2_with fail
          go_quiet (fail)
          have hB2 : Below W0.heap.size W0 (wr.drewN nq) := below_drewN hB nq
          have hown2 : (wr.drewN nq).ownsRow W0.heap.size 73 4 (.slice A k c) k (flc (H ++ ((rows.map RowH.vals).take j).map drfl)) := hown
          have hrd2 : Rd (wr.drewN nq) W0.heap.size adr (vvl vals) := hrd
          have g02 : (wr.drewN nq).cell? ⟨b1, o1 + j, none⟩ = some (.slice adr L cap) := g0
          have hs2 : W0.heap.size ≤ (wr.drewN nq).heap.size := hs
          clear hB hown hrd g0 x0 x1 x2 hs
          generalize wr.drewN nq = W3 at *
          obtain ⟨x0, x1, x2⟩ := (hD0.below hB2).cells
          go_wp2_with fail
          refine (hrow W3 (hrd2.more hs2) (HK.out.below (bel_step hE0 hB2) HK.out.pos)).mono ?_
          rintro e w4 ⟨A6, c6, rfl, ho6, hB6⟩
          have hown3 := own_kept hown2 hB6 (Nat.le_refl _)
          have hB7 := hB2.trans (hB6.mono hs2)
          clear hrow hown2 hrd2 g02 hs2 hB2 hB6 x0 x1 x2
          by_cases h0 : ce = 0
          · subst h0
            have htx := dtext_any 4 A6 cb.length c6 cb rfl w4 (Rd.of_own ho6)
            unfold Fld.cells at htx
            have HD3 : Hid (derrs cols.length (rows.map RowH.vals) = derrs cols.length ((rows.map RowH.vals).drop (j + 1))) := Lib.hid (by have := HDE2.out; rwa [if_pos rfl] at this)
            clear ho6 HDE2 HFAIL
            go_wp2_with fail
            refine htx.mono ?_
            rintro e w5 ⟨rfl, hB8⟩
            have hown4 := own_kept hown3 hB8 (Nat.le_refl _)
            have hB9 := hB7.trans (hB8.mono hB7.size)
            have hs9 := hB9.size
            clear htx hown3 hB8 hB7
            go_wp2_with (at_builtin; refine wpList_appF1 rfl _ _ rfl rfl hown4 ⟨4, 2, 0, ⟨cb.toArray⟩⟩ rfl (by simp) (by omega) hs9 ?_; intro A7 c7 w7 ho7 hg7)
            go_roundw
            case rel => exact ⟨j + 1, k + 1, A7, c7, by go_num, rfl, by have := HLT.out; omega, by have := HKK.out; omega, by rw [HST.out, HF.out, ← List.append_assoc]; exact ho7, HD3.out, own_grown hB9 hown4 hs9 hg7⟩
            case measure => have := HLT.out; simp [intOf]; omega
          · have hbe : (ce != 0) = true := by simpa using h0
            have HQ3 := Lib.hid (HFAIL.out ce h0 (by have := HDE2.out; rwa [if_neg h0] at this))
            clear h0 ho6 HDE2 HFAIL
            go_wp2_with fail
            go_ret2
            exact bpost_err HQ3.out (bel_step hE0 hB7)
        · have hbe : ((L : Int) != (t : Int)) = true := by simp; omega
          have HQ3 := Lib.hid (HFAIL.out 4 (by decide) (by have := HDE.out; rwa [if_neg hLt] at this))
          clear hLt HFAIL HDE
          go_wp2_with fail
          go_quiet (fail)
          go_wp2_with fail
          go_ret2
          exact bpost_err HQ3.out (bel_step hE0 (below_drewN hB nq))
      · obtain rfl : j = m := by omega
        have hrl : (rows.map RowH.vals).length = j := by rw [List.length_map]; exact HM.out
        have hz : derrs cols.length (rows.map RowH.vals) = 0 := by rw [HE.out, List.drop_eq_nil_of_le (by rw [hrl]; exact Nat.le_refl _)]; rfl
        rw [List.take_of_length_le (by rw [hrl]; exact Nat.le_refl _)] at hown
        obtain ⟨l, hl⟩ : ∃ l, H ++ (rows.map RowH.vals).map drfl = l := ⟨_, rfl⟩
        have hq : q = wput l := by rw [HQ2.out, if_pos hz, HH.out, hl]
        have hll : l.length = k := by rw [← hl, List.length_append, HK0.out, List.length_map, hrl, ← HKK.out]
        have hlok : ∀ f ∈ l, FldOk f := by
          intro f hf
          rw [← hl, ← HH.out] at hf
          have hn16 := H16.out
          have hn := HN.out
          have hty := HOK.out.ty
          simp only at hty
          unfold dhead at hf
          simp only [List.mem_append, List.mem_map] at hf
          rcases hf with ((hf | ⟨s, _, rfl⟩) | ⟨x, hx, rfl⟩) | ⟨x, _, rfl⟩
          · split at hf
            · cases hf
            · obtain rfl : f = _ := by simpa using hf
              refine ⟨by simp, by simp, ?_⟩
              simp only
              omega
          · exact ⟨by simp, by simp, by simp⟩
          · have := hty x hx
            refine ⟨by simp, by simp, ?_⟩
            simp only
            omega
          · exact ⟨by simp [drfl], by simp [drfl], by simp [drfl]⟩
        rw [hl] at hown
        have hput := puts_any l A c (by omega) hlok wr (Rd.of_own hown)
        have hput2 : Calls Tryd.prog 32 #[.slice A l.length c] wr (BPost (wput l) wr) := hput
        rw [← hq, hll] at hput2
        have hW := bel_step hE0 hB
        clear hput hlok hq hll hl hz hrl hlt hown HE
        go_wp2_with fail
        refine hput2.mono ?_
        rintro e w5 ⟨A5, c5, rfl, ho5, hB5⟩
        go_wp2_with fail
        go_ret2
        exact ⟨A5, c5, rfl, own_base ho5 hW.size, bel_step hW hB5⟩
  · have hb : ((t : Int) != (n : Int)) = true := by simp; omega
    have hq : q = ([], 4) := by rw [← HQ.out]; unfold dput; rw [if_neg hlow, if_neg (by rw [HT.out, HN.out]; exact h3)]
    have HQ2 := Lib.hid hq
    clear h3 hq hhead h1 h2 hlow
    go_wp2_with fail
    go_ret2
    exact bpost_err HQ2.out hE0
end Go.Proofs.YtlgokfgbcohioaaDoor
