/- LAW WALK: WireGroups -/
import Derived.Test.YtkanhggmhjldmaaWJoinW
import Derived.Test.YtkanhggmhjldmaaWGrpP
import Derived.Test.YtkanhggmhjldmaaWPutOk
namespace Go.Proofs.Ytkanhggmhjldmaa
open Go.RowKit Plain

theorem wrap_sum {a b S : Nat} (h : a + b = S) (hb : S ≤ 20000) : wrap64 ((a : Int) + ((b : Nat) : Int)) = (S : Int) := by
  rw [show (a : Int) + ((b : Nat) : Int) = ((S : Nat) : Int) by omega]; unfold wrap64; omega
theorem tags_len_le (t k : Nat) (ht : t ≤ 16004) : (tags t k).length ≤ 2 * k := by
  induction k with
  | zero => simp [tags]
  | succ k ih =>
    have h1 : vsize t ≤ vsize 16004 := vsize_mono ht
    have h2 : vsize 16004 = 2 := by decide +kernel
    rw [tags_succ, List.length_append]
    simp only [vsize] at *
    omega
theorem tags_snoc_len (Z : List UInt8) (t j : Nat) : (Z ++ tags t j).length + vsize t = (Z ++ tags t (j + 1)).length := by
  rw [tags_snoc]; simp [vsize]; omega
theorem grp_bd {Z : List UInt8} {t j k M : Nat} (ht : t ≤ 16004) (hZ : Z.length ≤ 9000) (hj : j < k) (hk : k < 10) (hM : (Z ++ tags t (j + 1)).length = M) : M ≤ 100000 := by
  have := tags_len_le t (j + 1) ht
  rw [List.length_append] at hM
  omega
theorem dlt_true {k n : Nat} (h : k < n) : decide (((k : Nat) : Int) < (n : Int)) = true := decide_eq_true (by omega)
theorem dlt_false {k n : Nat} (h : k ≥ n) : decide (((k : Nat) : Int) < (n : Int)) = false := decide_eq_false (by omega)
theorem tag_nums (n : Nat) (hn : n < 2000) : ∃ n1 t3 t4 : Nat, (1 : Int) + (n : Int) = (n1 : Int) ∧ 1 ≤ n1 ∧ n1 ≤ 2000 ∧ (8 : Int) * (n1 : Int) + 3 = (t3 : Int) ∧ (8 : Int) * (n1 : Int) + 4 = (t4 : Int) ∧
    Hid (8 * n1 + 3 = t3) ∧ Hid (8 * n1 + 4 = t4) ∧ Hid (t3 < 18446744073709551616) ∧ Hid (t4 < 18446744073709551616) :=
  ⟨n + 1, 8 * (n + 1) + 3, 8 * (n + 1) + 4, by omega, by omega, by omega, by omega, by omega, Lib.hid rfl, Lib.hid rfl, Lib.hid (by omega), Lib.hid (by omega)⟩
/-- what the law's bytes tell -/
theorem grp_plain {a b : List Fld} {x y : List UInt8} (n k : Nat) (hn1 : 1 ≤ n) (hn : n ≤ 2000) (hk : k < 10) (hx : wencs a = x) (hy : wencs b = y) (ha : werrs a = 0) (hwa : ∀ g ∈ a, FldOk g) (hb : werrs b = 0) (hwb : ∀ g ∈ b, FldOk g) (hab : a.length + b.length ≤ 256)
    (hl : x.length + y.length + y.length + 60 ≤ 4096) : (k = 0 → wof ((([] ++ x ++ tags (8 * n + 3) k) ++ tags (8 * n + 4) k) ++ y) = (a ++ b, 0)) ∧
      (¬ k = 0 → k ≤ 8 → wof (((([] ++ x ++ tags (8 * n + 3) k) ++ y) ++ tags (8 * n + 4) k) ++ y) = (a ++ b, 0)) ∧ (k = 9 → wof (((([] ++ x ++ tags (8 * n + 3) k) ++ y) ++ tags (8 * n + 4) k) ++ y) = ([], 12)) := by
  have t1 := tags_len_le (8 * n + 3) k (by omega)
  have t2 := tags_len_le (8 * n + 4) k (by omega)
  subst hx hy
  refine ⟨fun h => ?_, fun h h8 => ?_, fun h => ?_⟩
  · subst h
    have e : ((([] ++ wencs a ++ tags (8 * n + 3) 0) ++ tags (8 * n + 4) 0) ++ wencs b) = wencs a ++ wencs b := by simp [tags]
    rw [e]
    exact wof_app (wof_wencs a ha hwa (by omega) (by omega)) (wof_wencs b hb hwb (by omega) (by omega)) (by omega) hab
  · have e := wof_groups (a := a) (b := b) n k hn1 (by omega) h8 h ha hwa hb hwb hab (by simp only [List.length_append]; omega)
    simpa using e
  · subst h
    have e := wof_deep (a := a) n hn1 (by omega) ha hwa (by omega) (wencs b ++ (tags (8 * n + 4) 9 ++ wencs b)) (by simp only [List.length_append]; omega)
    simpa using e
set_option maxRecDepth 100000 in
set_option maxHeartbeats 600000 in
theorem wgroups_any (a b : List Fld) (A1 A2 : Option Addr) (c1 c2 num deep : Nat) (hnum : num < 65536) (hdeep : deep < 256) (hla : a.length ≤ 4000000000000) (hlb : b.length ≤ 4000000000000) (hwa : ∀ f ∈ a, FldOk f) (hwb : ∀ f ∈ b, FldOk f) (w : World)
    (hr1 : Rd w w.heap.size A1 (flc a)) (hr2 : Rd w w.heap.size A2 (flc b)) :
    Calls Try.prog 6 #[.slice A1 a.length c1, .slice A2 b.length c2, .int .u16 num, .int .u8 deep] w fun e w' => e = .returned (.bool true) ∧ Below w.heap.size w w' := by
  have h1 := puts_any a A1 c1 (by omega) hwa w hr1
  have h2 := fun (W : World) (hB : Below w.heap.size w W) => puts_any b A2 c2 (by omega) hwb W ((hr2.below hB (Nat.le_refl _)).more hB.size)
  obtain ⟨na, hna⟩ : ∃ n, a.length = n := ⟨_, rfl⟩
  obtain ⟨nb, hnb⟩ : ∃ n, b.length = n := ⟨_, rfl⟩
  rw [hna] at h1 ⊢
  rw [hnb] at h2 ⊢
  unfold PutsPost at h1 h2
  obtain ⟨ra, hra⟩ : ∃ r, wput a = r := ⟨_, rfl⟩
  obtain ⟨rb, hrb⟩ : ∃ r, wput b = r := ⟨_, rfl⟩
  rw [hra] at h1
  rw [hrb] at h2
  obtain ⟨x, e1⟩ := ra
  obtain ⟨y, e2⟩ := rb
  simp only at h1 h2
  obtain ⟨nx, hnx⟩ : ∃ n, x.length = n := ⟨_, rfl⟩
  obtain ⟨ny, hny⟩ : ∃ n, y.length = n := ⟨_, rfl⟩
  rw [hnx] at h1
  rw [hny] at h2
  obtain ⟨n, hn⟩ : ∃ n, num % 2000 = n := ⟨_, rfl⟩
  obtain ⟨k, hk⟩ : ∃ k, deep % 10 = k := ⟨_, rfl⟩
  have hn' : (num : Int) % 2000 = (n : Int) := by omega
  have hk' : (deep : Int) % 10 = (k : Int) := by omega
  have hn2 : n < 2000 := by omega
  have hk2 : k < 10 := by omega
  clear hn hk hnum hdeep
  have HRA := Lib.hid hra
  have HRB := Lib.hid hrb
  have HNA := Lib.hid hna
  have HNB := Lib.hid hnb
  have HNX := Lib.hid hnx
  have HNY := Lib.hid hny
  have HWA := Lib.hid hwa
  have HWB := Lib.hid hwb
  have HR1 := Lib.hid hr1
  have HR2 := Lib.hid hr2
  clear hra hrb hna hnb hr1 hr2 hla hlb hwa hwb hnx hny
  go_enter Try.func6, Try.ntmps6
  go_wp2_with fail
  refine h1.mono ?_
  rintro e w1 ⟨B1, d1, rfl, ho1, hB1⟩
  have h3 := h2 w1 hB1
  clear h1 h2
  go_wp2_with fail
  refine h3.mono ?_
  rintro e w2 ⟨B2, d2, rfl, ho2, hB2⟩
  have ho1' := own_kept ho1 hB2 (Nat.le_refl _)
  have hW := bel_step hB1 hB2
  clear h3 ho1 hB1 hB2
  have hcx := own_cap ho1'
  have hcy := own_cap ho2
  -- TAIL
  have HMN := Lib.hid hn'
  have HMK := Lib.hid hk'
  have HK2 := Lib.hid hk2
  clear hn' hk' hcx hcy hk2
  by_cases h1 : e1 = 0
  · subst h1
    by_cases h2 : e2 = 0
    · subst h2
      obtain ⟨p1, p2, p3, p4⟩ := wput_ok (show (wput a).2 = 0 by rw [HRA.out])
      obtain ⟨q1, q2, q3, q4⟩ := wput_ok (show (wput b).2 = 0 by rw [HRB.out])
      have hx : wencs a = x := by rw [HRA.out] at p1; exact (congrArg Prod.fst p1).symm
      have hy : wencs b = y := by rw [HRB.out] at q1; exact (congrArg Prod.fst q1).symm
      rw [hx, HNX.out] at p4
      rw [hy, HNY.out] at q4
      have HX := Lib.hid hx
      have HY := Lib.hid hy
      have HP2 := Lib.hid p2
      have HQ2 := Lib.hid q2
      have hna : na ≤ 256 := by rw [← HNA.out]; exact p3
      have hnb : nb ≤ 256 := by rw [← HNB.out]; exact q3
      clear p1 p2 p3 q1 q2 q3 hx hy
      obtain ⟨T, hT⟩ : ∃ T, na + nb = T := ⟨_, rfl⟩
      obtain ⟨S1, hS1⟩ : ∃ S, nx + ny = S := ⟨_, rfl⟩
      obtain ⟨S2, hS2⟩ : ∃ S, S1 + ny = S := ⟨_, rfl⟩
      obtain ⟨S3, hS3⟩ : ∃ S, S2 + 60 = S := ⟨_, rfl⟩
      have b1 : T ≤ 20000 := by omega
      have b2 : S1 ≤ 20000 := by omega
      have b3 : S2 ≤ 20000 := by omega
      have b4 : S3 ≤ 20000 := by omega
      have HTT := Lib.hid hT
      have HSS : Hid (nx + ny + ny + 60 = S3 ∧ nx ≤ 4096 ∧ ny ≤ 4096 ∧ na ≤ 256 ∧ nb ≤ 256 ∧ nx + ny = S1 ∧ S1 + ny = S2) := Lib.hid ⟨by omega, p4, q4, hna, hnb, hS1, hS2⟩
      have HF := Lib.hid (Nat.lt_or_ge 256 T)
      have HBG := Lib.hid (Nat.lt_or_ge 4096 S3)
      clear hna hnb p4 q4
      have htT := wrap_sum hT b1
      have ht1 := wrap_sum hS1 b2
      have ht2 := wrap_sum hS2 b3
      have ht3 : wrap64 ((S2 : Int) + 60) = (S3 : Int) := wrap_sum (b := 60) hS3 b4
      clear b1 b2 b3 b4 hT hS1 hS2 hS3
      rcases HF.out with hfull | hfull
      · have hdT : decide ((256 : Int) < (T : Int)) = true := dlt_true hfull
        clear hfull ho1' ho2 ht1 ht2 ht3
        go_wp2_with fail
        refine (awake3_any w2).mono ?_
        rintro e w3 ⟨rfl, hB3⟩
        go_wp2_with fail
        go_ret
        exact ⟨rfl, bel_step hW hB3⟩
      have hdT : decide ((256 : Int) < (T : Int)) = false := dlt_false hfull
      rcases HBG.out with hbig | hbig
      · have hdS : decide ((4096 : Int) < (S3 : Int)) = true := dlt_true hbig
        clear hbig hfull ho1' ho2
        go_wp2_with fail
        refine (awake3_any w2).mono ?_
        rintro e w3 ⟨rfl, hB3⟩
        go_wp2_with fail
        go_ret
        exact ⟨rfl, bel_step hW hB3⟩
      have hdS : decide ((4096 : Int) < (S3 : Int)) = false := dlt_false hbig
      have HH : Hid (T ≤ 256 ∧ S3 ≤ 4096) := Lib.hid ⟨hfull, hbig⟩
      clear hbig hfull
      have hn' := HMN.out
      have hk' := HMK.out
      obtain ⟨n1, t3, t4, hn1', hn1lo, hn1hi, ht3i, ht4i, HT3, HT4, HB3, HB4⟩ := tag_nums n hn2
      clear hn2
      have hws := hW.size
      have hE := own_emptyB w2 (Nat.le_refl w2.heap.size)
      have hE0 : Below w2.heap.size w2 (w2.alloc (.cells #[] 5)) := (Below.refl _ w2).alloc (Nat.le_refl _) _
      have hrx : Rd (w2.alloc (.cells #[] 5)) w2.heap.size B1 (bcl x) := (Rd.of_own ho1').alloc (Nat.le_refl _) _
      have hry := Rd.of_own ho2
      have HXN := Lib.hid (show ([] ++ x).length = nx by simpa using HNX.out)
      clear ho1' ho2
      go_wp2_with (at_builtin; (refine wpList_appB rfl _ _ rfl rfl hE rfl hrx HNX.out nx (by omega) (by have := HSS.out; omega) (by simp) ?_; intro A5 c5 w5 ho5 hg5; have hB5 := own_grown hE0 hE (by simp) hg5; have hs5 := hB5.size; clear hE hE0 hrx hg5))
      clear hws
      have ZL : ([] ++ x).length ≤ 9000 := by rw [HXN.out]; have := HSS.out; omega
      have T16 : t3 ≤ 16004 ∧ t4 ≤ 16004 := ⟨by have := HT3.out; omega, by have := HT4.out; omega⟩
      have HT16 := Lib.hid T16
      clear T16
      go_loopw [15, 16] (fun m i wr => ∃ (j M : Nat) (A : Option Addr) (c : Nat), i = .int .i64 j ∧ m = .slice A M c ∧ j ≤ k ∧ (([] ++ x) ++ tags t3 j).length = M ∧ wr.ownsRow w2.heap.size 5 1 (.slice A M c) M (bcl (([] ++ x) ++ tags t3 j)) ∧ Below w2.heap.size w2 wr) (fun _ i _ => k - (intOf i).toNat)
      case atStart => exact ⟨0, _, _, _, rfl, rfl, Nat.zero_le _, by simpa [tags] using HXN.out, by simpa [tags] using ho5, hB5⟩
      case round =>
        obtain ⟨j, M, A, c, rfl, rfl, hj, hM, hown, hB⟩ := hrel
        have hs3 := hB.size
        by_cases hlt : j < k
        · obtain ⟨M2, hM2⟩ : ∃ M2, (([] ++ x) ++ tags t3 (j + 1)).length = M2 := ⟨_, rfl⟩
          have HM2 := Lib.hid hM2
          have HMS : Hid (M + vsize t3 = M2 ∧ M2 ≤ 100000) := Lib.hid ⟨by rw [← hM, ← hM2]; exact tags_snoc_len _ _ _, grp_bd HT16.out.1 ZL hlt HK2.out hM2⟩
          clear hM2 hM
          go_wp2_with fail
          refine (rvput_any t3 HB3.out _).mono ?_
          rintro e w5 ⟨A6, c6, rfl, ho6, hB6⟩
          have ho7 := own_kept hown hB6 (Nat.le_refl _)
          have hr6 := Rd.of_own ho6
          have hB7 := hB.trans (hB6.mono hs3)
          have hs7 := hB7.size
          clear hown ho6 hB6 hB
          go_wp2_with (at_builtin; refine wpList_appB rfl _ _ rfl rfl ho7 rfl hr6 rfl M2 HMS.out.1 (by have := HMS.out; omega) hs7 ?_; intro A8 c8 w8 ho8 hg8)
          go_roundw
          case rel => exact ⟨j + 1, M2, A8, c8, by go_num, rfl, by omega, HM2.out, by rw [tags_snoc, ← List.append_assoc]; exact ho8, own_grown hB7 ho7 hs7 hg8⟩
          case measure => simp [intOf]; omega
        · obtain rfl : k = j := by omega
          clear ho5 hB5 hs5 hlt hj
          by_cases hz : k = 0
          · have hk0 : decide (0 < k) = false := by simp; omega
            have HK0 := Lib.hid hz
            have ht4k : tags t4 k = [] := by rw [hz]; rfl
            have hM3 : (([] ++ x ++ tags t3 k) ++ tags t4 k).length = M := by rw [ht4k, List.append_nil]; exact hM
            have hown3 : wr.ownsRow w2.heap.size 5 1 (.slice A M c) M (bcl (([] ++ x ++ tags t3 k) ++ tags t4 k)) := by rw [ht4k, List.append_nil]; exact hown
            clear hown hM hz ht4k
            have hown := hown3
            have hM := hM3
            clear hown3 hM3
            have hMb : M ≤ 90000 := by
              have := tags_len_le t3 k HT16.out.1
              have := tags_len_le t4 k HT16.out.2
              have := HXN.out
              have := HSS.out
              have := HK2.out
              simp only [List.length_append] at *
              omega
            obtain ⟨L, hL⟩ : ∃ L, (([] ++ x ++ tags t3 k) ++ tags t4 k) ++ y = L := ⟨_, rfl⟩
            obtain ⟨MF, hMF⟩ : ∃ m, M + ny = m := ⟨_, rfl⟩
            have HLN : Hid (L.length = MF) := Lib.hid (by rw [← hL, List.length_append, hM, HNY.out, hMF])
            have HMF : Hid (M + ny = MF ∧ MF ≤ 100000) := Lib.hid ⟨hMF, by have := HSS.out; omega⟩
            have HL := Lib.hid hL
            have hryF := hry.below hB (Nat.le_refl _)
            clear hM hMF hL ZL hry
            go_wp2_with fail
            go_loopw [15, 17] (fun m i wz => i = .int .i64 0 ∧ m = .slice A M c ∧ wz = wr) (fun _ _ _ => 0)
            case atStart => exact ⟨rfl, rfl, rfl⟩
            case round =>
              obtain ⟨rfl, rfl, rfl⟩ := hrel
              go_wp2_with (at_builtin; refine wpList_appB rfl _ _ rfl rfl hown rfl hryF HNY.out MF HMF.out.1 (by have := HMF.out; omega) hs3 ?_; intro A10 c10 w10 hoF hg10; have hBF := own_grown hB hown hs3 hg10; clear hg10 hown hB hryF)
              rw [HL.out] at hoF
              have hcapF := own_cap hoF
              have hof := of_any L A10 MF c10 HLN.out hcapF.1 hcapF.2 w10 (Rd.of_own hoF)
              unfold OfPost at hof
              clear hoF hcapF
              have hpl := grp_plain (a := a) (b := b) n1 k hn1lo hn1hi HK2.out HX.out HY.out HP2.out HWA.out HQ2.out HWB.out (by rw [HNA.out, HNB.out, HTT.out]; exact HH.out.1) (by rw [HNX.out, HNY.out]; have := HSS.out; have := HH.out; omega)
              rw [HT3.out, HT4.out] at hpl
              have hwo := hpl.1 HK0.out
              rw [HL.out] at hwo
              rw [hwo] at hof
              simp only at hof
              have hlen : (a ++ b).length = na + nb := by simp [HNA.out, HNB.out]
              rw [hlen] at hof
              have HLEN := Lib.hid hlen
              have h8 : decide ((8 : Int) < (k : Int)) = false := by have := HK0.out; simp; omega
              clear hpl hwo hlen
              refine hof.mono ?_
              rintro e w11 ⟨A11, c11, rfl, ho11, hB11⟩
              have hW11 := bel_step hW (hBF.trans (hB11.mono hBF.size))
              have hq1 : Rd w11 w11.heap.size A1 (flc a) := (HR1.out.below hW11 (Nat.le_refl _)).more hW11.size
              have hq2 : Rd w11 w11.heap.size A2 (flc b) := (HR2.out.below hW11 (Nat.le_refl _)).more hW11.size
              have hq3 : Rd w11 w11.heap.size A11 (flc (a ++ b)) := Rd.of_own ho11
              have hE : (w11.alloc (.cells #[] 49)).ownsRow w11.heap.size 49 4 (.slice (some ⟨w11.heap.size, 0, none⟩) 0 0) 0 (flc []) := own_empty w11 _ (Nat.le_refl _)
              have hE0 : Below w11.heap.size w11 (w11.alloc (.cells #[] 49)) := (Below.refl _ w11).alloc (Nat.le_refl _) _
              have hq1' := hq1.alloc (Nat.le_refl _) (.cells #[] 49)
              clear hof ho11 hB11 hBF hW hq1
              go_wp2_with (at_builtin; first
                | (refine wpList_appF_on (by rfl) _ _ rfl rfl hE rfl hq1' HNA.out na (by omega) (by have := HSS.out; omega) (by simp) ?_; intro A12 c12 w12 ho12 hg12; have hB12 := own_grown hE0 hE (by simp) hg12; have hq22 := hq2.below hB12 (Nat.le_refl _); have hq32 := hq3.below hB12 (Nat.le_refl _); have hs12 := hB12.size; clear hE hE0 hq1' hg12)
                | (refine wpList_appF_on (by rfl) _ _ rfl rfl ho12 rfl hq22 HNB.out (na + nb) rfl (by have := HSS.out; omega) hs12 ?_; intro A13 c13 w13 ho13 hg13; have hB13 := own_grown hB12 ho12 hs12 hg13; clear hg13 ho12 hq22))
              have hr13 : Rd w13 w13.heap.size A13 (flc (a ++ b)) := by
                have := Rd.of_own ho13
                rwa [List.nil_append] at this
              have hsame := same_any A11 A13 c11 c13 (a ++ b) (by have := HSS.out; have := HLEN.out; omega) w13 hB13.size (Nat.le_refl _) (hq3.below hB13 (Nat.le_refl _)) hr13
              rw [HLEN.out] at hsame
              have hW13 := bel_step hW11 hB13
              clear hq2 hq3 hr13 ho13 hB13 hW11 hq32 hB12 hs12
              refine hsame.mono ?_
              rintro e w14 ⟨rfl, hB14⟩
              have hW14 := bel_step hW13 hB14
              clear hsame
              go_wp2_with fail
              refine (awake3_any w14).mono ?_
              rintro e w15 ⟨rfl, hB15⟩
              go_wp2_with fail
              go_ret
              exact ⟨rfl, bel_step hW14 hB15⟩
          · have hk0 : 0 < k := by omega
            have HK0 := Lib.hid hz
            obtain ⟨MZ, hMZ⟩ : ∃ m, M + ny = m := ⟨_, rfl⟩
            have HZN : Hid ((([] ++ x ++ tags t3 k) ++ y).length = MZ) := Lib.hid (by rw [← hMZ, ← hM, ← HNY.out]; simp [Nat.add_assoc])
            have ZL2 : (([] ++ x ++ tags t3 k) ++ y).length ≤ 9000 := by
              have := tags_len_le t3 k HT16.out.1
              have := HXN.out
              have := HSS.out
              have := HK2.out
              have := HNY.out
              simp only [List.length_append] at *
              omega
            have HMZ : Hid (M + ny = MZ ∧ MZ ≤ 9000) := Lib.hid ⟨hMZ, by rw [← HZN.out]; exact ZL2⟩
            have hry5 := hry.below hB (Nat.le_refl _)
            clear hM hz hMZ ZL
            have ZL := ZL2
            clear ZL2
            go_wp2_with (at_builtin; refine wpList_appB rfl _ _ rfl rfl hown rfl hry5 HNY.out MZ HMZ.out.1 (by have := HMZ.out; omega) hs3 ?_; intro A9 c9 w9 hoZ hg9; have hBZ := own_grown hB hown hs3 hg9; clear hg9 hown hB hry5 hk0)
            have hsZ := hBZ.size
            go_loopw [15, 17] (fun m i wr => ∃ (j M : Nat) (A : Option Addr) (c : Nat), i = .int .i64 j ∧ m = .slice A M c ∧ j ≤ k ∧ ((([] ++ x ++ tags t3 k) ++ y) ++ tags t4 j).length = M ∧ wr.ownsRow w2.heap.size 5 1 (.slice A M c) M (bcl ((([] ++ x ++ tags t3 k) ++ y) ++ tags t4 j)) ∧ Below w2.heap.size w2 wr) (fun _ i _ => k - (intOf i).toNat)
            case atStart => exact ⟨0, _, _, _, rfl, rfl, Nat.zero_le _, by simpa [tags] using HZN.out, by simpa [tags] using hoZ, hBZ⟩
            case round =>
              obtain ⟨j, M, A, c, rfl, rfl, hj, hM, hown, hB⟩ := hrel
              have hs3 := hB.size
              by_cases hlt : j < k
              · obtain ⟨M2, hM2⟩ : ∃ M2, ((([] ++ x ++ tags t3 k) ++ y) ++ tags t4 (j + 1)).length = M2 := ⟨_, rfl⟩
                have HM2 := Lib.hid hM2
                have HMS : Hid (M + vsize t4 = M2 ∧ M2 ≤ 100000) := Lib.hid ⟨by rw [← hM, ← hM2]; exact tags_snoc_len _ _ _, grp_bd HT16.out.2 ZL hlt HK2.out hM2⟩
                clear hM2 hM
                go_wp2_with fail
                refine (rvput_any t4 HB4.out _).mono ?_
                rintro e w5 ⟨A6, c6, rfl, ho6, hB6⟩
                have ho7 := own_kept hown hB6 (Nat.le_refl _)
                have hr6 := Rd.of_own ho6
                have hB7 := hB.trans (hB6.mono hs3)
                have hs7 := hB7.size
                clear hown ho6 hB6 hB
                go_wp2_with (at_builtin; refine wpList_appB rfl _ _ rfl rfl ho7 rfl hr6 rfl M2 HMS.out.1 (by have := HMS.out; omega) hs7 ?_; intro A8 c8 w8 ho8 hg8)
                go_roundw
                case rel => exact ⟨j + 1, M2, A8, c8, by go_num, rfl, by omega, HM2.out, by rw [tags_snoc, ← List.append_assoc]; exact ho8, own_grown hB7 ho7 hs7 hg8⟩
                case measure => simp [intOf]; omega
              · obtain rfl : j = k := by omega
                clear hoZ hBZ hsZ
                obtain ⟨L, hL⟩ : ∃ L, ((([] ++ x ++ tags t3 j) ++ y) ++ tags t4 j) ++ y = L := ⟨_, rfl⟩
                obtain ⟨MF, hMF⟩ : ∃ m, M + ny = m := ⟨_, rfl⟩
                have HLN : Hid (L.length = MF) := Lib.hid (by rw [← hL, List.length_append, hM, HNY.out, hMF])
                have HMF : Hid (M + ny = MF ∧ MF ≤ 100000) := Lib.hid ⟨hMF, by
                  have := tags_len_le t4 j HT16.out.2
                  have := HSS.out
                  have := HK2.out
                  rw [List.length_append] at hM
                  omega⟩
                have HL := Lib.hid hL
                have hryF := hry.below hB (Nat.le_refl _)
                clear hM hMF hL ZL hry
                go_wp2_with (at_builtin; refine wpList_appB rfl _ _ rfl rfl hown rfl hryF HNY.out MF HMF.out.1 (by have := HMF.out; omega) hs3 ?_; intro A10 c10 w10 hoF hg10; have hBF := own_grown hB hown hs3 hg10; clear hg10 hown hB hryF)
                rw [HL.out] at hoF
                have hcapF := own_cap hoF
                have hof := of_any L A10 MF c10 HLN.out hcapF.1 hcapF.2 w10 (Rd.of_own hoF)
                unfold OfPost at hof
                clear hoF hcapF
                have hpl := grp_plain (a := a) (b := b) n1 j hn1lo hn1hi HK2.out HX.out HY.out HP2.out HWA.out HQ2.out HWB.out (by rw [HNA.out, HNB.out, HTT.out]; exact HH.out.1) (by rw [HNX.out, HNY.out]; have := HSS.out; have := HH.out; omega)
                rw [HT3.out, HT4.out] at hpl
                by_cases h9 : j ≤ 8
                · have hwo := hpl.2.1 HK0.out h9
                  rw [HL.out] at hwo
                  rw [hwo] at hof
                  simp only at hof
                  have hlen : (a ++ b).length = na + nb := by simp [HNA.out, HNB.out]
                  rw [hlen] at hof
                  have HLEN := Lib.hid hlen
                  have h8 : decide ((8 : Int) < (j : Int)) = false := by simp; omega
                  clear hpl hwo hlen
                  refine hof.mono ?_
                  rintro e w11 ⟨A11, c11, rfl, ho11, hB11⟩
                  have hW11 := bel_step hW (hBF.trans (hB11.mono hBF.size))
                  have hq1 : Rd w11 w11.heap.size A1 (flc a) := (HR1.out.below hW11 (Nat.le_refl _)).more hW11.size
                  have hq2 : Rd w11 w11.heap.size A2 (flc b) := (HR2.out.below hW11 (Nat.le_refl _)).more hW11.size
                  have hq3 : Rd w11 w11.heap.size A11 (flc (a ++ b)) := Rd.of_own ho11
                  have hE : (w11.alloc (.cells #[] 49)).ownsRow w11.heap.size 49 4 (.slice (some ⟨w11.heap.size, 0, none⟩) 0 0) 0 (flc []) := own_empty w11 _ (Nat.le_refl _)
                  have hE0 : Below w11.heap.size w11 (w11.alloc (.cells #[] 49)) := (Below.refl _ w11).alloc (Nat.le_refl _) _
                  have hq1' := hq1.alloc (Nat.le_refl _) (.cells #[] 49)
                  clear hof ho11 hB11 hBF hW hq1
                  go_wp2_with (at_builtin; first
                    | (refine wpList_appF_on (by rfl) _ _ rfl rfl hE rfl hq1' HNA.out na (by omega) (by have := HSS.out; omega) (by simp) ?_; intro A12 c12 w12 ho12 hg12; have hB12 := own_grown hE0 hE (by simp) hg12; have hq22 := hq2.below hB12 (Nat.le_refl _); have hq32 := hq3.below hB12 (Nat.le_refl _); have hs12 := hB12.size; clear hE hE0 hq1' hg12)
                    | (refine wpList_appF_on (by rfl) _ _ rfl rfl ho12 rfl hq22 HNB.out (na + nb) rfl (by have := HSS.out; omega) hs12 ?_; intro A13 c13 w13 ho13 hg13; have hB13 := own_grown hB12 ho12 hs12 hg13; clear hg13 ho12 hq22))
                  have hr13 : Rd w13 w13.heap.size A13 (flc (a ++ b)) := by
                    have := Rd.of_own ho13
                    rwa [List.nil_append] at this
                  have hsame := same_any A11 A13 c11 c13 (a ++ b) (by have := HSS.out; have := HLEN.out; omega) w13 hB13.size (Nat.le_refl _) (hq3.below hB13 (Nat.le_refl _)) hr13
                  rw [HLEN.out] at hsame
                  have hW13 := bel_step hW11 hB13
                  clear hq2 hq3 hr13 ho13 hB13 hW11 hq32 hB12 hs12
                  refine hsame.mono ?_
                  rintro e w14 ⟨rfl, hB14⟩
                  have hW14 := bel_step hW13 hB14
                  clear hsame
                  go_wp2_with fail
                  refine (awake3_any w14).mono ?_
                  rintro e w15 ⟨rfl, hB15⟩
                  go_wp2_with fail
                  go_ret
                  exact ⟨rfl, bel_step hW14 hB15⟩
                · have hwo := hpl.2.2 (by have := HK2.out; omega)
                  rw [HL.out] at hwo
                  rw [hwo] at hof
                  simp only at hof
                  have h8 : decide ((8 : Int) < (j : Int)) = true := by simp; omega
                  clear hpl hwo
                  refine hof.mono ?_
                  rintro e w11 ⟨A11, c11, rfl, ho11, hB11⟩
                  have hW11 := bel_step hW (hBF.trans (hB11.mono hBF.size))
                  clear hof ho11 hB11 hBF hW
                  simp only [List.length_nil]
                  go_wp2_with fail
                  refine (awake3_any w11).mono ?_
                  rintro e w15 ⟨rfl, hB15⟩
                  go_wp2_with fail
                  go_ret
                  exact ⟨rfl, bel_step hW11 hB15⟩
    · have hbe : (e2 != 0) = true := by simpa using h2
      clear h2 ho1' ho2
      go_wp2_with fail
      refine (awake3_any w2).mono ?_
      rintro e w3 ⟨rfl, hB3⟩
      go_wp2_with fail
      go_ret
      exact ⟨rfl, bel_step hW hB3⟩
  · have hbe : (e1 != 0) = true := by simpa using h1
    clear h1 ho1' ho2
    go_wp2_with fail
    refine (awake3_any w2).mono ?_
    rintro e w3 ⟨rfl, hB3⟩
    go_wp2_with fail
    go_ret
    exact ⟨rfl, bel_step hW hB3⟩
end Go.Proofs.Ytkanhggmhjldmaa
