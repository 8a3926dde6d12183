/- WALK: crierref08.values -/
import Derived.Test.YtlgokfgbcohioaaDoorDsObM
import Derived.Test.YtlgokfgbcohioaaDoorK5
namespace Go.Proofs.YtlgokfgbcohioaaDoor
open Go.RowKit Plain

set_option maxRecDepth 100000 in
set_option maxHeartbeats 4000000 in
theorem rvalues_any (b : List UInt8) (A : Option Addr) (bn c : Nat) (hbn : b.length = bn) (hbc : bn ≤ c) (hbl : b.length ≤ 140737488355328) (n : Nat) (hn : n ≤ 1000) (w : World) (hr : Rd w w.heap.size A (bcl b)) :
    Calls Tryd.prog 66 #[.slice A bn c, .int .i64 n] w (RPost (drd b n) w) := by
  obtain ⟨q, hq⟩ : ∃ q, drd b n = q := ⟨_, rfl⟩
  rw [hq]
  unfold drd at hq
  have hof := rof_any b A bn c hbn hbc w hr hbl
  unfold OfPost at hof
  have HRD := Lib.hid (wof_rd b)
  have hl256 := wof_256R b
  obtain ⟨o, ho⟩ : ∃ o, wof b = o := ⟨_, rfl⟩
  rw [ho] at hof hq HRD hl256
  obtain ⟨l, er⟩ := o
  simp only at hof hq HRD hl256
  clear ho hr hbn hbl
  obtain ⟨m, hm⟩ : ∃ m, l.length = m := ⟨_, rfl⟩
  rw [hm] at hof hl256
  have HM := Lib.hid hm
  have HQ := Lib.hid hq
  clear hm hq
  go_enter Tryd.func66, Tryd.ntmps66
  go_wp2_with fail
  refine hof.mono ?_
  rintro e w1 ⟨A1, c1, rfl, ho1, hW1⟩
  clear hof
  by_cases he : er = 0
  rotate_left
  · have hbe : ((er : Int) != 0) = true := by simp; omega
    have HQ2 : Hid (q = ([], (er : Int))) := Lib.hid (by have := HQ.out; rw [if_neg he] at this; exact this.symm)
    clear he HQ ho1
    go_wp2_with fail
    go_ret2
    exact rpost_err HQ2.out hW1
  subst he
  have hall := rall_any 1 l A1 c1 (by rw [HM.out]; omega) w1 (Rd.of_own ho1)
  have HQ2 : Hid ((if (wall 1 l).length = n ∧ dtexts (wall 1 l) = true then (if ferr ((wall 1 l).map fun f => (dcv f).2) = 0 then ((wall 1 l).map fun f => (dcv f).1, 0) else ([], ferr ((wall 1 l).map fun f => (dcv f).2))) else ([], 4)) = q) := Lib.hid (by have := HQ.out; rwa [if_pos rfl] at this)
  have HT : Hid (∀ f ∈ wall 1 l, f.text.size ≤ 4096) := Lib.hid fun f hf => by
    obtain ⟨_, _, _, _, _, h⟩ := HRD.out f (wall_mem hf).1
    exact h
  have hwl := wall_len 1 l
  rw [HM.out] at hall hwl
  generalize wall 1 l = cl at *
  obtain ⟨k, hk⟩ : ∃ k, cl.length = k := ⟨_, rfl⟩
  rw [hk] at hall hwl
  have HKL := Lib.hid hk
  clear hk HQ ho1
  go_wp2_with fail
  refine hall.mono ?_
  rintro e w2 ⟨A2, c2, rfl, ho2, hB2⟩
  have hW2 := bel_step hW1 hB2
  have HR := Lib.hid (Rd.of_own ho2)
  clear hall hB2 ho2 hW1
  go_wp2_with fail
  go_loopw [8] (fun i wr => ∃ j : Nat, i = .int .i64 j ∧ j ≤ k ∧ dtexts cl = dtexts (cl.drop j) ∧ wr = w2) (fun i _ => k - (intOf i).toNat)
  case atStart => exact ⟨0, rfl, Nat.zero_le _, rfl, rfl⟩
  case round =>
    obtain ⟨j, rfl, hj, hd, rfl⟩ := hrel
    have HD := Lib.hid hd
    clear hd
    by_cases hlt : j < k
    · obtain ⟨f, hf⟩ : ∃ f, cl[j]? = some f := ⟨_, List.getElem?_eq_getElem (by rw [HKL.out]; exact hlt)⟩
      obtain ⟨b1, o1, rfl, hb1, g0, g1, g2, g3⟩ := fld_at HR.out hf
      have HDD : Hid (dtexts cl = (f.kind == 2 && dtexts (cl.drop (j + 1)))) := Lib.hid (by rw [HD.out, drop_cons hf]; rfl)
      obtain ⟨num, kind, val, text⟩ := f
      simp only at g0 g1 g2 g3 HDD
      clear hf HD
      by_cases hkd : kind = 2
      · subst hkd
        go_wp2_with fail
        go_roundw
        case rel => exact ⟨j + 1, by go_num, by omega, by rw [HDD.out]; rfl, by first | rfl | trivial⟩
        case measure => simp [intOf]; omega
      · have hb : (kind != 2) = true := by simpa using hkd
        have hdf : dtexts cl = false := by rw [HDD.out, show (kind == 2) = false by simpa using hkd]; rfl
        have HQ3 : Hid (q = ([], 4)) := Lib.hid (by have := HQ2.out; rw [if_neg (fun h => by rw [hdf] at h; exact absurd h.2 (by decide))] at this; exact this.symm)
        clear hkd hdf HDD HQ2
        go_wp2_with fail
        go_ret2
        exact rpost_err HQ3.out hW2
    · have hdt : dtexts cl = true := by rw [HD.out, List.drop_eq_nil_of_le (by rw [HKL.out]; omega)]; rfl
      obtain rfl : j = k := by omega
      clear hlt HD
      by_cases hkn : j = n
      rotate_left
      · have hbe : ((j : Int) != (n : Int)) = true := by simp; omega
        have HQ3 : Hid (q = ([], 4)) := Lib.hid (by have := HQ2.out; rw [if_neg (by rw [HKL.out]; exact fun h => hkn h.1)] at this; exact this.symm)
        clear hkn HQ2 hdt
        go_wp2_with fail
        go_ret2
        exact rpost_err HQ3.out hW2
      subst hkn
      have HQ4 : Hid ((if ferr (cl.map fun f => (dcv f).2) = 0 then (cl.map fun f => (dcv f).1, 0) else ([], ferr (cl.map fun f => (dcv f).2))) = q) := Lib.hid (by have := HQ2.out; rwa [if_pos ⟨HKL.out, hdt⟩] at this)
      clear HQ2 hdt
      obtain ⟨W2, rfl⟩ : ∃ W, W = wr := ⟨_, rfl⟩
      go_wp2_with fail
      have hE0 := World.ownsRow_nil W2 W2.heap.size 42 3
      go_loopw [9, 10] (fun o i wr => ∃ (i2 : Nat) (A5 : Option Addr) (c5 : Nat), i = .int .i64 i2 ∧ o = .slice A5 i2 c5 ∧ i2 ≤ j ∧ wr.ownsRow W2.heap.size 42 3 (.slice A5 i2 c5) i2 (vvl ((cl.take i2).map fun f => (dcv f).1)) ∧ ferr (cl.map fun f => (dcv f).2) = ferr ((cl.drop i2).map fun f => (dcv f).2) ∧ Below W2.heap.size W2 wr) (fun _ i _ => j - (intOf i).toNat)
      case atStart => exact ⟨0, none, 0, rfl, rfl, Nat.zero_le _, hE0, rfl, Below.refl _ _⟩
      case round =>
        clear hE0
        obtain ⟨i2, A5, c5, rfl, rfl, hi, hown, he, hB⟩ := hrel
        have hs := hB.size
        have HE := Lib.hid he
        clear he
        by_cases hlt : i2 < j
        · obtain ⟨f, hf⟩ : ∃ f, cl[i2]? = some f := ⟨_, List.getElem?_eq_getElem (by rw [HKL.out]; exact hlt)⟩
          obtain ⟨b1, o1, rfl, hb1, g0, g1, g2, g3⟩ := fld_at (HR.out.below hB (Nat.le_refl _)) hf
          have hft := HT.out f (List.mem_of_getElem? hf)
          have HEC : Hid (ferr (cl.map fun f => (dcv f).2) = if (dcv f).2 = 0 then ferr ((cl.drop (i2 + 1)).map fun f => (dcv f).2) else (dcv f).2) := Lib.hid (by rw [HE.out, ferr_cons (f := fun f => (dcv f).2) hf])
          have HLN : Hid (vvl ((cl.take (i2 + 1)).map fun f => (dcv f).1) = vvl ((cl.take i2).map fun f => (dcv f).1) ++ (dcv f).1.cells.toList) := Lib.hid (by rw [List.take_add_one, hf]; simp [vvl])
          obtain ⟨num, kind, val, text⟩ := f
          simp only at g0 g1 g2 g3 hft
          obtain ⟨c6, W5, hcv, hr5, hB5, hc5, hc6⟩ := run_bytes wr text
          have hof := rof_any text.data.toList (some ⟨wr.heap.size, 0, none⟩) text.size c6 (by simp) hc5 W5 hr5 (by simp; omega)
          unfold OfPost at hof
          have hrd := fun f (h : f ∈ (wof text.data.toList).1) => wrd_ok h
          have h256 := wof_256R text.data.toList
          have HDC : Hid (dcv ⟨num, kind, val, text⟩ = if (wof text.data.toList).2 = 0 then vof 1 false (wof text.data.toList).1 else (VV.zero, (wof text.data.toList).2)) := Lib.hid rfl
          obtain ⟨o, ho⟩ : ∃ o, wof text.data.toList = o := ⟨_, rfl⟩
          rw [ho] at hof hrd h256 HDC
          obtain ⟨tl, te⟩ := o
          simp only at hof hrd h256 HDC
          obtain ⟨dq, hdq⟩ : ∃ d, dcv ⟨num, kind, val, text⟩ = d := ⟨_, rfl⟩
          rw [hdq] at HDC HEC HLN
          obtain ⟨⟨vk, vn, vs⟩, ve⟩ := dq
          simp only at HDC HEC HLN
          obtain ⟨tm, htm⟩ : ∃ m, tl.length = m := ⟨_, rfl⟩
          rw [htm] at hof h256
          have HTM := Lib.hid htm
          have HRD2 := Lib.hid hrd
          have hown5 := own_kept hown hB5 (Nat.le_refl _)
          have hB6 := bel_step hB hB5
          clear ho hdq htm hf hrd hr5 hc5 hc6 HE hB5 hown
          go_wp2_with fail
          refine hof.mono ?_
          rintro e w6 ⟨A6, c7, rfl, ho6, hB7⟩
          have hown6 := own_kept hown5 hB7 (Nat.le_refl _)
          have hB8 := bel_step hB6 hB7
          clear hof hcv hown5 hB6 hB7 g0 g1 g2 g3
          by_cases he : te = 0
          rotate_left
          · have hbe : ((te : Int) != 0) = true := by simp; omega
            have HQ5 : Hid (q = ([], (te : Int))) := Lib.hid (by
              have h0 := HDC.out
              rw [if_neg he] at h0
              have h2 : ve = (te : Int) := congrArg Prod.snd h0
              have h1 := HEC.out
              rw [if_neg (by rw [h2]; omega), h2] at h1
              rw [← HQ4.out, h1, if_neg (by omega)])
            clear he HEC HDC ho6
            go_wp2_with fail
            go_ret2
            exact rpost_err HQ5.out (bel_step hW2 hB8)
          subst he
          have HDC2 : Hid (vof 1 false tl = (⟨vk, vn, vs⟩, ve)) := Lib.hid (by have := HDC.out; rw [if_pos rfl] at this; exact this.symm)
          have hv := rvof_any tl A6 c7 1 false (by rw [HTM.out]; omega) HRD2.out w6 (Rd.of_own ho6)
          rw [HDC2.out, HTM.out] at hv
          unfold VV.cells at hv
          simp only at hv
          clear HDC HDC2 ho6
          go_wp2_with fail
          refine hv.mono ?_
          rintro e w7 ⟨rfl, hB9⟩
          have hown7 := own_kept hown6 hB9 (Nat.le_refl _)
          have hB10 := bel_step hB8 hB9
          clear hv hown6 hB8 hB9
          by_cases hve : ve = 0
          rotate_left
          · have hbe : (ve != 0) = true := by simpa using hve
            have HQ5 : Hid (q = ([], ve)) := Lib.hid (by
              have h1 := HEC.out
              rw [if_neg hve] at h1
              rw [← HQ4.out, h1, if_neg hve])
            clear hve HEC
            go_wp2_with fail
            go_ret2
            exact rpost_err HQ5.out (bel_step hW2 (hB10.alloc hB10.size _))
          subst hve
          have HEC2 : Hid (ferr (cl.map fun f => (dcv f).2) = ferr ((cl.drop (i2 + 1)).map fun f => (dcv f).2)) := Lib.hid (by have := HEC.out; rwa [if_pos rfl] at this)
          have hown8 := hown7.alloc (Obj.cells #[.int .i64 vk, .int .u64 vn, .string vs] 42)
          have hB11 := hB10.alloc hB10.size (Obj.cells #[.int .i64 vk, .int .u64 vn, .string vs] 42)
          have hs11 := hB11.size
          clear HEC hown7 hB10
          go_wp2_with (at_builtin; refine wpList_app1 (c2 := 1) rfl _ _ _ rfl elemVV rfl hown8 (by rw [World.size_alloc]; rfl) rfl (by intro u hu; simp at hu; rcases hu with rfl | rfl | rfl <;> rfl) (by unfold maxLen; omega) (by omega) hs11 ?_; intro A9 c9 w9 ho9 hg9 _)
          go_roundw
          case rel => exact ⟨i2 + 1, A9, c9, by go_num, rfl, by omega, by rw [HLN.out]; exact ho9, HEC2.out, own_grown hB11 hown8 hs11 hg9⟩
          case measure => simp [intOf]; omega
        · obtain rfl : i2 = j := by omega
          have hz : ferr (cl.map fun f => (dcv f).2) = 0 := by rw [HE.out, List.drop_eq_nil_of_le (by rw [HKL.out]; exact Nat.le_refl _)]; rfl
          rw [List.take_of_length_le (by rw [HKL.out]; exact Nat.le_refl _)] at hown
          have hq : q = (cl.map fun f => (dcv f).1, 0) := by rw [← HQ4.out, if_pos hz]
          have hll : (cl.map fun f => (dcv f).1).length = i2 := by simp [HKL.out]
          subst hq
          have HO := Lib.hid hown
          clear hlt HE hz HQ4 hown
          go_wp2_with fail
          go_ret2
          refine ⟨A5, c5, ?_, ?_, bel_step hW2 hB⟩
          · show _ = Ending.returned (.tuple #[.slice _ (cl.map fun f => (dcv f).1).length c5, .int .i64 0])
            rw [hll]; rfl
          · show World.ownsRow _ _ _ _ (.slice _ (cl.map fun f => (dcv f).1).length c5) (cl.map fun f => (dcv f).1).length _
            rw [hll]; exact own_base HO.out hW2.size
end Go.Proofs.YtlgokfgbcohioaaDoor
