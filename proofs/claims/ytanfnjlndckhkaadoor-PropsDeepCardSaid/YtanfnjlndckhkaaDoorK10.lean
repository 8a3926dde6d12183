/- Several texts in one: words, plain laws and walks that the statement's proof imports. -/
import Derived.Test.YtanfnjlndckhkaaDoorK9
import Derived.Test.YtanfnjlndckhkaaDoorK5
import Derived.Test.YtanfnjlndckhkaaDoorK7
import Derived.Test.YtanfnjlndckhkaaDoorK1
import Derived.BigQuiet
import Derived.Deep.QuietTactic
import Derived.IntWalk
/- WALK: crierref07.of (printed by genpof.py) -/
namespace Go.Proofs.YtanfnjlndckhkaaDoor
open Go.RowKit Plain

set_option maxRecDepth 100000 in
set_option maxHeartbeats 16000000 in
theorem rpof_step (n deep : Nat) (hnd : n + 1 + deep = 9) (ih : ∀ (b : List UInt8) (A : Option Addr) (bn c : Nat) (w : World), b.length = bn → bn ≤ c → b.length ≤ 140737488355328 → Rd w w.heap.size A (bcl b) → Calls Tryd.prog 47 #[.slice A bn c, .int .i64 (deep + 1)] w (POPost (pofn n b) w))
    (b : List UInt8) (A : Option Addr) (bn c : Nat) (w : World) (hbn : b.length = bn) (hbc : bn ≤ c) (hbl : b.length ≤ 140737488355328) (hr : Rd w w.heap.size A (bcl b)) :
    Calls Tryd.prog 47 #[.slice A bn c, .int .i64 deep] w (POPost (pofn (n + 1) b) w) := by
  obtain ⟨q, hq⟩ : ∃ q, pofn (n + 1) b = q := ⟨_, rfl⟩
  rw [hq]
  rw [pofn] at hq
  have hd8 : decide ((8 : Int) < (deep : Int)) = false := decide_eq_false (by omega)
  have hof := rof_any b A bn c hbn hbc w hr hbl
  unfold OfPost at hof
  have HRD := Lib.hid (wof_rd b)
  have h256 := wof_256R b
  obtain ⟨o, ho⟩ : ∃ o, wof b = o := ⟨_, rfl⟩
  rw [ho] at hof hq HRD h256
  obtain ⟨l, er⟩ := o
  simp only at hof hq HRD h256
  have HQ := Lib.hid hq
  obtain ⟨m, hm⟩ : ∃ m, l.length = m := ⟨_, rfl⟩
  rw [hm] at hof h256
  have HM := Lib.hid hm
  have HIH := Lib.hid ih
  have HND := Lib.hid hnd
  clear ho hq hm hr hbn ih hnd
  go_enter Tryd.func47, Tryd.ntmps47
  go_wp2_with fail
  refine hof.mono ?_
  rintro e w1 ⟨A1, c1, rfl, ho1, hW1⟩
  clear hof
  by_cases he : er = 0
  rotate_left
  · have hbe : ((er : Int) != 0) = true := by simp; omega
    have HQ2 : Hid (q = (.nil, (er : Int))) := Lib.hid (by have := HQ.out; rw [if_neg he] at this; exact this.symm)
    clear he HQ ho1
    go_wp2_with fail
    go_ret2
    exact popost_err HQ2.out hW1
  subst he
  have hr1 := Rd.of_own ho1
  have HQ2 : Hid ((if phalves l = 0 then (if ferr ((pitems (pofn n) l).map (·.2)) = 0 then (Ps.build ((pitems (pofn n) l).map (·.1)), 0) else (.nil, ferr ((pitems (pofn n) l).map (·.2)))) else (.nil, phalves l)) = q) := Lib.hid (by have := HQ.out; rwa [if_pos rfl] at this)
  have HHO := Lib.hid (phalves_ok (l := l))
  clear HQ ho1
  go_wp2_with fail
  go_loopw [8] (fun i wr => ∃ (j : Nat), i = .int .i64 j ∧ j ≤ m ∧ ferr (l.map phalf) = ferr ((l.drop j).map phalf) ∧ Below w1.heap.size w1 wr) (fun i _ => m - (intOf i).toNat)
  case atStart => exact ⟨0, rfl, Nat.zero_le _, rfl, Below.refl _ _⟩
  case round =>
    obtain ⟨j, rfl, hj, he, hBr⟩ := hrel
    have hs := hBr.size
    have HE := Lib.hid he
    clear he
    by_cases hlt : j < m
    · obtain ⟨f, hf⟩ : ∃ f, l[j]? = some f := ⟨_, List.getElem?_eq_getElem (by rw [HM.out]; exact hlt)⟩
      obtain ⟨b1, o1, rfl, hb1, g0, g1, g2, g3⟩ := fld_at (hr1.below hBr (Nat.le_refl _)) hf
      have hfr := (HRD.out f (List.mem_of_getElem? hf)).1
      have HEC : Hid (ferr (l.map phalf) = if phalf f = 0 then ferr ((l.drop (j + 1)).map phalf) else phalf f) := Lib.hid (by rw [HE.out, ferr_cons (f := phalf) hf])
      obtain ⟨num, kind, val, text⟩ := f
      simp only at g0 g1 g2 g3 hfr
      clear hf HE
      by_cases n12 : num ≤ 2
      · have hb2 : decide (num ≤ 2) = true := decide_eq_true n12
        by_cases hk : kind = 2
        · have HG : Hid (ferr (l.map phalf) = ferr ((l.drop (j + 1)).map phalf)) := Lib.hid (by have := HEC.out; rwa [if_pos (show phalf ⟨num, kind, val, text⟩ = 0 by unfold phalf; rw [if_neg (fun h => h.2 hk)])] at this)
          subst hk
          clear HEC n12
          go_wp2_with fail
          go_roundw
          case rel => exact ⟨j + 1, by go_num, by omega, HG.out, hBr⟩
          case measure => simp [intOf]; omega
        · have hph : phalves l = 4 := by
            have h1 := HEC.out
            have h0 : phalf ⟨num, kind, val, text⟩ = 4 := by unfold phalf; rw [if_pos ⟨show num = 1 ∨ num = 2 by omega, hk⟩]
            rw [h0, if_neg (by decide)] at h1
            unfold phalves
            rw [if_neg (by rw [h1]; decide), h1]
          have HQ3 : Hid (q = (.nil, 4)) := Lib.hid (by have := HQ2.out; rw [hph, if_neg (by decide)] at this; exact this.symm)
          have hbk : (kind != 2) = true := by simpa using hk
          clear HEC hph n12 hk HQ2
          go_wp2_with fail
          go_ret2
          exact popost_err HQ3.out (bel_step hW1 hBr)
      · have hb2 : decide (num ≤ 2) = false := decide_eq_false n12
        have HG : Hid (ferr (l.map phalf) = ferr ((l.drop (j + 1)).map phalf)) := Lib.hid (by have := HEC.out; rwa [if_pos (show phalf ⟨num, kind, val, text⟩ = 0 by unfold phalf; rw [if_neg (fun h => n12 (by have := h.1; simp only at this; omega))])] at this)
        clear HEC n12
        go_wp2_with fail
        go_roundw
        case rel => exact ⟨j + 1, by go_num, by omega, HG.out, hBr⟩
        case measure => simp [intOf]; omega
    obtain rfl : j = m := by omega
    have hz : ferr (l.map phalf) = 0 := by rw [HE.out, List.drop_eq_nil_of_le (by rw [HM.out]; exact Nat.le_refl _)]; rfl
    have hph : phalves l = if 32 < (wall 1 l).length ∨ 32 < (wall 2 l).length then 6 else if (wall 1 l).length = (wall 2 l).length then 0 else 4 := by unfold phalves; rw [if_pos hz]
    have ha1 := rall_any 1 l A1 c1 (by rw [HM.out]; omega) wr ((hr1.below hBr (Nat.le_refl _)).more hBr.size)
    have ha2 := fun W (hB' : Below wr.heap.size wr W) => rall_any 2 l A1 c1 (by rw [HM.out]; omega) W ((hr1.below (bel_step hBr hB') (Nat.le_refl _)).more (bel_step hBr hB').size)
    have hWr := bel_step hW1 hBr
    obtain ⟨K, hKe⟩ : ∃ K, wall 1 l = K := ⟨_, rfl⟩
    obtain ⟨V, hVe⟩ : ∃ V, wall 2 l = V := ⟨_, rfl⟩
    rw [HM.out] at ha1 ha2
    rw [hKe] at ha1 hph
    rw [hVe] at ha2 hph
    obtain ⟨nk, hnk⟩ : ∃ k, K.length = k := ⟨_, rfl⟩
    obtain ⟨nv, hnv⟩ : ∃ k, V.length = k := ⟨_, rfl⟩
    rw [hnk] at ha1 hph
    rw [hnv] at ha2 hph
    have kl1 := wall_len 1 l
    have kl2 := wall_len 2 l
    rw [hKe, hnk, HM.out] at kl1
    rw [hVe, hnv, HM.out] at kl2
    have HPH := Lib.hid hph
    have HKV := Lib.hid (And.intro (And.intro hKe hVe) (And.intro hnk hnv))
    clear hlt HE hz hph hKe hVe hnk hnv hr1 hW1 hBr
    go_wp2_with fail
    refine ha1.mono ?_
    rintro e wa ⟨A2, c2, rfl, hoK, hBK⟩
    have ha3 := ha2 wa hBK
    clear ha1 ha2
    go_wp2_with fail
    refine ha3.mono ?_
    rintro e w2 ⟨A3, c3, rfl, hoV, hBV⟩
    have hrV := Rd.of_own hoV
    have hrK := ((Rd.of_own hoK).below hBV (Nat.le_refl _)).more hBV.size
    have hWa := bel_step hWr hBK
    have hW2 := bel_step hWa hBV
    clear ha3 hoK hoV hBK hBV hWr hWa hs
    by_cases b1 : 32 < nk
    · have d1 : decide ((32 : Int) < (nk : Int)) = true := decide_eq_true (by omega)
      have HQ3 : Hid (q = (.nil, 6)) := Lib.hid (by have := HQ2.out; rw [HPH.out, if_pos (Or.inl b1), if_neg (by decide)] at this; exact this.symm)
      clear b1 HQ2 HPH HHO
      go_wp2_with fail
      go_ret2
      exact popost_err HQ3.out hW2
    have d1 : decide ((32 : Int) < (nk : Int)) = false := decide_eq_false (by omega)
    by_cases b2 : 32 < nv
    · have d2 : decide ((32 : Int) < (nv : Int)) = true := decide_eq_true (by omega)
      have HQ3 : Hid (q = (.nil, 6)) := Lib.hid (by have := HQ2.out; rw [HPH.out, if_pos (Or.inr b2), if_neg (by decide)] at this; exact this.symm)
      clear b2 b1 HQ2 HPH HHO
      go_wp2_with fail
      go_ret2
      exact popost_err HQ3.out hW2
    have d2 : decide ((32 : Int) < (nv : Int)) = false := decide_eq_false (by omega)
    by_cases b3 : nk = nv
    rotate_left
    · have d3 : ((nk : Int) != (nv : Int)) = true := by simp; omega
      have HQ3 : Hid (q = (.nil, 4)) := Lib.hid (by have h4 : phalves l = 4 := (by rw [HPH.out, if_neg (show ¬ (32 < nk ∨ 32 < nv) by omega), if_neg b3]); have := HQ2.out; rw [h4, if_neg (by decide)] at this; exact this.symm)
      clear b3 b2 b1 HQ2 HPH HHO
      go_wp2_with fail
      go_ret2
      exact popost_err HQ3.out hW2
    subst b3
    have hk32 : nk ≤ 32 := by omega
    have HQ4' : Hid ((if ferr ((pitems (pofn n) l).map (·.2)) = 0 then (Ps.build ((pitems (pofn n) l).map (·.1)), 0) else (.nil, ferr ((pitems (pofn n) l).map (·.2)))) = q) := Lib.hid (by
      have := HQ2.out
      rwa [if_pos (show phalves l = 0 by rw [HPH.out, if_neg (by omega), if_pos rfl])] at this)
    obtain ⟨⟨hKe, hVe⟩, hnk, hnv⟩ := HKV.out
    have hits : pitems (pofn n) l = List.zipWith (fun k v => pitem (pofn n) k.text v.text) K V := by unfold pitems; rw [hKe, hVe]
    rw [hits] at HQ4'
    obtain ⟨its, hit⟩ : ∃ d, List.zipWith (fun k v => pitem (pofn n) k.text v.text) K V = d := ⟨_, rfl⟩
    rw [hit] at HQ4'
    have HQ4 := HQ4'
    have HIT := Lib.hid hit
    have HNK := Lib.hid (And.intro hnk hnv)
    have hil : its.length = nk := by rw [← hit, List.length_zipWith, hnk, hnv, Nat.min_self]
    have HIL := Lib.hid hil
    have HVT : Hid (∀ f ∈ V, f.text.size ≤ 4096) := Lib.hid (by
      intro f hf
      rw [← hVe] at hf
      obtain ⟨_, _, _, _, _, h⟩ := HRD.out f (wall_mem hf).1
      exact h)
    clear hits hit hnk hnv hKe hVe HQ2 HHO HQ4' hil HRD HPH HKV b1 b2 hj kl1 kl2
    go_wp2_with fail
    have hE0 := World.ownsRow_nil w2 w2.heap.size 75 7
    go_loopw [11, 12] (fun o i wr => ∃ (j : Nat) (A5 : Option Addr) (c5 : Nat) (new : List Pn), i = .int .i64 j ∧ o = .slice A5 j c5 ∧ j ≤ nk ∧ wr.ownsRow w2.heap.size 75 7 (.slice A5 j c5) j (pcl new) ∧ new.map Pn.strip = (its.take j).map (·.1) ∧ ferr (its.map (·.2)) = ferr ((its.drop j).map (·.2)) ∧
      (∀ p ∈ new, p.Ok) ∧ (∀ p ∈ new, p.sub.AtS wr (fun b => (Value.slice A5 j c5).ownBlock ≠ some b ∧ w2.heap.size ≤ b) p.adr) ∧ Below w2.heap.size w2 wr) (fun _ i _ => nk - (intOf i).toNat)
    case atStart => exact ⟨0, none, 0, [], rfl, rfl, Nat.zero_le _, hE0, by simp, rfl, by simp, by simp, Below.refl _ _⟩
    case round =>
      clear hE0
      obtain ⟨j, A5, c5, new, rfl, rfl, hj, hown, hmap, he, hoks, hnew, hBw⟩ := hrel
      have hs := hBw.size
      have HMAP := Lib.hid hmap
      have HFE0 := Lib.hid he
      have HOKS := Lib.hid hoks
      have HNEW0 := Lib.hid hnew
      clear hmap he hoks hnew
      by_cases hlt : j < nk
      · obtain ⟨kf, hkf⟩ : ∃ f, K[j]? = some f := ⟨_, List.getElem?_eq_getElem (by rw [HNK.out.1]; exact hlt)⟩
        obtain ⟨vf, hvf⟩ : ∃ f, V[j]? = some f := ⟨_, List.getElem?_eq_getElem (by rw [HNK.out.2]; exact hlt)⟩
        obtain ⟨bK, oK, rfl, hbK, _, _, _, k3⟩ := fld_at hrK hkf
        obtain ⟨bV, oV, rfl, hbV, _, _, _, v3⟩ := fld_at hrV hvf
        have hvt := HVT.out vf (List.mem_of_getElem? hvf)
        have hitj : its[j]? = some (pitem (pofn n) kf.text vf.text) := by rw [← HIT.out, List.getElem?_zipWith, hkf, hvf]
        have hrd : ∀ (Ab : Option Addr) (cb : Nat) W, vf.text.size ≤ cb → Rd W W.heap.size Ab (bcl vf.text.data.toList) → Calls Tryd.prog 67 #[.string kf.text, .slice Ab vf.text.size cb, .int .i64 deep] W (PRPost (pitem (pofn n) kf.text vf.text) W) := fun Ab cb W h1 h2 =>
          rpread_any kf.text vf.text.data.toList Ab vf.text.size cb (by simp) h1 (by simpa using hvt) deep n (by have := HND.out; omega) W h2 (fun b A bn c W' h1 h2 h3 h4 => HIH.out b A bn c W' h1 h2 h3 h4)
        have HTK : Hid ((its.take (j + 1)).map (·.1) = (its.take j).map (·.1) ++ [(pitem (pofn n) kf.text vf.text).1]) := Lib.hid (by rw [List.take_add_one, hitj]; simp)
        have HFE1 : Hid (ferr (its.map (·.2)) = if (pitem (pofn n) kf.text vf.text).2 = 0 then ferr ((its.drop (j + 1)).map (·.2)) else (pitem (pofn n) kf.text vf.text).2) := Lib.hid (by rw [HFE0.out, drop_cons hitj]; rfl)
        obtain ⟨knum, kkind, kval, ktext⟩ := kf
        obtain ⟨vnum, vkind, vval, vtext⟩ := vf
        simp only at k3 v3 hrd HTK HFE1
        unfold PRPost at hrd
        obtain ⟨⟨dp, re⟩, hd⟩ : ∃ d, pitem (pofn n) ktext vtext = d := ⟨_, rfl⟩
        rw [hd] at hrd HTK HFE1
        simp only at hrd HTK HFE1
        clear hkf hvf hitj hd hvt HFE0
        go_wp2_with fail
        have hown := (show World.ownsRow wr.drew _ _ _ _ _ _ from hown)
        have hnew : ∀ p ∈ new, p.sub.AtS wr.drew (fun b => (Value.slice A5 j c5).ownBlock ≠ some b ∧ w2.heap.size ≤ b) p.adr := fun p hp => (HNEW0.out p hp).keep (fun _ _ _ => rfl) (Nat.le_refl _) (fun _ _ h => h)
        have hBw := hBw.drew
        have f0 := fun u (hu : Below wr.drew.heap.size wr.drew u) => (hBw.trans (hu.mono hBw.size)).cell (p := ⟨bK, oK + j * 4 + 3, none⟩) hbK
        have f1 := fun u (hu : Below wr.drew.heap.size wr.drew u) => (hBw.trans (hu.mono hBw.size)).cell (p := ⟨bV, oV + j * 4 + 3, none⟩) hbV
        simp only [k3, v3] at f0 f1
        have HNEW := Lib.hid hnew
        clear HNEW0 hnew hs
        refine wp_region_LG (belB wr.drew.heap.size) 19 [0, 1, 2, 3, 4, 5, 6, 7, 8, 9, 11, 10, 16, 12, 13, 14, 15, 17, 18] rfl (by decide) (by decide) (by kernel_rfl) ?_
        generalize wr.drew = W2 at *
        simp only [List.filterMap_cons, List.filterMap_nil, List.getElem?_cons_zero, List.getElem?_cons_succ, Option.map_some]
        refine wpL_takeG _ (v := ?_) (by kernel_rfl) (by kernel_rfl) (by kernel_rfl) (fun _ _ _ h => h) (by rfl) (fun u hu => ?_) ?_
        rotate_left
        focus
          replace hu : Below W2.heap.size W2 u := hu
          go_simp
          try with_reducible rfl
        simp only [Act.put, List.setIfInBounds_toArray, List.set_cons_zero, List.set_cons_succ]
        refine wpL_takeG _ (v := ?_) (by kernel_rfl) (by kernel_rfl) (by kernel_rfl) (fun _ _ _ h => h) (by rfl) (fun u hu => ?_) ?_
        rotate_left
        focus
          replace hu : Below W2.heap.size W2 u := hu
          go_simp
          try with_reducible rfl
        simp only [Act.put, List.setIfInBounds_toArray, List.set_cons_zero, List.set_cons_succ]
        refine wpL_takeG _ (v := ?_) (by kernel_rfl) (by kernel_rfl) (by kernel_rfl) (fun _ _ _ h => h) (by rfl) (fun u hu => ?_) ?_
        rotate_left
        focus
          replace hu : Below W2.heap.size W2 u := hu
          go_simp
          try with_reducible rfl
        simp only [Act.put, List.setIfInBounds_toArray, List.set_cons_zero, List.set_cons_succ]
        refine wpL_takeG _ (v := ?_) (by kernel_rfl) (by kernel_rfl) (by kernel_rfl) (fun _ _ _ h => h) (by rfl) (fun u hu => ?_) ?_
        rotate_left
        focus
          replace hu : Below W2.heap.size W2 u := hu
          go_simp
          try with_reducible rfl
        simp only [Act.put, List.setIfInBounds_toArray, List.set_cons_zero, List.set_cons_succ]
        refine wpL_takeG _ (v := ?_) (by kernel_rfl) (by kernel_rfl) (by kernel_rfl) (fun _ _ _ h => h) (by rfl) (fun u hu => ?_) ?_
        rotate_left
        focus
          replace hu : Below W2.heap.size W2 u := hu
          go_simp
          try with_reducible rfl
        simp only [Act.put, List.setIfInBounds_toArray, List.set_cons_zero, List.set_cons_succ]
        refine wpL_takeG _ (v := ?_) (by kernel_rfl) (by kernel_rfl) (by kernel_rfl) (fun _ _ _ h => h) (by rfl) (fun u hu => ?_) ?_
        rotate_left
        focus
          replace hu : Below W2.heap.size W2 u := hu
          go_simp
          try with_reducible rfl
        simp only [Act.put, List.setIfInBounds_toArray, List.set_cons_zero, List.set_cons_succ]
        refine wpL_takeG _ (v := ?_) (by kernel_rfl) (by kernel_rfl) (by kernel_rfl) (fun _ _ _ h => h) (by rfl) (fun u hu => ?_) ?_
        rotate_left
        focus
          replace hu : Below W2.heap.size W2 u := hu
          go_simp
          try with_reducible rfl
        simp only [Act.put, List.setIfInBounds_toArray, List.set_cons_zero, List.set_cons_succ]
        refine wpL_takeG _ (v := ?_) (by kernel_rfl) (by kernel_rfl) (by kernel_rfl) (fun _ _ _ h => h) (by rfl) (fun u hu => ?_) ?_
        rotate_left
        focus
          replace hu : Below W2.heap.size W2 u := hu
          go_simp
          try with_reducible rfl
        simp only [Act.put, List.setIfInBounds_toArray, List.set_cons_zero, List.set_cons_succ]
        refine wpL_takeG _ (v := ?_) (by kernel_rfl) (by kernel_rfl) (by kernel_rfl) (fun _ _ _ h => h) (by rfl) (fun u hu => ?_) ?_
        rotate_left
        focus
          replace hu : Below W2.heap.size W2 u := hu
          go_simp
          try with_reducible rfl
        simp only [Act.put, List.setIfInBounds_toArray, List.set_cons_zero, List.set_cons_succ]
        refine wpL_takeG _ (v := ?_) (by kernel_rfl) (by kernel_rfl) (by kernel_rfl) (fun _ _ _ h => h) (by rfl) (fun u hu => ?_) ?_
        rotate_left
        focus
          replace hu : Below W2.heap.size W2 u := hu
          go_simp
          try with_reducible rfl
        simp only [Act.put, List.setIfInBounds_toArray, List.set_cons_zero, List.set_cons_succ]
        refine wpL_takeG _ (v := ?_) (by kernel_rfl) (by kernel_rfl) (by kernel_rfl) (fun _ _ _ h => h) (by rfl) (fun u hu => ?_) ?_
        rotate_left
        focus
          replace hu : Below W2.heap.size W2 u := hu
          go_simp
          try with_reducible rfl
        simp only [Act.put, List.setIfInBounds_toArray, List.set_cons_zero, List.set_cons_succ]
        clear f0 f1
        refine wpL_do2G _ (by kernel_rfl) (by rfl) (by rfl) (fun K hK => ?_) (fun K hK => ?_)
        · obtain ⟨cb, W3, hcv, hr3, hBc, hcb0, hcb1⟩ := run_bytes W2 vtext
          go_simp
          refine hK _ _ hBc ?_
          clear hK K hcv hcb1
          refine wpL_swapG _ ?_
          refine wpL_do2G _ (by kernel_rfl) (by rfl) (by rfl) (fun K hK => ?_) (fun K hK => ?_)
          · go_simp
            go_at_call 67
            refine (hrd _ _ _ hcb0 hr3).mono ?_
            rintro e w3 ⟨p, rfl, hstr, hok, hlen, hat, hB3⟩
            refine hK _ _ (hB3.mono hBc.size) ?_
            clear hK K
            obtain ⟨pkey, pty, pnull, ⟨pk, pn, pss⟩, padr, pcap, psub⟩ := p
            unfold Pn.agg
            simp only at hlen hat ⊢
            have HPI := Lib.hid (And.intro hstr (And.intro hok hlen))
            obtain ⟨SL, hSL⟩ : ∃ k, psub.list.length = k := ⟨_, rfl⟩
            rw [hSL]
            have HSL := Lib.hid hSL
            clear hstr hok hlen hSL
            have hB2 := bel_step hBc hB3
            refine wpL_swapG _ ?_
            refine wpL_takeG _ (v := ?_) (by kernel_rfl) (by kernel_rfl) (by kernel_rfl) (fun _ _ _ h => h) (by rfl) (fun u hu => ?_) ?_
            rotate_left
            focus
              go_simp
              try with_reducible rfl
            simp only [Act.put, List.setIfInBounds_toArray, List.set_cons_zero, List.set_cons_succ]
            refine wpL_swapG _ ?_
            refine wpL_takeG _ (v := ?_) (by kernel_rfl) (by kernel_rfl) (by kernel_rfl) (fun _ _ _ h => h) (by rfl) (fun u hu => ?_) ?_
            rotate_left
            focus
              go_simp
              try with_reducible rfl
            simp only [Act.put, List.setIfInBounds_toArray, List.set_cons_zero, List.set_cons_succ]
            refine wpL_swapG _ ?_
            refine wpL_takeG _ (v := ?_) (by kernel_rfl) (by kernel_rfl) (by kernel_rfl) (fun _ _ _ h => h) (by rfl) (fun u hu => ?_) ?_
            rotate_left
            focus
              go_simp
              try with_reducible rfl
            simp only [Act.put, List.setIfInBounds_toArray, List.set_cons_zero, List.set_cons_succ]
            refine wpL_doG _ (by kernel_rfl) (by rfl) (fun K hK => ?_)
            go_simp
            refine hK _ _ ((Below.refl W2.heap.size w3).alloc hB2.size _) ?_
            clear hK K
            have hbel := hB2.alloc hB2.size (Obj.cells #[.string ⟨#[]⟩, .int .u32 0, .bool false, .int .i64 0, .int .u64 0, .string ⟨#[]⟩, .slice none 0 0] 75)
            have hX4 : (w3.alloc (Obj.cells #[.string ⟨#[]⟩, .int .u32 0, .bool false, .int .i64 0, .int .u64 0, .string ⟨#[]⟩, .slice none 0 0] 75)).heap[w3.heap.size]? = some (.cells #[.string ⟨#[]⟩, .int .u32 0, .bool false, .int .i64 0, .int .u64 0, .string ⟨#[]⟩, .slice none 0 0] 75 (0, 0)) := World.alloc_heap_new w3 _
            have hat4 : psub.AtS (w3.alloc (Obj.cells #[.string ⟨#[]⟩, .int .u32 0, .bool false, .int .i64 0, .int .u64 0, .string ⟨#[]⟩, .slice none 0 0] 75)) (fun k => W2.heap.size ≤ k ∧ k ≠ w3.heap.size) padr := hat.keep (fun b hb _ => Below.heap_alloc w3 _ b hb) (by simp) (fun b hb hS => ⟨Nat.le_trans hBc.size hS, Nat.ne_of_lt hb⟩)
            have hle : W2.heap.size ≤ w3.heap.size := hB2.size
            generalize hw4 : w3.alloc (Obj.cells #[.string ⟨#[]⟩, .int .u32 0, .bool false, .int .i64 0, .int .u64 0, .string ⟨#[]⟩, .slice none 0 0] 75) = W4 at *
            generalize w3.heap.size = X4 at *
            clear hw4 hat hB3 hB2 hBc hr3 hrd hcb0
            have z0 : W4.cell? ⟨X4, 0, none⟩ = some (.string ⟨#[]⟩) := by simp only [World.cell?, hX4]; rfl
            have z1 : W4.cell? ⟨X4, 1, none⟩ = some (.int .u32 0) := by simp only [World.cell?, hX4]; rfl
            have z2 : W4.cell? ⟨X4, 2, none⟩ = some (.bool false) := by simp only [World.cell?, hX4]; rfl
            have z3 : W4.cell? ⟨X4, 3, none⟩ = some (.int .i64 0) := by simp only [World.cell?, hX4]; rfl
            have z4 : W4.cell? ⟨X4, 4, none⟩ = some (.int .u64 0) := by simp only [World.cell?, hX4]; rfl
            have z5 : W4.cell? ⟨X4, 5, none⟩ = some (.string ⟨#[]⟩) := by simp only [World.cell?, hX4]; rfl
            have z6 : W4.cell? ⟨X4, 6, none⟩ = some (.slice none 0 0) := by simp only [World.cell?, hX4]; rfl
            have hfz : ∀ i, W4.frozen? ⟨X4, i, none⟩ = false := fun i => by simp [World.frozen?, hX4]
            have y0 := hfz 0
            have y1 := hfz 1
            have y2 := hfz 2
            have y3 := hfz 3
            have y4 := hfz 4
            have y5 := hfz 5
            have y6 := hfz 6
            have hX5 : (((((((W4.setCell ⟨X4, 0, none⟩ (.string pkey)).setCell ⟨X4, 1, none⟩ (.int .u32 pty)).setCell ⟨X4, 2, none⟩ (.bool pnull)).setCell ⟨X4, 3, none⟩ (.int .i64 pk)).setCell ⟨X4, 4, none⟩ (.int .u64 pn)).setCell ⟨X4, 5, none⟩ (.string pss)).setCell ⟨X4, 6, none⟩ (.slice padr SL pcap)).heap[X4]? = some (.cells #[.string pkey, .int .u32 pty, .bool pnull, .int .i64 pk, .int .u64 pn, .string pss, .slice padr SL pcap] 75 (0, 0)) :=
              heap_setCell_same _ X4 6 _ _ _ (heap_setCell_same _ X4 5 _ _ _ (heap_setCell_same _ X4 4 _ _ _ (heap_setCell_same _ X4 3 _ _ _ (heap_setCell_same _ X4 2 _ _ _ (heap_setCell_same _ X4 1 _ _ _ (heap_setCell_same _ X4 0 _ _ _ hX4))))))
            have hst := below_set7 (a := 0) (b := 1) (c := 2) (d := 3) (e := 4) (f := 5) (g := 6) (Below.refl W2.heap.size W4) hle (.string pkey) (.int .u32 pty) (.bool pnull) (.int .i64 pk) (.int .u64 pn) (.string pss) (.slice padr SL pcap)
            have hat5 := ((((((hat4.low (B := X4) (i := 0) (fun b hb => hb.2) (.string pkey)).low (B := X4) (i := 1) (fun b hb => hb.2) (.int .u32 pty)).low (B := X4) (i := 2) (fun b hb => hb.2) (.bool pnull)).low (B := X4) (i := 3) (fun b hb => hb.2) (.int .i64 pk)).low (B := X4) (i := 4) (fun b hb => hb.2) (.int .u64 pn)).low (B := X4) (i := 5) (fun b hb => hb.2) (.string pss)).low (B := X4) (i := 6) (fun b hb => hb.2) (.slice padr SL pcap)
            clear hfz hat4 hX4
            refine wpL_doG _ (by kernel_rfl) (by rfl) (fun K hK => ?_)
            go_simp
            refine hK _ _ hst ?_
            clear hK K z0 z1 z2 z3 z4 z5 z6 y0 y1 y2 y3 y4 y5 y6
            have hW5 := hbel.trans hst
            generalize ((((((W4.setCell ⟨X4, 0, none⟩ (.string pkey)).setCell ⟨X4, 1, none⟩ (.int .u32 pty)).setCell ⟨X4, 2, none⟩ (.bool pnull)).setCell ⟨X4, 3, none⟩ (.int .i64 pk)).setCell ⟨X4, 4, none⟩ (.int .u64 pn)).setCell ⟨X4, 5, none⟩ (.string pss)).setCell ⟨X4, 6, none⟩ (.slice padr SL pcap) = W5 at *
            refine wpL_takeG _ (v := ?_) (by kernel_rfl) (by kernel_rfl) (by kernel_rfl) (fun _ _ _ h => h) (by rfl) (fun u hu => ?_) ?_
            rotate_left
            focus
              go_simp
              try with_reducible rfl
            simp only [Act.put, List.setIfInBounds_toArray, List.set_cons_zero, List.set_cons_succ]
            refine wpL_doneG _ (by kernel_rfl) ?_
            have q0 : W5.cell? ⟨X4, 0, none⟩ = some (.string pkey) := by simp only [World.cell?, hX5]; rfl
            have q1 : W5.cell? ⟨X4, 1, none⟩ = some (.int .u32 pty) := by simp only [World.cell?, hX5]; rfl
            have q2 : W5.cell? ⟨X4, 2, none⟩ = some (.bool pnull) := by simp only [World.cell?, hX5]; rfl
            have q3 : W5.cell? ⟨X4, 3, none⟩ = some (.int .i64 pk) := by simp only [World.cell?, hX5]; rfl
            have q4 : W5.cell? ⟨X4, 4, none⟩ = some (.int .u64 pn) := by simp only [World.cell?, hX5]; rfl
            have q5 : W5.cell? ⟨X4, 5, none⟩ = some (.string pss) := by simp only [World.cell?, hX5]; rfl
            have q6 : W5.cell? ⟨X4, 6, none⟩ = some (.slice padr SL pcap) := by simp only [World.cell?, hX5]; rfl
            have hBw5 := bel_step hBw hW5
            have hown5 := own_kept hown hW5 (Nat.le_refl _)
            have HNEW5 : Hid (∀ p ∈ new, p.sub.AtS W5 (fun b => (Value.slice A5 j c5).ownBlock ≠ some b ∧ w2.heap.size ≤ b) p.adr) := Lib.hid (fun p hp => (HNEW.out p hp).below hW5)
            have HAT5 : Hid (psub.AtS W5 (fun b => (Value.slice A5 j c5).ownBlock ≠ some b ∧ w2.heap.size ≤ b) padr) := Lib.hid (hat5.to (fun b hb => ⟨fun e => by have := (hown.lt b e).2; omega, Nat.le_trans hBw.size hb.1⟩))
            have hs5 := hBw5.size
            clear hX5 hst hat5 hW5 hbel hle hBw hown HNEW
            by_cases h0 : re = 0
            rotate_left
            · have hbe : (re != 0) = true := by simpa using h0
              have HQ5 : Hid (q = (.nil, re)) := Lib.hid (by
                have h1 := HFE1.out
                rw [if_neg h0] at h1
                rw [← HQ4.out, h1, if_neg h0])
              clear h0 HFE1 q0 q1 q2 q3 q4 q5 q6 hown5
              go_wp2_with fail
              go_ret2
              exact popost_err HQ5.out (bel_step hW2 hBw5)
            subst h0
            have HFE2 : Hid (ferr (its.map (·.2)) = ferr ((its.drop (j + 1)).map (·.2))) := Lib.hid (by have := HFE1.out; rwa [if_pos rfl] at this)
            clear HFE1
            go_wp2_with (at_builtin; refine wpList_app1 rfl _ _ _ rfl elemP rfl hown5 rfl rfl (by intro u hu; simp at hu; rcases hu with rfl | rfl | rfl | rfl | rfl | rfl | rfl <;> rfl) (by unfold maxLen; omega) (by omega) hs5 ?_; intro A9 c9 w9 ho9 hg9 hv9; have hB9 := own_grown hBw5 hown5 hs5 hg9; have hgk := Lib.hid hg9; have hvk := Lib.hid hv9; clear hg9 hv9)
            go_roundw
            case rel =>
              have hkeep : ∀ b, b < W5.heap.size → ((Value.slice A5 j c5).ownBlock ≠ some b ∧ w2.heap.size ≤ b) → w9.heap[b]? = W5.heap[b]? := fun b hb hS => hgk.out.block b hb (fun e => hS.1 e.symm)
              have hS9 : ∀ b, b < W5.heap.size → ((Value.slice A5 j c5).ownBlock ≠ some b ∧ w2.heap.size ≤ b) → ((Value.slice A9 (j + 1) c9).ownBlock ≠ some b ∧ w2.heap.size ≤ b) := fun b hb hS => ⟨fun e => by
                rcases hvk.out with h | h
                · rw [h] at e; exact hS.1 e
                · rw [h] at e; have : W5.heap.size + 1 = b := by simpa using e
                  omega, hS.2⟩
              obtain ⟨i1, i2, i3⟩ := HPI.out
              refine ⟨j + 1, A9, c9, new ++ [⟨pkey, pty, pnull, ⟨pk, pn, pss⟩, padr, pcap, psub⟩], by go_num, rfl, by omega, ?_, by rw [List.map_append, HMAP.out, HTK.out, ← i1]; rfl, HFE2.out, ?_, ?_, hB9⟩
              · rw [show pcl (new ++ [⟨pkey, pty, pnull, ⟨pk, pn, pss⟩, padr, pcap, psub⟩]) = pcl new ++ [.string pkey, .int .u32 pty, .bool pnull, .int .i64 pk, .int .u64 pn, .string pss, .slice padr SL pcap] by simp [pcl, Pn.cells, HSL.out]]
                exact ho9
              · intro p hp
                rcases List.mem_append.1 hp with hp | hp
                · exact HOKS.out p hp
                · obtain rfl : p = _ := by simpa using hp
                  exact i2
              · intro p hp
                rcases List.mem_append.1 hp with hp | hp
                · exact (HNEW5.out p hp).keep hkeep hgk.out.size hS9
                · obtain rfl : p = _ := by simpa using hp
                  exact HAT5.out.keep hkeep hgk.out.size hS9
            case measure => simp [intOf]; omega
          · go_simp
            refine hK _ _ ((Below.refl W2.heap.size W3).alloc hBc.size _) ?_
            clear hK K
            have hE3 := (Below.refl W3.heap.size W3).alloc (Nat.le_refl _) (Obj.cells #[.string ⟨#[]⟩, .int .u32 0, .bool false, .int .i64 0, .int .u64 0, .string ⟨#[]⟩, .slice none 0 0] 75)
            have hbel0 := hBc.alloc hBc.size (Obj.cells #[.string ⟨#[]⟩, .int .u32 0, .bool false, .int .i64 0, .int .u64 0, .string ⟨#[]⟩, .slice none 0 0] 75)
            have hX3 : (W3.alloc (Obj.cells #[.string ⟨#[]⟩, .int .u32 0, .bool false, .int .i64 0, .int .u64 0, .string ⟨#[]⟩, .slice none 0 0] 75)).heap[W3.heap.size]? = some (.cells #[.string ⟨#[]⟩, .int .u32 0, .bool false, .int .i64 0, .int .u64 0, .string ⟨#[]⟩, .slice none 0 0] 75 (0, 0)) := World.alloc_heap_new W3 _
            have hlX : W3.heap.size < (W3.alloc (Obj.cells #[.string ⟨#[]⟩, .int .u32 0, .bool false, .int .i64 0, .int .u64 0, .string ⟨#[]⟩, .slice none 0 0] 75)).heap.size := by simp
            have hr4 := (hr3.below hE3 (Nat.le_refl _)).more hE3.size
            refine wpL_doG _ (by kernel_rfl) (by rfl) (fun K hK => ?_)
            go_simp
            go_at_call 67
            refine (hrd _ _ _ hcb0 hr4).mono ?_
            rintro e w3 ⟨p, rfl, hstr, hok, hlen, hat, hB3⟩
            refine hK _ _ (hB3.mono hbel0.size) ?_
            clear hK K
            obtain ⟨pkey, pty, pnull, ⟨pk, pn, pss⟩, padr, pcap, psub⟩ := p
            unfold Pn.agg
            simp only at hlen hat ⊢
            have HPI := Lib.hid (And.intro hstr (And.intro hok hlen))
            obtain ⟨SL, hSL⟩ : ∃ k, psub.list.length = k := ⟨_, rfl⟩
            rw [hSL]
            have HSL := Lib.hid hSL
            clear hstr hok hlen hSL
            refine wpL_takeG _ (v := ?_) (by kernel_rfl) (by kernel_rfl) (by kernel_rfl) (fun _ _ _ h => h) (by rfl) (fun u hu => ?_) ?_
            rotate_left
            focus
              go_simp
              try with_reducible rfl
            simp only [Act.put, List.setIfInBounds_toArray, List.set_cons_zero, List.set_cons_succ]
            refine wpL_takeG _ (v := ?_) (by kernel_rfl) (by kernel_rfl) (by kernel_rfl) (fun _ _ _ h => h) (by rfl) (fun u hu => ?_) ?_
            rotate_left
            focus
              go_simp
              try with_reducible rfl
            simp only [Act.put, List.setIfInBounds_toArray, List.set_cons_zero, List.set_cons_succ]
            refine wpL_takeG _ (v := ?_) (by kernel_rfl) (by kernel_rfl) (by kernel_rfl) (fun _ _ _ h => h) (by rfl) (fun u hu => ?_) ?_
            rotate_left
            focus
              go_simp
              try with_reducible rfl
            simp only [Act.put, List.setIfInBounds_toArray, List.set_cons_zero, List.set_cons_succ]
            have hbel := bel_step hbel0 hB3
            have hX4 := (hB3.block _ hlX).trans hX3
            have hat4 : psub.AtS w3 (fun k => W2.heap.size ≤ k ∧ k ≠ W3.heap.size) padr := hat.to (fun b hb => ⟨Nat.le_trans hbel0.size hb, Nat.ne_of_gt (Nat.lt_of_lt_of_le hlX hb)⟩)
            have hle : W2.heap.size ≤ W3.heap.size := hBc.size
            generalize W3.heap.size = X4 at *
            clear hat hB3 hX3 hbel0 hlX hr4 hr3 hE3 hBc hrd hcb0
            obtain ⟨W4, rfl⟩ : ∃ W, W = w3 := ⟨_, rfl⟩
            have z0 : W4.cell? ⟨X4, 0, none⟩ = some (.string ⟨#[]⟩) := by simp only [World.cell?, hX4]; rfl
            have z1 : W4.cell? ⟨X4, 1, none⟩ = some (.int .u32 0) := by simp only [World.cell?, hX4]; rfl
            have z2 : W4.cell? ⟨X4, 2, none⟩ = some (.bool false) := by simp only [World.cell?, hX4]; rfl
            have z3 : W4.cell? ⟨X4, 3, none⟩ = some (.int .i64 0) := by simp only [World.cell?, hX4]; rfl
            have z4 : W4.cell? ⟨X4, 4, none⟩ = some (.int .u64 0) := by simp only [World.cell?, hX4]; rfl
            have z5 : W4.cell? ⟨X4, 5, none⟩ = some (.string ⟨#[]⟩) := by simp only [World.cell?, hX4]; rfl
            have z6 : W4.cell? ⟨X4, 6, none⟩ = some (.slice none 0 0) := by simp only [World.cell?, hX4]; rfl
            have hfz : ∀ i, W4.frozen? ⟨X4, i, none⟩ = false := fun i => by simp [World.frozen?, hX4]
            have y0 := hfz 0
            have y1 := hfz 1
            have y2 := hfz 2
            have y3 := hfz 3
            have y4 := hfz 4
            have y5 := hfz 5
            have y6 := hfz 6
            have hX5 : (((((((W4.setCell ⟨X4, 0, none⟩ (.string pkey)).setCell ⟨X4, 1, none⟩ (.int .u32 pty)).setCell ⟨X4, 2, none⟩ (.bool pnull)).setCell ⟨X4, 3, none⟩ (.int .i64 pk)).setCell ⟨X4, 4, none⟩ (.int .u64 pn)).setCell ⟨X4, 5, none⟩ (.string pss)).setCell ⟨X4, 6, none⟩ (.slice padr SL pcap)).heap[X4]? = some (.cells #[.string pkey, .int .u32 pty, .bool pnull, .int .i64 pk, .int .u64 pn, .string pss, .slice padr SL pcap] 75 (0, 0)) :=
              heap_setCell_same _ X4 6 _ _ _ (heap_setCell_same _ X4 5 _ _ _ (heap_setCell_same _ X4 4 _ _ _ (heap_setCell_same _ X4 3 _ _ _ (heap_setCell_same _ X4 2 _ _ _ (heap_setCell_same _ X4 1 _ _ _ (heap_setCell_same _ X4 0 _ _ _ hX4))))))
            have hst := below_set7 (a := 0) (b := 1) (c := 2) (d := 3) (e := 4) (f := 5) (g := 6) (Below.refl W2.heap.size W4) hle (.string pkey) (.int .u32 pty) (.bool pnull) (.int .i64 pk) (.int .u64 pn) (.string pss) (.slice padr SL pcap)
            have hat5 := ((((((hat4.low (B := X4) (i := 0) (fun b hb => hb.2) (.string pkey)).low (B := X4) (i := 1) (fun b hb => hb.2) (.int .u32 pty)).low (B := X4) (i := 2) (fun b hb => hb.2) (.bool pnull)).low (B := X4) (i := 3) (fun b hb => hb.2) (.int .i64 pk)).low (B := X4) (i := 4) (fun b hb => hb.2) (.int .u64 pn)).low (B := X4) (i := 5) (fun b hb => hb.2) (.string pss)).low (B := X4) (i := 6) (fun b hb => hb.2) (.slice padr SL pcap)
            clear hfz hat4 hX4
            refine wpL_doG _ (by kernel_rfl) (by rfl) (fun K hK => ?_)
            go_simp
            refine hK _ _ hst ?_
            clear hK K z0 z1 z2 z3 z4 z5 z6 y0 y1 y2 y3 y4 y5 y6
            have hW5 := hbel.trans hst
            generalize ((((((W4.setCell ⟨X4, 0, none⟩ (.string pkey)).setCell ⟨X4, 1, none⟩ (.int .u32 pty)).setCell ⟨X4, 2, none⟩ (.bool pnull)).setCell ⟨X4, 3, none⟩ (.int .i64 pk)).setCell ⟨X4, 4, none⟩ (.int .u64 pn)).setCell ⟨X4, 5, none⟩ (.string pss)).setCell ⟨X4, 6, none⟩ (.slice padr SL pcap) = W5 at *
            refine wpL_takeG _ (v := ?_) (by kernel_rfl) (by kernel_rfl) (by kernel_rfl) (fun _ _ _ h => h) (by rfl) (fun u hu => ?_) ?_
            rotate_left
            focus
              go_simp
              try with_reducible rfl
            simp only [Act.put, List.setIfInBounds_toArray, List.set_cons_zero, List.set_cons_succ]
            refine wpL_doneG _ (by kernel_rfl) ?_
            have q0 : W5.cell? ⟨X4, 0, none⟩ = some (.string pkey) := by simp only [World.cell?, hX5]; rfl
            have q1 : W5.cell? ⟨X4, 1, none⟩ = some (.int .u32 pty) := by simp only [World.cell?, hX5]; rfl
            have q2 : W5.cell? ⟨X4, 2, none⟩ = some (.bool pnull) := by simp only [World.cell?, hX5]; rfl
            have q3 : W5.cell? ⟨X4, 3, none⟩ = some (.int .i64 pk) := by simp only [World.cell?, hX5]; rfl
            have q4 : W5.cell? ⟨X4, 4, none⟩ = some (.int .u64 pn) := by simp only [World.cell?, hX5]; rfl
            have q5 : W5.cell? ⟨X4, 5, none⟩ = some (.string pss) := by simp only [World.cell?, hX5]; rfl
            have q6 : W5.cell? ⟨X4, 6, none⟩ = some (.slice padr SL pcap) := by simp only [World.cell?, hX5]; rfl
            have hBw5 := bel_step hBw hW5
            have hown5 := own_kept hown hW5 (Nat.le_refl _)
            have HNEW5 : Hid (∀ p ∈ new, p.sub.AtS W5 (fun b => (Value.slice A5 j c5).ownBlock ≠ some b ∧ w2.heap.size ≤ b) p.adr) := Lib.hid (fun p hp => (HNEW.out p hp).below hW5)
            have HAT5 : Hid (psub.AtS W5 (fun b => (Value.slice A5 j c5).ownBlock ≠ some b ∧ w2.heap.size ≤ b) padr) := Lib.hid (hat5.to (fun b hb => ⟨fun e => by have := (hown.lt b e).2; omega, Nat.le_trans hBw.size hb.1⟩))
            have hs5 := hBw5.size
            clear hX5 hst hat5 hW5 hbel hle hBw hown HNEW
            by_cases h0 : re = 0
            rotate_left
            · have hbe : (re != 0) = true := by simpa using h0
              have HQ5 : Hid (q = (.nil, re)) := Lib.hid (by
                have h1 := HFE1.out
                rw [if_neg h0] at h1
                rw [← HQ4.out, h1, if_neg h0])
              clear h0 HFE1 q0 q1 q2 q3 q4 q5 q6 hown5
              go_wp2_with fail
              go_ret2
              exact popost_err HQ5.out (bel_step hW2 hBw5)
            subst h0
            have HFE2 : Hid (ferr (its.map (·.2)) = ferr ((its.drop (j + 1)).map (·.2))) := Lib.hid (by have := HFE1.out; rwa [if_pos rfl] at this)
            clear HFE1
            go_wp2_with (at_builtin; refine wpList_app1 rfl _ _ _ rfl elemP rfl hown5 rfl rfl (by intro u hu; simp at hu; rcases hu with rfl | rfl | rfl | rfl | rfl | rfl | rfl <;> rfl) (by unfold maxLen; omega) (by omega) hs5 ?_; intro A9 c9 w9 ho9 hg9 hv9; have hB9 := own_grown hBw5 hown5 hs5 hg9; have hgk := Lib.hid hg9; have hvk := Lib.hid hv9; clear hg9 hv9)
            go_roundw
            case rel =>
              have hkeep : ∀ b, b < W5.heap.size → ((Value.slice A5 j c5).ownBlock ≠ some b ∧ w2.heap.size ≤ b) → w9.heap[b]? = W5.heap[b]? := fun b hb hS => hgk.out.block b hb (fun e => hS.1 e.symm)
              have hS9 : ∀ b, b < W5.heap.size → ((Value.slice A5 j c5).ownBlock ≠ some b ∧ w2.heap.size ≤ b) → ((Value.slice A9 (j + 1) c9).ownBlock ≠ some b ∧ w2.heap.size ≤ b) := fun b hb hS => ⟨fun e => by
                rcases hvk.out with h | h
                · rw [h] at e; exact hS.1 e
                · rw [h] at e; have : W5.heap.size + 1 = b := by simpa using e
                  omega, hS.2⟩
              obtain ⟨i1, i2, i3⟩ := HPI.out
              refine ⟨j + 1, A9, c9, new ++ [⟨pkey, pty, pnull, ⟨pk, pn, pss⟩, padr, pcap, psub⟩], by go_num, rfl, by omega, ?_, by rw [List.map_append, HMAP.out, HTK.out, ← i1]; rfl, HFE2.out, ?_, ?_, hB9⟩
              · rw [show pcl (new ++ [⟨pkey, pty, pnull, ⟨pk, pn, pss⟩, padr, pcap, psub⟩]) = pcl new ++ [.string pkey, .int .u32 pty, .bool pnull, .int .i64 pk, .int .u64 pn, .string pss, .slice padr SL pcap] by simp [pcl, Pn.cells, HSL.out]]
                exact ho9
              · intro p hp
                rcases List.mem_append.1 hp with hp | hp
                · exact HOKS.out p hp
                · obtain rfl : p = _ := by simpa using hp
                  exact i2
              · intro p hp
                rcases List.mem_append.1 hp with hp | hp
                · exact (HNEW5.out p hp).keep hkeep hgk.out.size hS9
                · obtain rfl : p = _ := by simpa using hp
                  exact HAT5.out.keep hkeep hgk.out.size hS9
            case measure => simp [intOf]; omega
        · go_simp
          refine hK _ _ ((Below.refl W2.heap.size W2).alloc (Nat.le_refl _) _) ?_
          clear hK K
          have hbel0 := (Below.refl W2.heap.size W2).alloc (Nat.le_refl _) (Obj.cells #[.string ⟨#[]⟩, .int .u32 0, .bool false, .int .i64 0, .int .u64 0, .string ⟨#[]⟩, .slice none 0 0] 75)
          have hX3 : (W2.alloc (Obj.cells #[.string ⟨#[]⟩, .int .u32 0, .bool false, .int .i64 0, .int .u64 0, .string ⟨#[]⟩, .slice none 0 0] 75)).heap[W2.heap.size]? = some (.cells #[.string ⟨#[]⟩, .int .u32 0, .bool false, .int .i64 0, .int .u64 0, .string ⟨#[]⟩, .slice none 0 0] 75 (0, 0)) := World.alloc_heap_new W2 _
          have hlX : W2.heap.size < (W2.alloc (Obj.cells #[.string ⟨#[]⟩, .int .u32 0, .bool false, .int .i64 0, .int .u64 0, .string ⟨#[]⟩, .slice none 0 0] 75)).heap.size := by simp
          generalize W2.alloc (Obj.cells #[.string ⟨#[]⟩, .int .u32 0, .bool false, .int .i64 0, .int .u64 0, .string ⟨#[]⟩, .slice none 0 0] 75) = Wb at *
          refine wpL_doG _ (by kernel_rfl) (by rfl) (fun K hK => ?_)
          obtain ⟨cb, W3, hcv, hr3, hBc, hcb0, hcb1⟩ := run_bytes Wb vtext
          go_simp
          refine hK _ _ (hBc.mono (Nat.le_of_lt hlX)) ?_
          clear hK K hcv hcb1
          refine wpL_doG _ (by kernel_rfl) (by rfl) (fun K hK => ?_)
          go_simp
          go_at_call 67
          refine (hrd _ _ _ hcb0 hr3).mono ?_
          rintro e w3 ⟨p, rfl, hstr, hok, hlen, hat, hB3⟩
          refine hK _ _ (hB3.mono (Nat.le_trans (Nat.le_of_lt hlX) hBc.size)) ?_
          clear hK K
          obtain ⟨pkey, pty, pnull, ⟨pk, pn, pss⟩, padr, pcap, psub⟩ := p
          unfold Pn.agg
          simp only at hlen hat ⊢
          have HPI := Lib.hid (And.intro hstr (And.intro hok hlen))
          obtain ⟨SL, hSL⟩ : ∃ k, psub.list.length = k := ⟨_, rfl⟩
          rw [hSL]
          have HSL := Lib.hid hSL
          clear hstr hok hlen hSL
          refine wpL_takeG _ (v := ?_) (by kernel_rfl) (by kernel_rfl) (by kernel_rfl) (fun _ _ _ h => h) (by rfl) (fun u hu => ?_) ?_
          rotate_left
          focus
            go_simp
            try with_reducible rfl
          simp only [Act.put, List.setIfInBounds_toArray, List.set_cons_zero, List.set_cons_succ]
          refine wpL_takeG _ (v := ?_) (by kernel_rfl) (by kernel_rfl) (by kernel_rfl) (fun _ _ _ h => h) (by rfl) (fun u hu => ?_) ?_
          rotate_left
          focus
            go_simp
            try with_reducible rfl
          simp only [Act.put, List.setIfInBounds_toArray, List.set_cons_zero, List.set_cons_succ]
          refine wpL_takeG _ (v := ?_) (by kernel_rfl) (by kernel_rfl) (by kernel_rfl) (fun _ _ _ h => h) (by rfl) (fun u hu => ?_) ?_
          rotate_left
          focus
            go_simp
            try with_reducible rfl
          simp only [Act.put, List.setIfInBounds_toArray, List.set_cons_zero, List.set_cons_succ]
          have hbel1 := bel_step hbel0 hBc
          have hbel := bel_step hbel1 hB3
          have hlX3 := Nat.lt_of_lt_of_le hlX hBc.size
          have hX4 := (hB3.block _ hlX3).trans ((hBc.block _ hlX).trans hX3)
          have hat4 : psub.AtS w3 (fun k => W2.heap.size ≤ k ∧ k ≠ W2.heap.size) padr := hat.to (fun b hb => ⟨Nat.le_of_lt (Nat.lt_of_lt_of_le hlX3 hb), Nat.ne_of_gt (Nat.lt_of_lt_of_le hlX3 hb)⟩)
          have hle : W2.heap.size ≤ W2.heap.size := Nat.le_refl _
          clear hat hB3 hX3 hbel0 hbel1 hlX hlX3 hBc hr3 hrd hcb0
          obtain ⟨W4, rfl⟩ : ∃ W, W = w3 := ⟨_, rfl⟩
          have z0 : W4.cell? ⟨W2.heap.size, 0, none⟩ = some (.string ⟨#[]⟩) := by simp only [World.cell?, hX4]; rfl
          have z1 : W4.cell? ⟨W2.heap.size, 1, none⟩ = some (.int .u32 0) := by simp only [World.cell?, hX4]; rfl
          have z2 : W4.cell? ⟨W2.heap.size, 2, none⟩ = some (.bool false) := by simp only [World.cell?, hX4]; rfl
          have z3 : W4.cell? ⟨W2.heap.size, 3, none⟩ = some (.int .i64 0) := by simp only [World.cell?, hX4]; rfl
          have z4 : W4.cell? ⟨W2.heap.size, 4, none⟩ = some (.int .u64 0) := by simp only [World.cell?, hX4]; rfl
          have z5 : W4.cell? ⟨W2.heap.size, 5, none⟩ = some (.string ⟨#[]⟩) := by simp only [World.cell?, hX4]; rfl
          have z6 : W4.cell? ⟨W2.heap.size, 6, none⟩ = some (.slice none 0 0) := by simp only [World.cell?, hX4]; rfl
          have hfz : ∀ i, W4.frozen? ⟨W2.heap.size, i, none⟩ = false := fun i => by simp [World.frozen?, hX4]
          have y0 := hfz 0
          have y1 := hfz 1
          have y2 := hfz 2
          have y3 := hfz 3
          have y4 := hfz 4
          have y5 := hfz 5
          have y6 := hfz 6
          have hX5 : (((((((W4.setCell ⟨W2.heap.size, 0, none⟩ (.string pkey)).setCell ⟨W2.heap.size, 1, none⟩ (.int .u32 pty)).setCell ⟨W2.heap.size, 2, none⟩ (.bool pnull)).setCell ⟨W2.heap.size, 3, none⟩ (.int .i64 pk)).setCell ⟨W2.heap.size, 4, none⟩ (.int .u64 pn)).setCell ⟨W2.heap.size, 5, none⟩ (.string pss)).setCell ⟨W2.heap.size, 6, none⟩ (.slice padr SL pcap)).heap[W2.heap.size]? = some (.cells #[.string pkey, .int .u32 pty, .bool pnull, .int .i64 pk, .int .u64 pn, .string pss, .slice padr SL pcap] 75 (0, 0)) :=
            heap_setCell_same _ W2.heap.size 6 _ _ _ (heap_setCell_same _ W2.heap.size 5 _ _ _ (heap_setCell_same _ W2.heap.size 4 _ _ _ (heap_setCell_same _ W2.heap.size 3 _ _ _ (heap_setCell_same _ W2.heap.size 2 _ _ _ (heap_setCell_same _ W2.heap.size 1 _ _ _ (heap_setCell_same _ W2.heap.size 0 _ _ _ hX4))))))
          have hst := below_set7 (a := 0) (b := 1) (c := 2) (d := 3) (e := 4) (f := 5) (g := 6) (Below.refl W2.heap.size W4) hle (.string pkey) (.int .u32 pty) (.bool pnull) (.int .i64 pk) (.int .u64 pn) (.string pss) (.slice padr SL pcap)
          have hat5 := ((((((hat4.low (B := W2.heap.size) (i := 0) (fun b hb => hb.2) (.string pkey)).low (B := W2.heap.size) (i := 1) (fun b hb => hb.2) (.int .u32 pty)).low (B := W2.heap.size) (i := 2) (fun b hb => hb.2) (.bool pnull)).low (B := W2.heap.size) (i := 3) (fun b hb => hb.2) (.int .i64 pk)).low (B := W2.heap.size) (i := 4) (fun b hb => hb.2) (.int .u64 pn)).low (B := W2.heap.size) (i := 5) (fun b hb => hb.2) (.string pss)).low (B := W2.heap.size) (i := 6) (fun b hb => hb.2) (.slice padr SL pcap)
          clear hfz hat4 hX4
          refine wpL_doG _ (by kernel_rfl) (by rfl) (fun K hK => ?_)
          go_simp
          refine hK _ _ hst ?_
          clear hK K z0 z1 z2 z3 z4 z5 z6 y0 y1 y2 y3 y4 y5 y6
          have hW5 := hbel.trans hst
          generalize ((((((W4.setCell ⟨W2.heap.size, 0, none⟩ (.string pkey)).setCell ⟨W2.heap.size, 1, none⟩ (.int .u32 pty)).setCell ⟨W2.heap.size, 2, none⟩ (.bool pnull)).setCell ⟨W2.heap.size, 3, none⟩ (.int .i64 pk)).setCell ⟨W2.heap.size, 4, none⟩ (.int .u64 pn)).setCell ⟨W2.heap.size, 5, none⟩ (.string pss)).setCell ⟨W2.heap.size, 6, none⟩ (.slice padr SL pcap) = W5 at *
          refine wpL_takeG _ (v := ?_) (by kernel_rfl) (by kernel_rfl) (by kernel_rfl) (fun _ _ _ h => h) (by rfl) (fun u hu => ?_) ?_
          rotate_left
          focus
            go_simp
            try with_reducible rfl
          simp only [Act.put, List.setIfInBounds_toArray, List.set_cons_zero, List.set_cons_succ]
          refine wpL_doneG _ (by kernel_rfl) ?_
          have q0 : W5.cell? ⟨W2.heap.size, 0, none⟩ = some (.string pkey) := by simp only [World.cell?, hX5]; rfl
          have q1 : W5.cell? ⟨W2.heap.size, 1, none⟩ = some (.int .u32 pty) := by simp only [World.cell?, hX5]; rfl
          have q2 : W5.cell? ⟨W2.heap.size, 2, none⟩ = some (.bool pnull) := by simp only [World.cell?, hX5]; rfl
          have q3 : W5.cell? ⟨W2.heap.size, 3, none⟩ = some (.int .i64 pk) := by simp only [World.cell?, hX5]; rfl
          have q4 : W5.cell? ⟨W2.heap.size, 4, none⟩ = some (.int .u64 pn) := by simp only [World.cell?, hX5]; rfl
          have q5 : W5.cell? ⟨W2.heap.size, 5, none⟩ = some (.string pss) := by simp only [World.cell?, hX5]; rfl
          have q6 : W5.cell? ⟨W2.heap.size, 6, none⟩ = some (.slice padr SL pcap) := by simp only [World.cell?, hX5]; rfl
          have hBw5 := bel_step hBw hW5
          have hown5 := own_kept hown hW5 (Nat.le_refl _)
          have HNEW5 : Hid (∀ p ∈ new, p.sub.AtS W5 (fun b => (Value.slice A5 j c5).ownBlock ≠ some b ∧ w2.heap.size ≤ b) p.adr) := Lib.hid (fun p hp => (HNEW.out p hp).below hW5)
          have HAT5 : Hid (psub.AtS W5 (fun b => (Value.slice A5 j c5).ownBlock ≠ some b ∧ w2.heap.size ≤ b) padr) := Lib.hid (hat5.to (fun b hb => ⟨fun e => by have := (hown.lt b e).2; omega, Nat.le_trans hBw.size hb.1⟩))
          have hs5 := hBw5.size
          clear hX5 hst hat5 hW5 hbel hle hBw hown HNEW
          by_cases h0 : re = 0
          rotate_left
          · have hbe : (re != 0) = true := by simpa using h0
            have HQ5 : Hid (q = (.nil, re)) := Lib.hid (by
              have h1 := HFE1.out
              rw [if_neg h0] at h1
              rw [← HQ4.out, h1, if_neg h0])
            clear h0 HFE1 q0 q1 q2 q3 q4 q5 q6 hown5
            go_wp2_with fail
            go_ret2
            exact popost_err HQ5.out (bel_step hW2 hBw5)
          subst h0
          have HFE2 : Hid (ferr (its.map (·.2)) = ferr ((its.drop (j + 1)).map (·.2))) := Lib.hid (by have := HFE1.out; rwa [if_pos rfl] at this)
          clear HFE1
          go_wp2_with (at_builtin; refine wpList_app1 rfl _ _ _ rfl elemP rfl hown5 rfl rfl (by intro u hu; simp at hu; rcases hu with rfl | rfl | rfl | rfl | rfl | rfl | rfl <;> rfl) (by unfold maxLen; omega) (by omega) hs5 ?_; intro A9 c9 w9 ho9 hg9 hv9; have hB9 := own_grown hBw5 hown5 hs5 hg9; have hgk := Lib.hid hg9; have hvk := Lib.hid hv9; clear hg9 hv9)
          go_roundw
          case rel =>
            have hkeep : ∀ b, b < W5.heap.size → ((Value.slice A5 j c5).ownBlock ≠ some b ∧ w2.heap.size ≤ b) → w9.heap[b]? = W5.heap[b]? := fun b hb hS => hgk.out.block b hb (fun e => hS.1 e.symm)
            have hS9 : ∀ b, b < W5.heap.size → ((Value.slice A5 j c5).ownBlock ≠ some b ∧ w2.heap.size ≤ b) → ((Value.slice A9 (j + 1) c9).ownBlock ≠ some b ∧ w2.heap.size ≤ b) := fun b hb hS => ⟨fun e => by
              rcases hvk.out with h | h
              · rw [h] at e; exact hS.1 e
              · rw [h] at e; have : W5.heap.size + 1 = b := by simpa using e
                omega, hS.2⟩
            obtain ⟨i1, i2, i3⟩ := HPI.out
            refine ⟨j + 1, A9, c9, new ++ [⟨pkey, pty, pnull, ⟨pk, pn, pss⟩, padr, pcap, psub⟩], by go_num, rfl, by omega, ?_, by rw [List.map_append, HMAP.out, HTK.out, ← i1]; rfl, HFE2.out, ?_, ?_, hB9⟩
            · rw [show pcl (new ++ [⟨pkey, pty, pnull, ⟨pk, pn, pss⟩, padr, pcap, psub⟩]) = pcl new ++ [.string pkey, .int .u32 pty, .bool pnull, .int .i64 pk, .int .u64 pn, .string pss, .slice padr SL pcap] by simp [pcl, Pn.cells, HSL.out]]
              exact ho9
            · intro p hp
              rcases List.mem_append.1 hp with hp | hp
              · exact HOKS.out p hp
              · obtain rfl : p = _ := by simpa using hp
                exact i2
            · intro p hp
              rcases List.mem_append.1 hp with hp | hp
              · exact (HNEW5.out p hp).keep hkeep hgk.out.size hS9
              · obtain rfl : p = _ := by simpa using hp
                exact HAT5.out.keep hkeep hgk.out.size hS9
          case measure => simp [intOf]; omega
      · obtain rfl : j = nk := by omega
        have hz : ferr (its.map (·.2)) = 0 := by rw [HFE0.out, List.drop_eq_nil_of_le (by rw [HIL.out]; exact Nat.le_refl _)]; rfl
        have hmap := HMAP.out
        rw [List.take_of_length_le (by rw [HIL.out]; exact Nat.le_refl _)] at hmap
        have hq : q = (Ps.build (its.map (·.1)), 0) := by rw [← HQ4.out, if_pos hz]
        have hnl : new.length = j := by
          have := congrArg List.length hmap
          simpa [HIL.out] using this
        have HQ5 := Lib.hid (And.intro hq (And.intro hmap hnl))
        have HO := Lib.hid hown
        clear hz hmap hq hnl hlt HFE0 hown
        go_wp2_with fail
        go_ret2
        obtain ⟨e1, e2, e3⟩ := HQ5.out
        have hll : (Ps.build new).list.length = j := by rw [Ps.build_list]; exact e3
        refine ⟨Ps.build new, A5, c5, ?_, ⟨?_, Ps.build_subsS fun p hp => (HNEW0.out p hp).to (fun b hb => Nat.le_trans hW2.size hb.2)⟩, Ps.build_ok HOKS.out, by omega, ?_, bel_step hW2 hBw⟩
        · rw [hll, e1]; rfl
        · rw [Ps.build_list]; exact RdS.of_own (own_base HO.out hW2.size)
        · rw [Ps.build_strip, e2, e1]
theorem rpof_any : ∀ (n deep : Nat), n + deep = 9 → ∀ (b : List UInt8) (A : Option Addr) (bn c : Nat) (w : World), b.length = bn → bn ≤ c → b.length ≤ 140737488355328 → Rd w w.heap.size A (bcl b) →
    Calls Tryd.prog 47 #[.slice A bn c, .int .i64 deep] w (POPost (pofn n b) w) := by
  intro n
  induction n with
  | zero =>
    intro deep hnd b A bn c w _ _ _ _
    obtain rfl : deep = 9 := by omega
    go_enter Tryd.func47, Tryd.ntmps47
    go_wp2_with fail
    go_ret2
    exact popost_err rfl (Below.refl _ _)
  | succ n ih =>
    intro deep hnd b A bn c w h1 h2 h3 h4
    exact rpof_step n deep hnd (fun b A bn c w h1 h2 h3 h4 => ih (deep + 1) (by omega) b A bn c w h1 h2 h3 h4) b A bn c w h1 h2 h3 h4
end Go.Proofs.YtanfnjlndckhkaaDoor

/- WALKS: props.Same, crierref07.Same (printed by genpps.py) -/
namespace Go.Proofs.YtanfnjlndckhkaaDoor
open Go.RowKit Plain

theorem Ps.At.drewN {l : Ps} {W : World} {B : Nat} {A : Option Addr} (h : l.At W B A) (n : Nat) : l.At (W.drewN n) B A := ⟨h.rd.drewN n, h.subs.keep fun _ _ r => r.drewN n⟩
/-- some draws later -/
def Dr (w w' : World) : Prop := ∃ k, w' = w.drewN k
theorem Dr.rd {w w' : World} {B : Nat} {A : Option Addr} {xs : List Value} (h : Dr w w') (hr : Rd w B A xs) : Rd w' B A xs := by
  obtain ⟨k, rfl⟩ := h; exact hr.drewN k
theorem Dr.more {w w' : World} (h : Dr w w') (n : Nat) : Dr w (w'.drewN n) := by
  obtain ⟨k, rfl⟩ := h; exact ⟨k + n, World.drewN_drewN ..⟩
theorem drop_consP {α : Type} {l : List α} {j : Nat} {f : α} (h : l[j]? = some f) : l.drop j = f :: l.drop (j + 1) := by
  obtain ⟨hlt, rfl⟩ := List.getElem?_eq_some_iff.1 h
  rw [List.drop_eq_getElem_cons hlt]
set_option maxRecDepth 100000 in
set_option maxHeartbeats 4000000 in
theorem psame_step (l : Ps) (ih : ∀ x ∈ l.list, ∀ (m : Ps) (A1 A2 : Option Addr) (c1 c2 : Nat) (w : World), x.sub.list.length ≤ 9223372036854775807 → m.list.length ≤ 9223372036854775807 → x.sub.Ok → m.Ok → x.sub.At w w.heap.size A1 → m.At w w.heap.size A2 →
      Calls Tryd.prog 23 #[.slice A1 x.sub.list.length c1, .slice A2 m.list.length c2] w fun e w' => e = .returned (.bool (x.sub.same m)) ∧ Below w.heap.size w w')
    (m : Ps) (A1 A2 : Option Addr) (c1 c2 : Nat) (w : World) (hl : l.list.length ≤ 9223372036854775807) (hm : m.list.length ≤ 9223372036854775807) (ho1 : l.Ok) (ho2 : m.Ok) (h1 : l.At w w.heap.size A1) (h2 : m.At w w.heap.size A2) :
    Calls Tryd.prog 23 #[.slice A1 l.list.length c1, .slice A2 m.list.length c2] w fun e w' => e = .returned (.bool (l.same m)) ∧ Below w.heap.size w w' := by
  rw [Ps.same_list]
  have hrec : ∀ x ∈ l.list, ∀ y ∈ m.list, ∀ W, Below w.heap.size w W → Calls Tryd.prog 23 #[.slice x.adr x.sub.list.length x.cap, .slice y.adr y.sub.list.length y.cap] W fun e w' => e = .returned (.bool (x.sub.same y.sub)) ∧ Below W.heap.size W w' := by
    intro x hx y hy W hB
    obtain ⟨_, _, a3, a4⟩ := Ps.ok_mem ho1 x hx
    obtain ⟨_, _, b3, b4⟩ := Ps.ok_mem ho2 y hy
    exact ih x hx y.sub x.adr y.adr x.cap y.cap W a3 b3 a4 b4 (((h1.sub hx).below hB (Nat.le_refl _)).more hB.size) (((h2.sub hy).below hB (Nat.le_refl _)).more hB.size)
  have HREC := Lib.hid hrec
  have HR1 := Lib.hid h1.rd
  have HR2 := Lib.hid h2.rd
  clear ih ho1 ho2 h1 h2 hrec
  generalize l.list = ps at *
  generalize m.list = qs at *
  obtain ⟨q, hq⟩ : ∃ q, alleq psame ps qs = q := ⟨_, rfl⟩
  rw [hq]
  have HQ := Lib.hid hq
  obtain ⟨n, hn⟩ : ∃ n, ps.length = n := ⟨_, rfl⟩
  obtain ⟨n2, hn2⟩ : ∃ n, qs.length = n := ⟨_, rfl⟩
  rw [hn] at hl ⊢
  rw [hn2] at hm ⊢
  have HN := Lib.hid hn
  have HN2 := Lib.hid hn2
  clear hq hn hn2
  by_cases hne : n = n2
  · subst hne
    by_cases h0 : n = 0
    · subst h0
      have hps : ps = [] := List.eq_nil_of_length_eq_zero HN.out
      have hqs : qs = [] := List.eq_nil_of_length_eq_zero HN2.out
      have hq : true = q := by rw [← HQ.out, hps, hqs]; rfl
      subst hq
      clear hps hqs
      go_enter Tryd.func23, Tryd.ntmps23
      go_wp2_with fail
      go_step3
      go_wp2_with fail
      go_step3
      go_wp2_with fail
      go_loopw [15] (fun i wr => i = .int .i64 0 ∧ wr = w) (fun _ _ => 0)
      case atStart => exact ⟨rfl, rfl⟩
      case round =>
        obtain ⟨rfl, rfl⟩ := hrel
        go_wp2_with fail
        rw [Exit.noGoto_ret]
        go_ret
        exact ⟨rfl, Below.refl _ _⟩
    have hb0 : ((n : Int) == 0) = false := by simp; omega
    have hn0 : 0 < n := by omega
    clear h0
    go_enter Tryd.func23, Tryd.ntmps23
    go_wp2_with fail
    go_step3
    go_wp2_with fail
    go_step3
    go_wp2_with fail
    go_loopw [15] (fun i wr => ∃ j : Nat, i = .int .i64 j ∧ j < n ∧ alleq psame (ps.drop j) (qs.drop j) = q ∧ Below w.heap.size w wr) (fun i _ => n - (intOf i).toNat)
    case atStart => exact ⟨0, rfl, hn0, HQ.out, Below.refl _ _⟩
    case round =>
      obtain ⟨j, rfl, hj, he, hB⟩ := hrel
      have hs := hB.size
      have HE := Lib.hid he
      clear he
      obtain ⟨x, hx⟩ : ∃ x, ps[j]? = some x := ⟨_, List.getElem?_eq_getElem (by rw [HN.out]; omega)⟩
      obtain ⟨y, hy⟩ : ∃ y, qs[j]? = some y := ⟨_, List.getElem?_eq_getElem (by rw [HN2.out]; omega)⟩
      have hrec := HREC.out x (List.mem_of_getElem? hx) y (List.mem_of_getElem? hy)
      obtain ⟨b1, o1, rfl, hb1, hpa⟩ := prop_at (HR1.out.below hB (Nat.le_refl _)) hx
      obtain ⟨b2, o2, rfl, hb2, hqa⟩ := prop_at (HR2.out.below hB (Nat.le_refl _)) hy
      have hb1r : b1 < wr.heap.size := Nat.lt_of_lt_of_le hb1 hs
      have hb2r : b2 < wr.heap.size := Nat.lt_of_lt_of_le hb2 hs
      have he2 := HE.out
      rw [drop_consP hx, drop_consP hy, alleq] at he2
      obtain ⟨tl, htl⟩ : ∃ t, alleq psame (ps.drop (j + 1)) (qs.drop (j + 1)) = t := ⟨_, rfl⟩
      rw [htl] at he2
      have HTL := Lib.hid htl
      clear htl
      obtain ⟨xkey, xty, xnu, ⟨xk, xn, xs⟩, xad, xcap, xsub⟩ := x
      obtain ⟨ykey, yty, ynu, ⟨yk, yn, ys⟩, yad, ycap, ysub⟩ := y
      obtain ⟨g0, g1, g2, g3, g4, g5, g6⟩ := hpa
      obtain ⟨f0, f1, f2, f3, f4, f5, f6⟩ := hqa
      simp only at hrec g0 g1 g2 g3 g4 g5 g6 f0 f1 f2 f3 f4 f5 f6
      unfold psame veq neq seq at he2
      simp only at he2
      clear hx hy HE
      generalize xsub.list.length = xL at *
      generalize ysub.list.length = yL at *
      obtain ⟨t, ht⟩ : ∃ t, xsub.same ysub = t := ⟨_, rfl⟩
      rw [ht] at he2 hrec
      clear ht
      have HE2 := Lib.hid he2
      clear he2
      have hBx := hB.alloc hs (Obj.cells #[.string xkey, .int .u32 xty, .bool xnu, .int .i64 xk, .int .u64 xn, .string xs, .slice xad xL xcap] 75)
      have hBy := hBx.alloc hBx.size (Obj.cells #[.string ykey, .int .u32 yty, .bool ynu, .int .i64 yk, .int .u64 yn, .string ys, .slice yad yL ycap] 75)
      cases e0 : (xkey.toList == ykey.toList)
      case false =>
        have hq : false = q := by have := HE2.out; rw [e0] at this; simpa using this
        subst hq
        clear HE2 hrec
        go_wp2_with fail
        rw [Exit.noGoto_ret]
        go_ret
        exact ⟨rfl, hBy⟩
      cases e1 : ((xty : Int) == (yty : Int))
      case false =>
        have ne1 : ((xty : Int) != (yty : Int)) = true := by rw [bne, e1]; rfl
        have hq : false = q := by have := HE2.out; rw [e0, e1] at this; simpa using this
        subst hq
        clear HE2 hrec
        go_wp2_with fail
        rw [Exit.noGoto_ret]
        go_ret
        exact ⟨rfl, hBy⟩
      have ne1 : ((xty : Int) != (yty : Int)) = false := by rw [bne, e1]; rfl
      cases e2 : (xnu == ynu)
      case false =>
        have ne2 : (xnu != ynu) = true := by rw [bne, e2]; rfl
        have hq : false = q := by have := HE2.out; rw [e0, e1, e2] at this; simpa using this
        subst hq
        clear HE2 hrec
        go_wp2_with fail
        rw [Exit.noGoto_ret]
        go_ret
        exact ⟨rfl, hBy⟩
      have ne2 : (xnu != ynu) = false := by rw [bne, e2]; rfl
      cases e3 : (xk == yk)
      case false =>
        have hq : false = q := by have := HE2.out; rw [e0, e1, e2, e3] at this; simpa using this
        subst hq
        clear HE2 hrec
        go_wp2_with fail
        rw [Exit.noGoto_ret]
        go_ret
        exact ⟨rfl, hBy⟩
      cases e4 : ((xn : Int) == (yn : Int))
      case false =>
        have hq : false = q := by have := HE2.out; rw [e0, e1, e2, e3, e4] at this; simpa using this
        subst hq
        clear HE2 hrec
        go_wp2_with fail
        rw [Exit.noGoto_ret]
        go_ret
        exact ⟨rfl, hBy⟩
      cases e5 : (xs.toList == ys.toList)
      case false =>
        have hq : false = q := by have := HE2.out; rw [e0, e1, e2, e3, e4, e5] at this; simpa using this
        subst hq
        clear HE2 hrec
        go_wp2_with fail
        rw [Exit.noGoto_ret]
        go_ret
        exact ⟨rfl, hBy⟩
      have HE3 : Hid ((t && alleq psame (ps.drop (j + 1)) (qs.drop (j + 1))) = q) := Lib.hid (by have := HE2.out; rw [e0, e1, e2, e3, e4, e5] at this; rw [HTL.out]; simpa using this)
      clear HE2
      go_wp2_with fail
      refine (hrec _ hBy).mono ?_
      rintro e w1 ⟨rfl, hB1⟩
      have hB2 := bel_step hB ((((Below.refl _ wr).alloc (Nat.le_refl _) _).alloc (by simp) _).trans (hB1.mono (by simp; omega)))
      clear hrec hB1 hBx hBy
      cases t
      case false =>
        have hq : false = q := HE3.out
        subst hq
        clear HE3
        go_wp2_with fail
        rw [Exit.noGoto_ret]
        go_ret
        exact ⟨rfl, hB2⟩
      rw [Bool.true_and] at HE3
      by_cases hl1 : j + 1 = n
      · have hbl : ((j : Int) == (n : Int) - 1) = true := by simp; omega
        rw [List.drop_eq_nil_of_le (by rw [HN.out]; omega), List.drop_eq_nil_of_le (by rw [HN2.out]; omega)] at HE3
        have hq : true = q := HE3.out
        subst hq
        clear HE3 hl1
        go_wp2_with fail
        rw [Exit.noGoto_ret]
        go_ret
        exact ⟨rfl, hB2⟩
      · have hbl : ((j : Int) == (n : Int) - 1) = false := by simp; omega
        have hlt : j + 1 < n := by omega
        clear hl1
        go_wp2_with fail
        go_roundw
        case rel => exact ⟨j + 1, by go_num, hlt, HE3.out, hB2⟩
        case measure => simp [intOf]; omega
  · have hb : ((n : Int) != (n2 : Int)) = true := by simp; omega
    have hq : false = q := by rw [← HQ.out, alleq_len (by rw [HN.out, HN2.out]; exact hne)]
    subst hq
    clear hne
    go_enter Tryd.func23, Tryd.ntmps23
    go_wp2_with fail
    go_step3
    go_wp2_with fail
    rw [Exit.noGoto_ret]
    go_ret
    exact ⟨rfl, Below.refl _ _⟩
set_option maxRecDepth 100000 in
set_option maxHeartbeats 4000000 in
theorem rsame_step (l : Ps) (ih : ∀ x ∈ l.list, ∀ (m : Ps) (A1 A2 : Option Addr) (c1 c2 : Nat) (w : World), x.sub.list.length ≤ 9223372036854775807 → m.list.length ≤ 9223372036854775807 → x.sub.Ok → m.Ok → x.sub.At w w.heap.size A1 → m.At w w.heap.size A2 →
      Calls Tryd.prog 24 #[.slice A1 x.sub.list.length c1, .slice A2 m.list.length c2] w fun e w' => e = .returned (.bool (x.sub.same m)) ∧ ∃ k, w' = w.drewN k)
    (m : Ps) (A1 A2 : Option Addr) (c1 c2 : Nat) (w : World) (hl : l.list.length ≤ 9223372036854775807) (hm : m.list.length ≤ 9223372036854775807) (ho1 : l.Ok) (ho2 : m.Ok) (h1 : l.At w w.heap.size A1) (h2 : m.At w w.heap.size A2) :
    Calls Tryd.prog 24 #[.slice A1 l.list.length c1, .slice A2 m.list.length c2] w fun e w' => e = .returned (.bool (l.same m)) ∧ ∃ k, w' = w.drewN k := by
  rw [Ps.same_list]
  have hrec : ∀ x ∈ l.list, ∀ y ∈ m.list, ∀ W, Dr w W → ∀ n : Nat, Calls Tryd.prog 24 #[.slice x.adr x.sub.list.length x.cap, .slice y.adr y.sub.list.length y.cap] (W.drewN n) fun e w' => e = .returned (.bool (x.sub.same y.sub)) ∧ ∃ m, w' = (W.drewN n).drewN m := by
    intro x hx y hy W ⟨k, hk⟩ n
    subst hk
    obtain ⟨_, _, a3, a4⟩ := Ps.ok_mem ho1 x hx
    obtain ⟨_, _, b3, b4⟩ := Ps.ok_mem ho2 y hy
    exact ih x hx y.sub x.adr y.adr x.cap y.cap ((w.drewN k).drewN n) a3 b3 a4 b4 (((h1.sub hx).drewN k).drewN n) (((h2.sub hy).drewN k).drewN n)
  have HREC := Lib.hid hrec
  have HR1 := Lib.hid h1.rd
  have HR2 := Lib.hid h2.rd
  clear ih ho1 ho2 h1 h2 hrec
  generalize l.list = ps at *
  generalize m.list = qs at *
  obtain ⟨q, hq⟩ : ∃ q, alleq psame ps qs = q := ⟨_, rfl⟩
  rw [hq]
  have HQ := Lib.hid hq
  obtain ⟨n, hn⟩ : ∃ n, ps.length = n := ⟨_, rfl⟩
  obtain ⟨n2, hn2⟩ : ∃ n, qs.length = n := ⟨_, rfl⟩
  rw [hn] at hl ⊢
  rw [hn2] at hm ⊢
  have HN := Lib.hid hn
  have HN2 := Lib.hid hn2
  clear hq hn hn2
  by_cases hne : n = n2
  · subst hne
    go_enter Tryd.func24, Tryd.ntmps24
    go_wp2_with fail
    go_loopw [5] (fun i wr => ∃ (j : Nat), i = .int .i64 j ∧ j ≤ n ∧ alleq psame (ps.drop j) (qs.drop j) = q ∧ Dr w wr) (fun i _ => n - (intOf i).toNat)
    case atStart => exact ⟨0, rfl, Nat.zero_le _, HQ.out, ⟨0, rfl⟩⟩
    case round =>
      obtain ⟨j, rfl, hj, he, hdr⟩ := hrel
      have HE := Lib.hid he
      clear he
      by_cases hlt : j < n
      rotate_left
      · have hjn : j = n := by omega
        rw [List.drop_eq_nil_of_le (by rw [HN.out]; omega), List.drop_eq_nil_of_le (by rw [HN2.out]; omega)] at HE
        have hq : true = q := HE.out
        subst hq
        clear HE
        go_wp2_with fail
        go_ret
        exact ⟨rfl, hdr⟩
      obtain ⟨x, hx⟩ : ∃ x, ps[j]? = some x := ⟨_, List.getElem?_eq_getElem (by rw [HN.out]; omega)⟩
      obtain ⟨y, hy⟩ : ∃ y, qs[j]? = some y := ⟨_, List.getElem?_eq_getElem (by rw [HN2.out]; omega)⟩
      have hrec := HREC.out x (List.mem_of_getElem? hx) y (List.mem_of_getElem? hy)
      obtain ⟨b1, o1, rfl, hb1, hpa⟩ := prop_at (hdr.rd HR1.out) hx
      obtain ⟨b2, o2, rfl, hb2, hqa⟩ := prop_at (hdr.rd HR2.out) hy
      have he2 := HE.out
      rw [drop_consP hx, drop_consP hy, alleq] at he2
      obtain ⟨tl, htl⟩ : ∃ t, alleq psame (ps.drop (j + 1)) (qs.drop (j + 1)) = t := ⟨_, rfl⟩
      rw [htl] at he2
      have HTL := Lib.hid htl
      clear htl
      obtain ⟨xkey, xty, xnu, ⟨xk, xn, xs⟩, xad, xcap, xsub⟩ := x
      obtain ⟨ykey, yty, ynu, ⟨yk, yn, ys⟩, yad, ycap, ysub⟩ := y
      obtain ⟨g0, g1, g2, g3, g4, g5, g6⟩ := hpa
      obtain ⟨f0, f1, f2, f3, f4, f5, f6⟩ := hqa
      simp only at hrec g0 g1 g2 g3 g4 g5 g6 f0 f1 f2 f3 f4 f5 f6
      unfold psame veq neq seq at he2
      simp only at he2
      clear hx hy HE
      generalize xsub.list.length = xL at *
      generalize ysub.list.length = yL at *
      obtain ⟨t, ht⟩ : ∃ t, xsub.same ysub = t := ⟨_, rfl⟩
      rw [ht] at he2 hrec
      clear ht
      have HE2 := Lib.hid he2
      clear he2
      cases e0 : (xkey.toList == ykey.toList)
      case false =>
        have hq : false = q := by have := HE2.out; rw [e0] at this; simpa using this
        subst hq
        clear HE2 hrec
        go_wp2_with fail
        go_quiet (fail)
        go_wp2_with fail
        go_ret
        exact ⟨rfl, hdr.more nq⟩
      cases e1 : ((xty : Int) == (yty : Int))
      case false =>
        have ne1 : ((xty : Int) != (yty : Int)) = true := by rw [bne, e1]; rfl
        have hq : false = q := by have := HE2.out; rw [e0, e1] at this; simpa using this
        subst hq
        clear HE2 hrec
        go_wp2_with fail
        go_quiet (fail)
        go_wp2_with fail
        go_ret
        exact ⟨rfl, hdr.more nq⟩
      have ne1 : ((xty : Int) != (yty : Int)) = false := by rw [bne, e1]; rfl
      cases e2 : (xnu == ynu)
      case false =>
        have ne2 : (xnu != ynu) = true := by rw [bne, e2]; rfl
        have hq : false = q := by have := HE2.out; rw [e0, e1, e2] at this; simpa using this
        subst hq
        clear HE2 hrec
        go_wp2_with fail
        go_quiet (fail)
        go_wp2_with fail
        go_ret
        exact ⟨rfl, hdr.more nq⟩
      have ne2 : (xnu != ynu) = false := by rw [bne, e2]; rfl
      cases e3 : (xk == yk)
      case false =>
        have hq : false = q := by have := HE2.out; rw [e0, e1, e2, e3] at this; simpa using this
        subst hq
        clear HE2 hrec
        go_wp2_with fail
        go_quiet (fail)
        go_wp2_with fail
        go_ret
        exact ⟨rfl, hdr.more nq⟩
      cases e4 : ((xn : Int) == (yn : Int))
      case false =>
        have hq : false = q := by have := HE2.out; rw [e0, e1, e2, e3, e4] at this; simpa using this
        subst hq
        clear HE2 hrec
        go_wp2_with fail
        go_quiet (fail)
        go_wp2_with fail
        go_ret
        exact ⟨rfl, hdr.more nq⟩
      cases e5 : (xs.toList == ys.toList)
      case false =>
        have hq : false = q := by have := HE2.out; rw [e0, e1, e2, e3, e4, e5] at this; simpa using this
        subst hq
        clear HE2 hrec
        go_wp2_with fail
        go_quiet (fail)
        go_wp2_with fail
        go_ret
        exact ⟨rfl, hdr.more nq⟩
      have HE3 : Hid ((t && alleq psame (ps.drop (j + 1)) (qs.drop (j + 1))) = q) := Lib.hid (by have := HE2.out; rw [e0, e1, e2, e3, e4, e5] at this; rw [HTL.out]; simpa using this)
      clear HE2
      cases t
      case false =>
        have hq : false = q := HE3.out
        subst hq
        clear HE3
        go_wp2_with fail
        go_quiet ((go_at_call 24; refine Calls.quiet_of (hrec _ hdr _)))
        go_wp2_with fail
        go_ret
        exact ⟨rfl, hdr.more nq⟩
      rw [Bool.true_and] at HE3
      go_wp2_with fail
      go_quiet ((go_at_call 24; refine Calls.quiet_of (hrec _ hdr _)))
      go_wp2_with fail
      go_roundw
      case rel => exact ⟨j + 1, by go_num, by omega, HE3.out, hdr.more nq⟩
      case measure => simp [intOf]; omega
  · have hb : ((n : Int) != (n2 : Int)) = true := by simp; omega
    have hq : false = q := by rw [← HQ.out, alleq_len (by rw [HN.out, HN2.out]; exact hne)]
    subst hq
    clear hne
    go_enter Tryd.func24, Tryd.ntmps24
    go_wp2_with fail
    go_ret
    exact ⟨rfl, 0, rfl⟩
theorem psame_any : ∀ (l m : Ps) (A1 A2 : Option Addr) (c1 c2 : Nat) (w : World), l.list.length ≤ 9223372036854775807 → m.list.length ≤ 9223372036854775807 → l.Ok → m.Ok → l.At w w.heap.size A1 → m.At w w.heap.size A2 →
    Calls Tryd.prog 23 #[.slice A1 l.list.length c1, .slice A2 m.list.length c2] w fun e w' => e = .returned (.bool (l.same m)) ∧ Below w.heap.size w w' :=
  Ps.ind fun l ih m A1 A2 c1 c2 w h1 h2 h3 h4 h5 h6 => psame_step l ih m A1 A2 c1 c2 w h1 h2 h3 h4 h5 h6
theorem rsame_any : ∀ (l m : Ps) (A1 A2 : Option Addr) (c1 c2 : Nat) (w : World), l.list.length ≤ 9223372036854775807 → m.list.length ≤ 9223372036854775807 → l.Ok → m.Ok → l.At w w.heap.size A1 → m.At w w.heap.size A2 →
    Calls Tryd.prog 24 #[.slice A1 l.list.length c1, .slice A2 m.list.length c2] w fun e w' => e = .returned (.bool (l.same m)) ∧ ∃ k, w' = w.drewN k :=
  Ps.ind fun l ih m A1 A2 c1 c2 w h1 h2 h3 h4 h5 h6 => rsame_step l ih m A1 A2 c1 c2 w h1 h2 h3 h4 h5 h6
theorem Ps.same_refl (l : Ps) : l.same l = true := by
  induction l with
  | nil => rfl
  | cons k t n v a c s r ih1 ih2 => simp [Ps.same, ih1, ih2, seq_refl, neq_refl, veq_refl]
theorem Ps.same_symm : ∀ (l m : Ps), l.same m = m.same l := by
  intro l
  induction l with
  | nil => intro m; cases m <;> rfl
  | cons k t n v a c s r ih1 ih2 =>
    intro m
    cases m with
    | nil => rfl
    | cons k' t' n' v' a' c' s' r' => rw [Ps.same, Ps.same, ih1, ih2, seq_symm k k', neq_symm t t', veq_symm v v', show (n == n') = (n' == n) from BEq.comm]
end Go.Proofs.YtanfnjlndckhkaaDoor

/- WALK: props.put -/
namespace Go.Proofs.YtanfnjlndckhkaaDoor
open Go.RowKit Plain

def pkl (l : List Pn) : List Fld := l.map fun p => pkfl p.key
def pvl (l : List Pn) (d : Nat) : List Fld := l.map fun p => pvfl (p.tell d)
theorem pput_flds (l : List Pn) (d : Nat) : ∀ f ∈ pkl l ++ pvl l d, FldOk f := by
  intro f hf
  rcases List.mem_append.1 hf with hf | hf
  · obtain ⟨p, _, rfl⟩ := List.mem_map.1 hf
    exact ⟨by simp [pkfl], by simp [pkfl], by simp [pkfl]⟩
  · obtain ⟨p, _, rfl⟩ := List.mem_map.1 hf
    exact ⟨by simp [pvfl], by simp [pvfl], by simp [pvfl]⟩
set_option maxRecDepth 100000 in
set_option maxHeartbeats 4000000 in
theorem pput_step (l : Ps) (ih : ∀ p ∈ l.list, ∀ (deep : Nat) (A : Option Addr) (c : Nat) (w : World), deep ≤ 9 → p.sub.Ok → p.sub.list.length ≤ 9223372036854775807 → p.sub.At w w.heap.size A → Kinds w →
      Calls Tryd.prog 38 #[.slice A p.sub.list.length c, .int .i64 deep] w (BPost (p.sub.put deep) w))
    (deep : Nat) (A : Option Addr) (c : Nat) (w : World) (hdeep : deep ≤ 9) (hok : l.Ok) (hlen : l.list.length ≤ 9223372036854775807) (hat : l.At w w.heap.size A) (hK : Kinds w) :
    Calls Tryd.prog 38 #[.slice A l.list.length c, .int .i64 deep] w (BPost (l.put deep) w) := by
  obtain ⟨q, hq⟩ : ∃ q, l.put deep = q := ⟨_, rfl⟩
  rw [hq]
  rw [Ps.put_list] at hq
  by_cases hd8 : 8 < deep
  · have hd : decide ((8 : Int) < (deep : Int)) = true := decide_eq_true (by omega)
    rw [if_pos hd8] at hq
    have HQ := Lib.hid hq.symm
    clear ih hok hat hq hd8 hdeep
    generalize l.list.length = n at *
    go_enter Tryd.func38, Tryd.ntmps38
    go_wp2_with fail
    go_ret2
    exact bpost_err HQ.out (Below.refl _ _)
  rw [if_neg hd8] at hq
  have hd : decide ((8 : Int) < (deep : Int)) = false := decide_eq_false (by omega)
  have htell : ∀ p ∈ l.list, ∀ W, Below w.heap.size w W → Calls Tryd.prog 61 #[p.agg, .int .i64 deep] W (BPost (p.tell deep) W) := by
    intro p hp W hB
    obtain ⟨h1, h2, h3, h4⟩ := Ps.ok_mem hok p hp
    refine ptell_any p deep (by omega) h1 h2 W (hK.below hB hK.pos) fun W2 hB2 => ?_
    have hB3 := bel_step hB hB2
    have := ih p hp (deep + 1) p.adr p.cap W2 (by omega) h4 h3 (((hat.sub hp).below hB3 (Nat.le_refl _)).more hB3.size) (hK.below hB3 hK.pos)
    exact this
  have HTELL := Lib.hid htell
  have HR := Lib.hid hat.rd
  clear ih hok hat hK htell
  generalize l.list = ps at *
  obtain ⟨n, hn⟩ : ∃ n, ps.length = n := ⟨_, rfl⟩
  rw [hn] at hlen hq ⊢
  have HN := Lib.hid hn
  by_cases h32 : 32 < n
  · have h32d : decide ((32 : Int) < (n : Int)) = true := decide_eq_true (by omega)
    rw [if_pos h32] at hq
    have HQ := Lib.hid hq.symm
    clear hq h32 hd8 hdeep hn
    go_enter Tryd.func38, Tryd.ntmps38
    go_wp2_with fail
    go_ret2
    exact bpost_err HQ.out (Below.refl _ _)
  rw [if_neg h32] at hq
  have h32d : decide ((32 : Int) < (n : Int)) = false := decide_eq_false (by omega)
  have hn32 : n ≤ 32 := by omega
  have HQ : Hid ((if perrs (ps.map fun p => p.tell deep) = 0 then wput (pkl ps ++ pvl ps deep) else ([], perrs (ps.map fun p => p.tell deep))) = q) := Lib.hid hq
  have HD8 := Lib.hid hd8
  clear hq h32 hd8 hn hdeep
  have hmk := fun W => run_mkflds W n (by omega)
  go_enter Tryd.func38, Tryd.ntmps38
  go_wp2_with fail
  have hO0 : OutAt (w.alloc (.cells (flc (outl n [] [])).toArray 64)) w.heap.size (outl n [] []) := World.alloc_heap_new w _
  have hE0 : Below w.heap.size w (w.alloc (.cells (flc (outl n [] [])).toArray 64)) := (Below.refl _ w).alloc (Nat.le_refl _) _
  clear hmk
  go_loopw [24] (fun i wr => ∃ (j : Nat) (L : List Fld), i = .int .i64 j ∧ j ≤ n ∧ L = outl n (pkl (ps.take j)) (pvl (ps.take j) deep) ∧ perrs (ps.map fun p => p.tell deep) = perrs ((ps.drop j).map fun p => p.tell deep) ∧ OutAt wr w.heap.size L ∧ Below w.heap.size w wr) (fun i _ => n - (intOf i).toNat)
  case atStart => exact ⟨0, _, rfl, Nat.zero_le _, rfl, rfl, hO0, hE0⟩
  case round =>
    clear hO0 hE0
    obtain ⟨j, L, rfl, hj, hL, he, hO, hB⟩ := hrel
    have hs := hB.size
    have HL := Lib.hid hL
    have HE := Lib.hid he
    clear hL he
    by_cases hlt : j < n
    · obtain ⟨p, hp⟩ : ∃ p, ps[j]? = some p := ⟨_, List.getElem?_eq_getElem (by rw [HN.out]; exact hlt)⟩
      have hcell := HTELL.out p (List.mem_of_getElem? hp)
      obtain ⟨b1, o1, rfl, hb1, hpa⟩ := prop_at (HR.out.below hB (Nat.le_refl _)) hp
      obtain ⟨g0, g1, g2, g3, g4, g5, g6⟩ := hpa
      have hkl : (pkl (ps.take j)).length = j := by simp [pkl, HN.out]; omega
      have hvl : (pvl (ps.take j) deep).length = j := by simp [pvl, HN.out]; omega
      have hL1 := outl_set1 (n := n) (a := pkl (ps.take j)) (b := pvl (ps.take j) deep) (f := pkfl p.key) (by rw [hkl]; exact hlt)
      have hL2 := outl_set2 (n := n) (a := pkl (ps.take j) ++ [pkfl p.key]) (b := pvl (ps.take j) deep) (f := pvfl (p.tell deep)) (by simp [hkl]; omega) (by rw [hvl]; exact hlt)
      have hlen0 := outl_len (n := n) (a := pkl (ps.take j)) (b := pvl (ps.take j) deep) (by rw [hkl]; omega) (by rw [hvl]; omega)
      have HT : Hid ((L.set j (pkfl p.key)).set (n + j) (pvfl (p.tell deep)) = outl n (pkl (ps.take (j + 1))) (pvl (ps.take (j + 1)) deep)) := Lib.hid (by
        rw [hkl] at hL1
        rw [hvl] at hL2
        rw [HL.out, hL1, hL2, List.take_add_one, hp]
        simp [pkl, pvl])
      rw [← HL.out] at hlen0
      have HLL := Lib.hid hlen0
      have HD : Hid (perrs (ps.map fun p => p.tell deep) = if (p.tell deep).2 = 0 then perrs ((ps.drop (j + 1)).map fun p => p.tell deep) else (p.tell deep).2) := Lib.hid (by rw [HE.out, drop_cons hp]; rfl)
      clear hkl hvl hL1 hL2 hlen0 hp HL HE
      unfold Pn.agg BPost at hcell
      have HPV : Hid (pvfl (p.tell deep) = ⟨2, 2, 0, ⟨(p.tell deep).1.toArray⟩⟩) := Lib.hid rfl
      obtain ⟨tq, htq⟩ : ∃ t, p.tell deep = t := ⟨_, rfl⟩
      rw [htq] at hcell HT HD HPV
      obtain ⟨cb, ce⟩ := tq
      simp only at hcell HT HD HPV
      clear htq
      obtain ⟨key, type, null, ⟨pk, pn, pss⟩, adr, cap, sub⟩ := p
      simp only at hcell g0 g1 g2 g3 g4 g5 g6
      generalize sub.list.length = SL at *
      have hBa := hB.alloc hs (Obj.cells #[.string key, .int .u32 type, .bool null, .int .i64 pk, .int .u64 pn, .string pss, .slice adr SL cap] 75)
      have hXa : (wr.alloc (Obj.cells #[.string key, .int .u32 type, .bool null, .int .i64 pk, .int .u64 pn, .string pss, .slice adr SL cap] 75)).heap[wr.heap.size]? = some (.cells #[.string key, .int .u32 type, .bool null, .int .i64 pk, .int .u64 pn, .string pss, .slice adr SL cap] 75 (0, 0)) := World.alloc_heap_new wr _
      have hOa : OutAt (wr.alloc (Obj.cells #[.string key, .int .u32 type, .bool null, .int .i64 pk, .int .u64 pn, .string pss, .slice adr SL cap] 75)) w.heap.size L := (Below.heap_alloc wr _ _ hO.lt).trans hO
      have hBr : w.heap.size < wr.heap.size := hO.lt
      have hra : wr.heap.size < (wr.alloc (Obj.cells #[.string key, .int .u32 type, .bool null, .int .i64 pk, .int .u64 pn, .string pss, .slice adr SL cap] 75)).heap.size := by simp
      go_wp2_with fail
      refine (hcell _ hBa).mono ?_
      rintro e w1 ⟨A1, c1, rfl, ho1, hB1⟩
      have hO1 := hOa.below hB1
      have hX1 := (hB1.block _ hra).trans hXa
      have hB2 := bel_step hB (((Below.refl _ wr).alloc (Nat.le_refl _) _).trans (hB1.mono (Nat.le_of_lt hra)))
      have hr1 : wr.heap.size < w1.heap.size := Nat.lt_of_lt_of_le hra hB1.size
      have ho1b := own_base ho1 (Nat.le_of_lt hra)
      clear hcell hB1 hOa hXa hra hBa hO hB g0 g1 g2 g3 g4 g5 g6 ho1
      by_cases h0 : ce = 0
      · subst h0
        have HD2 : Hid (perrs (ps.map fun p => p.tell deep) = perrs ((ps.drop (j + 1)).map fun p => p.tell deep)) := Lib.hid (by have := HD.out; rwa [if_pos rfl] at this)
        clear HD
        go_wp2_with fail
        have hX2 : w1.drew.heap[wr.heap.size]? = some (.cells #[.string key, .int .u32 type, .bool null, .int .i64 pk, .int .u64 pn, .string pss, .slice adr SL cap] 75 (0, 0)) := hX1
        have hO2 : OutAt w1.drew w.heap.size L := hO1
        have hB3 := hB2.drew
        have ho2 : w1.drew.ownsRow wr.heap.size 5 1 (.slice A1 cb.length c1) cb.length (bcl cb) := ho1b
        have hr2 : wr.heap.size < w1.drew.heap.size := hr1
        refine wp_region_LG (exB w.heap.size) 17 [0, 1, 2, 3, 4, 5, 6, 7, 8, 10, 11, 9, 12, 13, 14, 15, 16] rfl (by decide) (by decide) (by kernel_rfl) ?_
        clear hX1 hO1 hB2 ho1b hr1
        generalize w1.drew = W2 at *
        have f0 : ∀ u : World, Ex w.heap.size W2 u → u.cell? ⟨wr.heap.size, 0, none⟩ = some (.string key) := fun u hu => by
          rw [hu.cell hr2 (Nat.ne_of_gt hBr)]
          simp only [World.cell?, hX2]; rfl
        have f1 : ∀ u : World, Ex w.heap.size W2 u → (convert 27 9 (.slice A1 cb.length c1)).run Tryd.prog u = .ok (.string ⟨cb.toArray⟩) u := fun u hu => strB (Rd.of_own (hu.own ho2 hBr)) rfl c1
        clear hX2 ho2
        generalize cb.length = CL at *
        simp only [List.filterMap_cons, List.filterMap_nil, List.getElem?_cons_zero, List.getElem?_cons_succ, Option.map_some]
        iterate 11
          refine wpL_takeG _ (v := ?_) (by kernel_rfl) (by kernel_rfl) (by kernel_rfl) (fun _ _ _ h => h) (by rfl) (fun u hu => ?_) ?_
          rotate_left
          focus
            replace hu : Ex w.heap.size W2 u := hu
            go_simp
            try with_reducible rfl
          simp only [Act.put, List.setIfInBounds_toArray, List.set_cons_zero, List.set_cons_succ]
        clear f0 f1
        refine wpL_doG _ (by kernel_rfl) (by rfl) (fun K hK => ?_)
        go_simp
        go_at_call 62
        have htx := ptext_any 1 key W2
        unfold Fld.cells at htx
        refine htx.mono ?_
        rintro e w6 ⟨rfl, hB6⟩
        refine hK _ _ (Ex.below hB6) ?_
        clear hK K htx
        have hO3 := hO2.below hB6
        have hB7 := bel_step hB3 hB6
        clear hO2 hB3 hB6 hr2
        refine wpL_doG _ (by kernel_rfl) (by rfl) (fun K hK => ?_)
        go_simp
        go_at_call 62
        have htx := ptext_any 2 ⟨cb.toArray⟩ w6
        unfold Fld.cells at htx
        refine htx.mono ?_
        rintro e w8 ⟨rfl, hB8⟩
        refine hK _ _ (Ex.below hB8) ?_
        clear hK K htx
        have hO4 := hO3.below hB8
        have hB9 := bel_step hB7 hB8
        have hjl : j < L.length := by rw [HLL.out]; omega
        have hnl : n + j < L.length := by rw [HLL.out]; omega
        have hO5 := hO4.set hjl ⟨1, 2, 0, key⟩
        have HT2 : Hid ((L.set j ⟨1, 2, 0, key⟩).set (n + j) ⟨2, 2, 0, ⟨cb.toArray⟩⟩ = outl n (pkl (ps.take (j + 1))) (pvl (ps.take (j + 1)) deep)) := Lib.hid HT.out
        have hO6 := hO5.set (i := n + j) (by rw [List.length_set]; exact hnl) ⟨2, 2, 0, ⟨cb.toArray⟩⟩
        obtain ⟨fa, ⟨z0, z1, z2, z3⟩, y0, y1, y2, y3⟩ := hO4.room hjl
        obtain ⟨fb, ⟨z4, z5, z6, z7⟩, y4, y5, y6, y7⟩ := hO5.room (i := n + j) (by rw [List.length_set]; exact hnl)
        have HO6 := Lib.hid hO6
        clear hO3 hB7 hB8 hO4 hO5 hO6 hjl hnl
        have hj2 : (j : Int) < (n : Int) + (n : Int) := by omega
        have hwr := IntWalk.i64_in ((n : Int) + (j : Int)) (by omega)
        have hnn : 0 ≤ (n : Int) + (j : Int) := by omega
        have htn : ((n : Int) + (j : Int)).toNat = n + j := by omega
        have hj3 : (n : Int) + (j : Int) < (n : Int) + (n : Int) := by omega
        refine wpL_takeG _ (v := ?_) (by kernel_rfl) (by kernel_rfl) (by kernel_rfl) (fun _ _ _ h => h) (by rfl) (fun u hu => ?_) ?_
        rotate_left
        focus
          go_simp
          try with_reducible rfl
        simp only [Act.put, List.setIfInBounds_toArray, List.set_cons_zero, List.set_cons_succ]
        refine wpL_doG _ (by kernel_rfl) (by rfl) (fun K hK => ?_)
        go_simp
        refine hK _ _ (Ex.set4 _ _ _ _ _) ?_
        clear hK K z0 z1 z2 z3 y0 y1 y2 y3
        have hB10 := below_set4 (a := j * 4) (b := j * 4 + 1) (c := j * 4 + 2) (d := j * 4 + 3) hB9 (Nat.le_refl _) (.int .i64 1) (.int .i64 2) (.int .u64 0) (.string key)
        generalize (((w8.setCell ⟨w.heap.size, j * 4, none⟩ (.int .i64 1)).setCell ⟨w.heap.size, j * 4 + 1, none⟩ (.int .i64 2)).setCell ⟨w.heap.size, j * 4 + 2, none⟩ (.int .u64 0)).setCell ⟨w.heap.size, j * 4 + 3, none⟩ (.string key) = W9 at *
        refine wpL_takeG _ (v := ?_) (by kernel_rfl) (by kernel_rfl) (by kernel_rfl) (fun _ _ _ h => h) (by rfl) (fun u hu => ?_) ?_
        rotate_left
        focus
          go_simp
          try with_reducible rfl
        simp only [Act.put, List.setIfInBounds_toArray, List.set_cons_zero, List.set_cons_succ]
        refine wpL_doG _ (by kernel_rfl) (by rfl) (fun K hK => ?_)
        go_simp
        refine hK _ _ (Ex.set4 _ _ _ _ _) ?_
        clear hK K z4 z5 z6 z7 y4 y5 y6 y7 hwr hnn htn hj2 hj3
        refine wpL_doneG _ (by kernel_rfl) ?_
        clear w6 hBr hb1
        go_wp2_with fail
        go_roundw
        case rel => exact ⟨j + 1, _, by go_num, by omega, HT2.out, HD2.out, HO6.out, below_set4 hB10 (Nat.le_refl _) _ _ _ _⟩
        case measure => simp [intOf]; omega
      · have hbe : (ce != 0) = true := by simpa using h0
        have hq : q = ([], ce) := by
          have h1 := HD.out
          rw [if_neg h0] at h1
          rw [← HQ.out, h1, if_neg h0]
        have HQ2 := Lib.hid hq
        clear ho1b h0 hq HD
        go_wp2_with fail
        go_ret2
        exact bpost_err HQ2.out hB2
    · obtain rfl : j = n := by omega
      have hz : perrs (ps.map fun p => p.tell deep) = 0 := by rw [HE.out, List.drop_eq_nil_of_le (by rw [HN.out]; exact Nat.le_refl _)]; rfl
      have hLe : L = pkl ps ++ pvl ps deep := by
        rw [HL.out, List.take_of_length_le (by rw [HN.out]; exact Nat.le_refl _), outl_full (by simp [pkl, HN.out]) (by simp [pvl, HN.out])]
      have hq : wput L = q := by rw [hLe, ← HQ.out, if_pos hz]
      have hll : L.length = j + j := by rw [hLe]; simp [pkl, pvl, HN.out]
      have hpl := playd_any L (some ⟨w.heap.size, 0, none⟩) (j + j) (by rw [hll]; omega) (by rw [hLe]; exact pput_flds ps deep) wr hO.rd
      rw [hq, hll] at hpl
      clear hq hz hLe hlt HE HL
      go_wp2_with fail
      refine hpl.mono ?_
      rintro e w3 ⟨A3, c3, rfl, ho3, hB3⟩
      go_wp2_with fail
      go_ret2
      exact ⟨A3, c3, rfl, own_base ho3 hs, bel_step hB hB3⟩
/-- what props.put answers -/
theorem pput_any : ∀ (l : Ps) (deep : Nat) (A : Option Addr) (c : Nat) (w : World), deep ≤ 9 → l.Ok → l.list.length ≤ 9223372036854775807 → l.At w w.heap.size A → Kinds w →
    Calls Tryd.prog 38 #[.slice A l.list.length c, .int .i64 deep] w (BPost (l.put deep) w) :=
  Ps.ind fun l ih deep A c w h1 h2 h3 h4 h5 => pput_step l ih deep A c w h1 h2 h3 h4 h5
set_option maxRecDepth 100000 in
theorem pPut_any (l : Ps) (A : Option Addr) (c : Nat) (w : World) (hok : l.Ok) (hlen : l.list.length ≤ 9223372036854775807) (hat : l.At w w.heap.size A) (hK : Kinds w) :
    Calls Tryd.prog 16 #[.slice A l.list.length c] w (BPost (l.put 1) w) := by
  have h : Calls Tryd.prog 38 #[.slice A l.list.length c, .int .i64 1] w (BPost (l.put 1) w) := pput_any l 1 A c w (by omega) hok hlen hat hK
  generalize l.put 1 = q at *
  generalize l.list.length = n at *
  clear hok hat hK
  go_enter Tryd.func16, Tryd.ntmps16
  go_wp2_with fail
  refine h.mono ?_
  rintro e w1 ⟨A1, c1, rfl, ho, hB⟩
  go_wp2_with fail
  go_ret2
  exact ⟨A1, c1, rfl, ho, hB⟩
end Go.Proofs.YtanfnjlndckhkaaDoor
