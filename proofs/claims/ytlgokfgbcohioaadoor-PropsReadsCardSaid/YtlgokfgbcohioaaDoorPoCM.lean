/- WALK: props.halves -/
import Derived.Test.YtlgokfgbcohioaaDoorPoBM
namespace Go.Proofs.YtlgokfgbcohioaaDoor
open Go.RowKit Plain

def HPost (l : List Fld) (w : World) (e : Ending) (w' : World) : Prop :=
  ∃ (K V : List Fld) (A1 : Option Addr) (c1 : Nat) (A2 : Option Addr) (c2 : Nat), e = .returned (.tuple #[.slice A1 K.length c1, .slice A2 V.length c2, .int .i64 (phalves l)]) ∧
    (Rd w' w'.heap.size A1 (flc K) ∧ Rd w' w'.heap.size A2 (flc V)) ∧ (phalves l = 0 → K = wall 1 l ∧ V = wall 2 l) ∧ Below w.heap.size w w'
theorem hpost_err {l : List Fld} {w w' : World} {e : Int} (h : phalves l = e) (he : ¬ e = 0) (hB : Below w.heap.size w w') : HPost l w (.returned (.tuple #[.slice none 0 0, .slice none 0 0, .int .i64 e])) w' :=
  ⟨[], [], none, 0, none, 0, by rw [h]; rfl, ⟨Rd.nil, Rd.nil⟩, fun h0 => absurd (h.symm.trans h0) he, hB⟩
set_option maxRecDepth 100000 in
set_option maxHeartbeats 4000000 in
theorem halves_any (l : List Fld) (A : Option Addr) (c : Nat) (hl : l.length ≤ 256) (w : World) (hr : Rd w w.heap.size A (flc l)) :
    Calls Tryd.prog 83 #[.slice A l.length c] w (HPost l w) := by
  have h1 := fun W (hB : Below w.heap.size w W) => all_any 1 l A c (by omega) W ((hr.below hB (Nat.le_refl _)).more hB.size)
  have h2 := fun W (hB : Below w.heap.size w W) => all_any 2 l A c (by omega) W ((hr.below hB (Nat.le_refl _)).more hB.size)
  have k1 := wall_len 1 l
  have k2 := wall_len 2 l
  obtain ⟨n, hn⟩ : ∃ n, l.length = n := ⟨_, rfl⟩
  rw [hn] at hl h1 h2 k1 k2 ⊢
  have HN := Lib.hid hn
  have HR := Lib.hid hr
  have HA := Lib.hid (And.intro h1 h2)
  have HLE := Lib.hid (And.intro k1 k2)
  clear hn hr h1 h2 k1 k2
  go_enter Tryd.func83, Tryd.ntmps83
  go_wp2_with fail
  go_loopw [11] (fun i wr => ∃ (j : Nat), i = .int .i64 j ∧ j ≤ n ∧ ferr (l.map phalf) = ferr ((l.drop j).map phalf) ∧ Below w.heap.size w wr) (fun i _ => n - (intOf i).toNat)
  case atStart => exact ⟨0, rfl, Nat.zero_le _, rfl, Below.refl _ _⟩
  case round =>
    obtain ⟨j, rfl, hj, he, hB⟩ := hrel
    have hs := hB.size
    have HE := Lib.hid he
    clear he
    by_cases hlt : j < n
    · obtain ⟨f, hf⟩ : ∃ f, l[j]? = some f := ⟨_, List.getElem?_eq_getElem (by rw [HN.out]; exact hlt)⟩
      obtain ⟨b1, o1, rfl, hb1, g0, g1, g2, g3⟩ := fld_at (HR.out.below hB (Nat.le_refl _)) hf
      have HEC : Hid (ferr (l.map phalf) = if phalf f = 0 then ferr ((l.drop (j + 1)).map phalf) else phalf f) := Lib.hid (by rw [HE.out, ferr_cons (f := phalf) hf])
      obtain ⟨num, kind, val, text⟩ := f
      simp only at g0 g1 g2 g3
      have hBa := hB.alloc hs (Obj.cells #[.int .i64 num, .int .i64 kind, .int .u64 val, .string text] 73)
      clear hf HE
      by_cases n12 : num = 1 ∨ num = 2
      · by_cases hk : kind = 2
        · have HG : Hid (ferr (l.map phalf) = ferr ((l.drop (j + 1)).map phalf)) := Lib.hid (by have := HEC.out; rwa [if_pos (show phalf ⟨num, kind, val, text⟩ = 0 by unfold phalf; rw [if_neg (fun h => h.2 hk)])] at this)
          subst hk
          clear HEC
          rcases n12 with rfl | rfl
          all_goals
            go_wp2_with fail
            go_roundw
            case rel => exact ⟨j + 1, by go_num, by omega, HG.out, hBa⟩
            case measure => simp [intOf]; omega
        · have hph : phalves l = 4 := by
            have h1 := HEC.out
            have h0 : phalf ⟨num, kind, val, text⟩ = 4 := by unfold phalf; rw [if_pos ⟨n12, hk⟩]
            rw [h0, if_neg (by decide)] at h1
            unfold phalves
            rw [if_neg (by rw [h1]; decide), h1]
          have HPH := Lib.hid hph
          have hb : (kind != 2) = true := by simpa using hk
          clear hk HEC hph
          rcases n12 with rfl | rfl
          all_goals
            go_wp2_with fail
            go_ret3
            exact hpost_err HPH.out (by decide) hBa
      · have HG : Hid (ferr (l.map phalf) = ferr ((l.drop (j + 1)).map phalf)) := Lib.hid (by have := HEC.out; rwa [if_pos (show phalf ⟨num, kind, val, text⟩ = 0 by unfold phalf; rw [if_neg (fun h => n12 h.1)])] at this)
        have b1' : (num == 1) = false := by simp; intro h; exact n12 (.inl h)
        have b2' : (num == 2) = false := by simp; intro h; exact n12 (.inr h)
        clear n12 HEC
        go_wp2_with fail
        go_roundw
        case rel => exact ⟨j + 1, by go_num, by omega, HG.out, hBa⟩
        case measure => simp [intOf]; omega
    · have hz : ferr (l.map phalf) = 0 := by rw [HE.out, List.drop_eq_nil_of_le (by rw [HN.out]; omega)]; rfl
      have HPH : Hid (phalves l = if 32 < (wall 1 l).length ∨ 32 < (wall 2 l).length then 6 else if (wall 1 l).length = (wall 2 l).length then 0 else 4) := Lib.hid (by unfold phalves; rw [if_pos hz])
      obtain ⟨h1, h2⟩ := HA.out
      obtain ⟨k1, k2⟩ := HLE.out
      obtain ⟨K, hK⟩ : ∃ N, wall 1 l = N := ⟨_, rfl⟩
      obtain ⟨V, hV⟩ : ∃ N, wall 2 l = N := ⟨_, rfl⟩
      rw [hK] at h1 k1 HPH
      rw [hV] at h2 k2 HPH
      have HEQ := Lib.hid (And.intro hK.symm hV.symm)
      obtain ⟨nk, hnk⟩ : ∃ k, K.length = k := ⟨_, rfl⟩
      obtain ⟨nv, hnv⟩ : ∃ k, V.length = k := ⟨_, rfl⟩
      rw [hnk] at h1 k1 HPH
      rw [hnv] at h2 k2 HPH
      have HLN := Lib.hid (And.intro hnk hnv)
      obtain rfl : j = n := by omega
      clear hK hV hnk hnv hz HE hlt HA HLE
      go_wp2_with fail
      refine (h1 _ hB).mono ?_
      rintro e w1 ⟨A1, c1, rfl, ho1, hB1⟩
      have hW1 := bel_step hB hB1
      clear h1
      go_wp2_with fail
      refine (h2 _ hW1).mono ?_
      rintro e w2 ⟨A2, c2, rfl, ho2, hB2⟩
      have hW2 := bel_step hW1 hB2
      have hr1 := own_rd2 ho1 hB2
      have hr2 := Rd.of_own ho2
      clear h2 ho1 ho2 hB1 hB2
      by_cases b1 : 32 < nk
      · have hd : decide ((32 : Int) < (nk : Int)) = true := decide_eq_true (by omega)
        have HP := Lib.hid (show phalves l = 6 by rw [HPH.out, if_pos (.inl b1)])
        clear HPH b1
        go_wp2_with fail
        go_ret3
        exact hpost_err HP.out (by decide) hW2
      have hd : decide ((32 : Int) < (nk : Int)) = false := decide_eq_false (by omega)
      by_cases b2 : 32 < nv
      · have hd2 : decide ((32 : Int) < (nv : Int)) = true := decide_eq_true (by omega)
        have HP := Lib.hid (show phalves l = 6 by rw [HPH.out, if_pos (.inr b2)])
        clear HPH b2 b1
        go_wp2_with fail
        go_ret3
        exact hpost_err HP.out (by decide) hW2
      have hd2 : decide ((32 : Int) < (nv : Int)) = false := decide_eq_false (by omega)
      by_cases b3 : nk = nv
      · have HP := Lib.hid (show phalves l = 0 by rw [HPH.out, if_neg (by omega), if_pos b3])
        subst b3
        clear HPH b1 b2
        go_wp2_with fail
        go_ret3
        exact ⟨K, V, A1, c1, A2, c2, by rw [HP.out, HLN.out.1, HLN.out.2]; rfl, ⟨hr1, hr2⟩, fun _ => HEQ.out, hW2⟩
      · have hb3 : ((nk : Int) != (nv : Int)) = true := by simp; omega
        have HP := Lib.hid (show phalves l = 4 by rw [HPH.out, if_neg (by omega), if_neg b3])
        clear HPH b1 b2 b3
        go_wp2_with fail
        go_ret3
        exact hpost_err HP.out (by decide) hW2
end Go.Proofs.YtlgokfgbcohioaaDoor
