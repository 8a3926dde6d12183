/- WALK: the reference's row of layer 8 -/
import Derived.Test.YtlgokfgbcohioaaDoorDsRM
import Derived.Test.YtlgokfgbcohioaaDoorK1
import Derived.Test.YtlgokfgbcohioaaDoorK3
namespace Go.Proofs.YtlgokfgbcohioaaDoor
open Go.RowKit Plain

set_option maxRecDepth 100000 in
set_option maxHeartbeats 2000000 in
theorem rdrow_any (r : List VV) (A : Option Addr) (c : Nat) (hlen : r.length ≤ 1000) (hok : ∀ v ∈ r, VVOk v) (w : World) (hr : Rd w w.heap.size A (vvl r)) :
    Calls Tryd.prog 43 #[.slice A r.length c] w (BPost (drow r) w) := by
  obtain ⟨q, hq⟩ : ∃ q, drow r = q := ⟨_, rfl⟩
  rw [hq]
  have HQ := Lib.hid hq
  have HR := Lib.hid hr
  have HOK := Lib.hid hok
  clear hq hr hok
  obtain ⟨n, hn⟩ : ∃ n, r.length = n := ⟨_, rfl⟩
  rw [hn] at hlen ⊢
  have HN := Lib.hid hn
  clear hn
  go_enter Tryd.func43, Tryd.ntmps43
  go_wp2_with fail
  go_loopw [4, 5] (fun o i wr => ∃ (j M : Nat) (fs : List Fld) (A2 : Option Addr) (c2 : Nat), i = .int .i64 j ∧ o = .slice A2 M c2 ∧ j ≤ n ∧ fs = (r.take j).map drfld ∧ fs.length = M ∧ drerr r = drerr (r.drop j) ∧ wr.ownsRow w.heap.size 73 4 (.slice A2 M c2) M (flc fs) ∧ Below w.heap.size w wr) (fun _ i _ => n - (intOf i).toNat)
  case atStart => exact ⟨0, 0, [], none, 0, rfl, rfl, Nat.zero_le _, rfl, rfl, rfl, World.ownsRow_nil _ _ _ _, Below.refl _ _⟩
  case round =>
    obtain ⟨j, M, fs, A2, c2, rfl, rfl, hj, hfs, hM, he, hown, hB⟩ := hrel
    have hfl : M = j := by rw [← hM, hfs]; simp [HN.out]; omega
    have hs := hB.size
    have HFS := Lib.hid hfs
    have HE := Lib.hid he
    have HML := Lib.hid hM
    have HM : Hid (M ≤ 1000 ∧ M = j) := Lib.hid ⟨by omega, hfl⟩
    clear hfs he hM hfl
    by_cases hlt : j < n
    · obtain ⟨v, hv⟩ : ∃ v, r[j]? = some v := ⟨_, List.getElem?_eq_getElem (by rw [HN.out]; exact hlt)⟩
      obtain ⟨b1, o1, rfl, hb1, g0, g1, g2⟩ := val_at (HR.out.below hB (Nat.le_refl _)) hv
      have hvok := HOK.out v (List.mem_of_getElem? hv)
      have hd := drop_cons hv
      have HT : Hid ((r.take (j + 1)).map drfld = fs ++ [drfld v]) := Lib.hid (by rw [HFS.out, List.take_add_one, hv]; simp)
      have HD : Hid (drerr r = if (dcell v).2 = 0 then drerr (r.drop (j + 1)) else (dcell v).2) := Lib.hid (by rw [HE.out, hd, drerr])
      obtain ⟨k, vn, vs⟩ := v
      simp only at g0 g1 g2
      have hp := fun W => rvalput_any k vn vs 1 false hvok.2.2 W
      have hvf := fun her => vfls_ok (k := k) (n := vn) (s := vs) (base := 1) (raw := false) hvok.2.2 her
      have hcell : dcell ⟨k, vn, vs⟩ = if verr k vn vs.toList.isEmpty 1 false = 0 then wput (vfls k vn vs 1 false) else ([], verr k vn vs.toList.isEmpty 1 false) := rfl
      unfold PutPost at hp
      obtain ⟨l, hl⟩ : ∃ l, vfls k vn vs 1 false = l := ⟨_, rfl⟩
      obtain ⟨er, her⟩ : ∃ er, verr k vn vs.toList.isEmpty 1 false = er := ⟨_, rfl⟩
      rw [hl, her] at hcell hvf
      simp only [hl, her] at hp
      have HC := Lib.hid hcell
      have HVF := Lib.hid hvf
      clear hv hd HE hcell hvf hl her hvok
      have hfail : ∀ e : Int, ¬ e = 0 → (dcell ⟨k, vn, vs⟩).2 = e → q = ([], e) := fun e h0 h1 => by
        have h2 := HD.out
        rw [h1, if_neg h0] at h2
        rw [← HQ.out]; unfold drow
        rw [h2, if_neg h0]
      have HFAIL := Lib.hid hfail
      clear hfail
      go_wp2_with fail
      refine (hp _).mono ?_
      rintro e w1 ⟨A1, c1, rfl, hc1, hc2, hr1, hB1⟩
      have hown1 := own_kept hown hB1 (Nat.le_refl _)
      have hB2 := bel_step hB hB1
      have hl1 : l.length ≤ 1 := by omega
      clear hp hB1 hown hB g0 g1 g2 hc1 hc2
      by_cases h0 : er = 0
      · subst h0
        have hput := rputs_any l A1 c1 (by omega) (HVF.out rfl).2.1 w1 hr1
        have hput2 : Calls Tryd.prog 39 #[.slice A1 l.length c1] w1 (BPost (wput l) w1) := hput
        have hc := HC.out
        rw [if_pos rfl] at hc
        rw [← hc] at hput2
        unfold BPost at hput2
        have HF : Hid (drfld ⟨k, vn, vs⟩ = ⟨1, 2, 0, ⟨(dcell ⟨k, vn, vs⟩).1.toArray⟩⟩) := Lib.hid rfl
        obtain ⟨cq, hcq⟩ : ∃ cq, dcell ⟨k, vn, vs⟩ = cq := ⟨_, rfl⟩
        rw [hcq] at hput2 HD HF HFAIL
        obtain ⟨cb, ce⟩ := cq
        simp only at hput2 HD HF HFAIL
        clear hput hc hcq hr1
        go_wp2_with fail
        refine hput2.mono ?_
        rintro e w2 ⟨A3, c3, rfl, ho3, hB3⟩
        have hown2 := own_kept hown1 hB3 (Nat.le_refl _)
        have hB4 := bel_step hB2 hB3
        have hs4 := hB4.size
        clear hput2 hown1 hB3 hB2
        by_cases h1 : ce = 0
        · subst h1
          have hst := strB (Rd.of_own ho3) rfl c3
          have HD2 : Hid (drerr r = drerr (r.drop (j + 1))) := Lib.hid (by have := HD.out; rwa [if_pos rfl] at this)
          clear ho3 HD HFAIL
          go_wp2_with (at_builtin; refine wpList_appF1 rfl _ _ rfl rfl hown2 ⟨1, 2, 0, ⟨cb.toArray⟩⟩ rfl (by simp) (by have := HM.out; omega) hs4 ?_; intro A5 c5 w5 ho5 hg5)
          go_roundw
          case rel => exact ⟨j + 1, M + 1, fs ++ [drfld ⟨k, vn, vs⟩], A5, c5, by go_num, rfl, by omega, HT.out.symm, by simp [HML.out], HD2.out, by rw [HF.out]; exact ho5, own_grown hB4 hown2 hs4 hg5⟩
          case measure => simp [intOf]; omega
        · have hbe : (ce != 0) = true := by simpa using h1
          have HQ2 := Lib.hid (HFAIL.out ce h1 rfl)
          clear h1 ho3 HD HFAIL
          go_wp2_with fail
          go_ret2
          exact bpost_err HQ2.out hB4
      · have hbe : (er != 0) = true := by simpa using h0
        have HQ2 := Lib.hid (HFAIL.out er h0 (by rw [HC.out, if_neg h0]))
        clear h0 hr1 HD HFAIL
        go_wp2_with fail
        go_ret2
        exact bpost_err HQ2.out hB2
    · obtain rfl : j = n := by omega
      have hz : drerr r = 0 := by rw [HE.out, List.drop_eq_nil_of_le (by rw [HN.out]; exact Nat.le_refl _)]; rfl
      have hq : q = wput fs := by
        rw [← HQ.out]; unfold drow
        rw [if_pos hz, HFS.out, List.take_of_length_le (by rw [HN.out]; exact Nat.le_refl _)]
      have hok : ∀ f ∈ fs, FldOk f := by
        intro f hf
        rw [HFS.out] at hf
        obtain ⟨v, _, rfl⟩ := List.mem_map.1 hf
        exact ⟨by simp [drfld], by simp [drfld], by simp [drfld]⟩
      have hput := rputs_any fs A2 c2 (by rw [HML.out]; have := HM.out; omega) hok wr (by have := Rd.of_own hown; exact this)
      have hput2 : Calls Tryd.prog 39 #[.slice A2 fs.length c2] wr (BPost (wput fs) wr) := hput
      rw [← hq, HML.out] at hput2
      clear hput hok hq hz HE hlt hown
      go_wp2_with fail
      refine hput2.mono ?_
      rintro e w3 ⟨A3, c3, rfl, ho3, hB3⟩
      go_wp2_with fail
      go_ret2
      exact ⟨A3, c3, rfl, own_base ho3 hs, bel_step hB hB3⟩
end Go.Proofs.YtlgokfgbcohioaaDoor
