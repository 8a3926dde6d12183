/- WALKS: the reader of wire: next. -/
import Derived.Test.YtlgokfgbcohioaaDoorWRg
namespace Go.Proofs.YtlgokfgbcohioaaDoor
open Go.RowKit Plain

section
variable (b : List UInt8) (A : Option Addr) (n c : Nat) (hn : b.length = n) (hnc : n ≤ c) (hcm : c ≤ 9223372036854775807) (hl : b.length ≤ 140737488355328) (w0 : World) (hr0 : Rd w0 w0.heap.size A (bcl b))
include hn hnc hcm hl hr0
set_option maxRecDepth 100000 in
set_option maxHeartbeats 4000000 in
theorem next_any (s : RSt) (R : Nat) (W : World) (h : Rdr w0 W R A n c s) (E : Nat) (s2 : RSt) (hE : wnext b s = (E, s2)) :
    Calls Tryd.prog 58 #[.pointer (some ⟨R, 0, none⟩)] W fun e w' => e = .returned (.int .i64 E) ∧ (E = 0 → Rdr w0 w' R A n c s2) ∧ Below w0.heap.size w0 w' := by
  have hnum := rnum_any b A n c hn hnc hcm hl w0 hr0 s R W h
  have hvl := vget_lt b s.at_
  have hfield := fun (p num kind : Nat) (W' : World) (h' : Rdr w0 W' R A n c ⟨p, s.opn, s.out⟩) => field_any b A n c hn hnc hcm hl w0 hr0 ⟨p, s.opn, s.out⟩ R num kind W' h' _ rfl
  have hbegin := fun (p num : Nat) (W' : World) (h' : Rdr w0 W' R A n c ⟨p, s.opn, s.out⟩) => begin_any A n c w0 ⟨p, s.opn, s.out⟩ R num W' h'
  have hend := fun (p num : Nat) (W' : World) (h' : Rdr w0 W' R A n c ⟨p, s.opn, s.out⟩) => end_any A n c w0 ⟨p, s.opn, s.out⟩ R num W' h'
  clear hn hnc hcm hl hr0
  unfold wnext at hE
  obtain ⟨r, hr⟩ : ∃ r, vget b s.at_ = r := ⟨_, rfl⟩
  rw [hr] at hnum hvl hE
  obtain ⟨v, to, er⟩ := r
  simp only at hnum hvl hE hfield hbegin hend
  clear hr
  by_cases he : er = 0
  · subst he
    rw [if_pos rfl] at hE
    obtain ⟨num, hnm⟩ : ∃ num, v / 8 = num := ⟨_, rfl⟩
    obtain ⟨kind, hkd⟩ : ∃ kind, v % 8 = kind := ⟨_, rfl⟩
    rw [hnm, hkd] at hE
    have hnlt : num < 2305843009213693952 := by omega
    have hsh : (v : Int) / 8 = (num : Int) := by omega
    have hmd : bits BinOp.and IntKind.u64 (v : Int) 7 = (kind : Int) := by
      rw [show (7 : Int) = ((7 : Nat) : Int) by rfl, u64_and_nat _ _ (by omega) (by omega)]
      rw [show v &&& 7 = v % 8 from Nat.and_two_pow_sub_one_eq_mod v 3, hkd]
    go_enter Tryd.func58, Tryd.ntmps58
    go_wp2_with fail
    refine hnum.mono ?_
    rintro e w1 ⟨rfl, h1, hB1, _⟩
    replace h1 := h1 (by first | rfl | trivial)
    go_wp2_with fail
    · have hg : (num : Int) < 1 ∨ 536870912 ≤ (num : Int) := by assumption
      rw [if_pos (by omega)] at hE
      obtain ⟨rfl, rfl⟩ := Prod.mk.inj hE
      go_ret
      exact ⟨rfl, fun h => absurd h (by decide), hB1⟩
    · have hg : 1 ≤ (num : Int) ∧ (num : Int) < 536870912 := by assumption
      have hk3 : kind = 3 := by have := eq_of_beq (by assumption : ((kind : Int) == 3) = true); omega
      rw [if_neg (by omega), if_pos hk3] at hE
      refine (hbegin to num w1 h1).mono ?_
      rintro e w2 ⟨rfl, h2, hB2⟩
      by_cases h8 : 8 ≤ s.opn.length
      · rw [if_pos h8] at hE ⊢
        obtain ⟨rfl, rfl⟩ := Prod.mk.inj hE
        clear h2 h8 hfield hbegin hend hE
        go_wp2_with fail
        go_ret
        first | exact ⟨rfl, fun h => absurd h (by decide), hB2⟩ | exact ⟨rfl, hB2⟩
      · rw [if_neg h8] at hE ⊢
        obtain ⟨rfl, rfl⟩ := Prod.mk.inj hE
        have h3 := h2 h8
        clear h2 h8 hfield hbegin hend hE
        go_wp2_with fail
        go_ret
        exact ⟨rfl, (by first | exact h3 | exact fun _ => h3), hB2⟩
    · have hg : 1 ≤ (num : Int) ∧ (num : Int) < 536870912 := by assumption
      have hk3 : ¬ kind = 3 := by have a : ¬ (kind : Int) = 3 := (by simpa using (by assumption : ((kind : Int) == 3) = false)); omega
      have hk4 : kind = 4 := by have := eq_of_beq (by assumption : ((kind : Int) == 4) = true); omega
      rw [if_neg (by omega), if_neg hk3, if_pos hk4] at hE
      refine (hend to num w1 h1).mono ?_
      rintro e w2 ⟨rfl, h2, hB2⟩
      by_cases h8 : s.opn.getLast? = some num
      · rw [if_pos h8] at hE ⊢
        obtain ⟨rfl, rfl⟩ := Prod.mk.inj hE
        have h3 := h2 h8
        clear h2 h8 hfield hbegin hend hE
        go_wp2_with fail
        go_ret
        exact ⟨rfl, (by first | exact h3 | exact fun _ => h3), hB2⟩
      · rw [if_neg h8] at hE ⊢
        obtain ⟨rfl, rfl⟩ := Prod.mk.inj hE
        clear h2 h8 hfield hbegin hend hE
        go_wp2_with fail
        go_ret
        first | exact ⟨rfl, fun h => absurd h (by decide), hB2⟩ | exact ⟨rfl, hB2⟩
    · have hg : 1 ≤ (num : Int) ∧ (num : Int) < 536870912 := by assumption
      have hk3 : ¬ kind = 3 := by have a : ¬ (kind : Int) = 3 := (by simpa using (by assumption : ((kind : Int) == 3) = false)); omega
      have hk4 : ¬ kind = 4 := by have a : ¬ (kind : Int) = 4 := (by simpa using (by assumption : ((kind : Int) == 4) = false)); omega
      rw [if_neg (by omega), if_neg hk3, if_neg hk4] at hE
      have hf := hfield to num kind w1 h1
      obtain ⟨V, hV⟩ : ∃ V, wval b to kind = V := ⟨_, rfl⟩
      rw [hV] at hE hf
      have hE1 : (if V.err = 0 then if s.opn.length = 0 then if 256 ≤ s.out.length then 6 else 0 else 0 else V.err) = E := by
        split at hE
        · rename_i h1; rw [if_pos h1]
          split at hE
          · rename_i h2; rw [if_pos h2]
            split at hE
            · rename_i h3; rw [if_pos h3]; exact (Prod.mk.inj hE).1
            · rename_i h3; rw [if_neg h3]; exact (Prod.mk.inj hE).1
          · rename_i h2; rw [if_neg h2]; exact (Prod.mk.inj hE).1
        · rename_i h1; rw [if_neg h1]; exact (Prod.mk.inj hE).1
      have hE2 : E = 0 → s2 = ⟨V.to, s.opn, if s.opn.length = 0 then s.out ++ [⟨num, kind, V.val, V.text⟩] else s.out⟩ := by
        intro h0
        split at hE
        · split at hE
          · rename_i h2; rw [if_pos h2]
            split at hE
            · have := (Prod.mk.inj hE).1; omega
            · exact (Prod.mk.inj hE).2.symm
          · rename_i h2; rw [if_neg h2]; exact (Prod.mk.inj hE).2.symm
        · rename_i h1; have := (Prod.mk.inj hE).1; omega
      rw [hE1] at hf
      refine hf.mono ?_
      rintro e w2 ⟨rfl, h2, hB2⟩
      have h3 : E = 0 → Rdr w0 w2 R A n c s2 := fun h0 => by rw [hE2 h0]; exact h2 h0
      clear h2 hfield hbegin hend hE hf hE1 hE2 hV
      have H3 := Lib.hid h3
      clear h3
      go_wp2_with fail
      go_ret
      exact ⟨rfl, H3.out, hB2⟩
    · have hg : (num : Int) < 1 := by assumption
      rw [if_pos (by omega)] at hE
      obtain ⟨rfl, rfl⟩ := Prod.mk.inj hE
      go_ret
      exact ⟨rfl, fun h => absurd h (by decide), hB1⟩
  · rw [if_neg he] at hE
    obtain ⟨rfl, rfl⟩ := Prod.mk.inj hE
    have hb : ((er : Int) != 0) = true := by simp; omega
    have HE := Lib.hid he
    clear he hE hfield hbegin hend hvl
    go_enter Tryd.func58, Tryd.ntmps58
    go_wp2_with fail
    refine hnum.mono ?_
    rintro e w1 ⟨rfl, -, hB1, _⟩
    go_wp2_with fail
    go_ret
    exact ⟨rfl, fun h => absurd h HE.out, hB1⟩
end
end Go.Proofs.YtlgokfgbcohioaaDoor
