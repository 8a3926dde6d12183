/- PLAIN LAW: a value's field tells the value. -/
import Derived.Test.YtlgokfgbcohioaaDoorVOf
import Derived.Test.YtlgokfgbcohioaaDoorWBackP
import Derived.Test.YtlgokfgbcohioaaDoorWPutOk
namespace Go.Proofs.YtlgokfgbcohioaaDoor
open Go.RowKit Plain

theorem vkof_fld {k base : Int} {raw : Bool} (h1 : 1 ≤ k) (h7 : k ≤ 7) (hr : k = 7 → raw = true) : vkof (base + k - 1) base raw = k := by
  have e : base + k - 1 - base + 1 = k := by omega
  unfold vkof
  rw [e, if_pos ⟨h1, h7, hr⟩]
theorem vright_great {k : Int} {n : Nat} {e : Bool} (hn : n < 18446744073709551616) (h : vright k n e = 0) : vgreat k n = false := by
  rw [vright_ref k n e hn] at h
  split at h
  · omega
  split at h
  · omega
  split at h
  · omega
  split at h
  · omega
  · rename_i h4; simpa using h4
theorem vright_text {k : Int} {n : Nat} {e : Bool} (hn : n < 18446744073709551616) (h : vright k n e = 0) : (¬ k = 6 ∧ ¬ k = 7 → e = true) ∧ (k = 0 ∨ k = 6 ∨ k = 7 → n = 0) := by
  rw [vright_ref k n e hn] at h
  split at h
  · omega
  split at h
  · omega
  rename_i h2
  split at h
  · omega
  rename_i h3
  refine ⟨fun hk => ?_, fun hk => ?_⟩
  · cases e
    · exact absurd ⟨hk, rfl⟩ h2
    · rfl
  · by_cases h0 : n = 0
    · exact h0
    · exact absurd ⟨hk, by simp; omega⟩ h3
theorem vfld_werr {k : Int} {n : Nat} {s : ByteArray} {base : Int} (hn : n < 18446744073709551616) (h : vright k n s.toList.isEmpty = 0) (h0 : ¬ k = 0) (hb : 1 ≤ base ∧ base ≤ 1000) : werrF (vfld k n s base) = 0 := by
  obtain ⟨k0, k7⟩ := vright_bd h
  obtain ⟨t1, t2⟩ := vright_text hn h
  have hg := vright_great hn h
  unfold werrF vfld wwrong
  dsimp only
  have h8 : k = 1 ∨ k = 2 ∨ k = 3 ∨ k = 4 ∨ k = 5 ∨ k = 6 ∨ k = 7 := by omega
  rw [if_neg (by omega)]
  rcases h8 with rfl | rfl | rfl | rfl | rfl | rfl | rfl
  · rw [t1 (by omega)]; simp [vkind]
  · rw [t1 (by omega)]; simp [vkind]
  · rw [t1 (by omega)]
    have : n < 4294967296 := by simp [vgreat] at hg; omega
    simp [vkind]; omega
  · rw [t1 (by omega)]; simp [vkind]
  · rw [t1 (by omega)]; simp [vkind]
  · have := t2 (by omega); subst this; simp [vkind]
  · have := t2 (by omega); subst this; simp [vkind]
theorem vfld_ok {k : Int} {n : Nat} {s : ByteArray} {base : Int} (hn : n < 18446744073709551616) (hk : 0 ≤ k ∧ k ≤ 7) (hb : 1 ≤ base ∧ base ≤ 1000) : FldOk (vfld k n s base) := by
  unfold vfld FldOk
  dsimp only
  omega
theorem vofs_fld {k : Int} {n : Nat} {s : ByteArray} {base : Int} {raw : Bool} (hn : n < 18446744073709551616) (h : vright k n s.toList.isEmpty = 0) (h0 : ¬ k = 0) (hr : k = 7 → raw = true) (l : List Fld) (acc : VV) :
    vofs base raw (vfld k n s base :: l) acc = vofs base raw l ⟨k, n, s⟩ := by
  obtain ⟨k0, k7⟩ := vright_bd h
  have e : vkof (vfld k n s base).num base raw = k := vkof_fld (by omega) k7 hr
  rw [vofs, e, if_neg h0, if_neg (fun hh => hh rfl), if_neg (by rw [show (vfld k n s base).val = n from rfl, vright_great hn h]; simp)]
  rfl
/-- what a right value's field tells -/
theorem vofs_fls {k : Int} {n : Nat} {s : ByteArray} {base : Int} {raw : Bool} (hn : n < 18446744073709551616) (h : verr k n s.toList.isEmpty base raw = 0) (l : List Fld) (acc : VV) :
    vofs base raw (vfls k n s base raw ++ l) acc = vofs base raw l (if k = 0 then acc else ⟨k, n, s⟩) := by
  unfold vfls
  by_cases h0 : k = 0
  · rw [if_neg (by simp [h0]), if_pos h0]; rfl
  · rw [if_pos ⟨h, h0⟩, if_neg h0]
    unfold verr at h
    split at h
    · split at h
      · rename_i h1
        split at h
        · omega
        · rename_i h2
          exact vofs_fld hn h1 h0 (fun h7 => by cases raw with | true => rfl | false => exact absurd ⟨h7, rfl⟩ h2) l acc
      · rename_i h1; exact absurd h h1
    · omega
theorem verr_right {k : Int} {n : Nat} {e : Bool} {base : Int} {raw : Bool} (h : verr k n e base raw = 0) : vright k n e = 0 ∧ 1 ≤ base ∧ base ≤ 1000 := by
  unfold verr at h
  split at h
  · split at h
    · rename_i hb h1; exact ⟨h1, hb⟩
    · rename_i h1; exact absurd h h1
  · omega
theorem vfls_ok {k : Int} {n : Nat} {s : ByteArray} {base : Int} {raw : Bool} (hn : n < 18446744073709551616) (h : verr k n s.toList.isEmpty base raw = 0) :
    werrs (vfls k n s base raw) = 0 ∧ (∀ f ∈ vfls k n s base raw, FldOk f) ∧ (vfls k n s base raw).length ≤ 1 := by
  obtain ⟨h1, hb⟩ := verr_right h
  unfold vfls
  split
  · rename_i hc
    refine ⟨?_, ?_, by simp⟩
    · rw [werrs, if_pos (vfld_werr hn h1 hc.2 hb)]; rfl
    · intro f hf
      obtain rfl : f = _ := by simpa using hf
      exact vfld_ok hn (vright_bd h1) hb
  · exact ⟨rfl, by simp, by simp⟩
/-- the value that two values' fields tell -/
def vwant (a b : VV) : VV := if b.k = 0 then a else b
theorem zero_vv {k : Int} {n : Nat} {s : ByteArray} (hn : n < 18446744073709551616) (h : vright k n s.toList.isEmpty = 0) (h0 : k = 0) : (⟨k, n, s⟩ : VV) = VV.zero := by
  obtain ⟨t1, t2⟩ := vright_text hn h
  have e1 := t2 (.inl h0)
  have e2 := empty_of (t1 (by omega))
  subst h0 e1 e2
  rfl
theorem vof_two {a b : VV} {base : Int} (hna : a.n < 18446744073709551616) (hnb : b.n < 18446744073709551616) (ha : verr a.k a.n a.s.toList.isEmpty base true = 0) (hb : verr b.k b.n b.s.toList.isEmpty base true = 0) :
    vof base true (vfls a.k a.n a.s base true ++ vfls b.k b.n b.s base true) = (vwant a b, 0) := by
  obtain ⟨h1, hbd⟩ := verr_right ha
  unfold vof vwant
  rw [if_pos hbd, vofs_fls hna ha, ← List.append_nil (vfls b.k b.n b.s base true), vofs_fls hnb hb]
  by_cases h0 : b.k = 0
  · rw [if_pos h0, if_pos h0]
    by_cases h2 : a.k = 0
    · rw [if_pos h2]
      have := zero_vv hna h1 h2
      rw [show a = (⟨a.k, a.n, a.s⟩ : VV) from rfl, this]; rfl
    · rw [if_neg h2]; rfl
  · rw [if_neg h0, if_neg h0]; rfl
/-- the fields of two right values are put, or are too long; and are told again -/
theorem vtwo_put {a b : VV} {base : Int} (hna : a.n < 18446744073709551616) (hnb : b.n < 18446744073709551616) (ha : verr a.k a.n a.s.toList.isEmpty base true = 0) (hb : verr b.k b.n b.s.toList.isEmpty base true = 0) (l : List Fld)
    (hl : vfls a.k a.n a.s base true ++ vfls b.k b.n b.s base true = l) : (∀ f ∈ l, FldOk f) ∧ l.length ≤ 2 ∧ (wput l = ([], 3) ∨ (wput l = (wencs l, 0) ∧ wof (wencs l) = (l, 0))) := by
  obtain ⟨a1, a2, a3⟩ := vfls_ok hna ha
  obtain ⟨b1, b2, b3⟩ := vfls_ok hnb hb
  have hw : werrs l = 0 := by rw [← hl]; exact werrs_app a1 b1
  have hf : ∀ f ∈ l, FldOk f := by
    intro f hf
    rw [← hl] at hf
    rcases List.mem_append.1 hf with h | h
    · exact a2 f h
    · exact b2 f h
  have hn : l.length ≤ 2 := by rw [← hl, List.length_append]; omega
  refine ⟨hf, hn, ?_⟩
  unfold wput
  rw [if_pos hw, if_neg (by omega)]
  by_cases h4 : 4096 < (wencs l).length
  · rw [if_pos h4]; exact .inl rfl
  · rw [if_neg h4]; exact .inr ⟨rfl, wof_wencs l hw hf (by omega) (by omega)⟩
end Go.Proofs.YtlgokfgbcohioaaDoor
