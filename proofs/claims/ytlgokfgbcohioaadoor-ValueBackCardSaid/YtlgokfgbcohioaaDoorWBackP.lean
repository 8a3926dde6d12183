/- PLAIN LAW: fields' bytes tell the fields. -/
import Derived.Test.YtlgokfgbcohioaaDoorWJoin
import Derived.Test.YtlgokfgbcohioaaDoorVarL
namespace Go.Proofs.YtlgokfgbcohioaaDoor
open Go.RowKit Plain

theorem fget_at (k n : Nat) (l1 : List UInt8) (hn : n < 256 ^ k) : fget k (l1 ++ le k n) (l1.length : Nat) = (n, l1.length + k, 0) := by
  unfold fget
  rw [if_neg (by simp; omega), if_neg (by simp [le_length]; omega)]
  have h : (l1 ++ le k n).drop l1.length = le k n := by simp
  rw [Int.toNat_natCast, h, List.take_of_length_le (by rw [le_length]; exact Nat.le_refl _), un_le k n hn]
theorem vget_at {n : Nat} (l1 l2 : List UInt8) (hn : n < 18446744073709551616) : vget (l1 ++ (vput n ++ l2)) (l1.length : Nat) = (n, l1.length + vsize n, 0) := by
  rw [← List.append_assoc]; exact vget_mid l1 l2 hn
theorem vget_at0 {n : Nat} (l2 : List UInt8) (hn : n < 18446744073709551616) : vget (vput n ++ l2) 0 = (n, vsize n, 0) := by
  have := vget_at [] l2 hn
  simpa using this
theorem empty_of {s : ByteArray} (h : s.toList.isEmpty = true) : s = emptyT := by
  rw [ByteArray.toList_eq] at h
  have h2 : s.data = #[] := by simpa using h
  unfold emptyT
  rw [← h2]
/-- one field's bytes tell the field -/
theorem wof_one {f : Fld} (h : werrF f = 0) (hw : FldOk f) (hlen : (wencF f).length ≤ 4096) : wof (wencF f) = ([f], 0) := by
  obtain ⟨fnum, fkind, fval, ftext⟩ := f
  obtain ⟨k0, k1, k2, k3, k4, k5⟩ := werrF_ok h
  simp only at k0 k1 k2 k3 k4 k5
  have hval : fval < 18446744073709551616 := hw.2.2
  obtain ⟨num, rfl⟩ := Int.eq_ofNat_of_zero_le (show 0 ≤ fnum by omega)
  obtain ⟨kind, rfl⟩ := Int.eq_ofNat_of_zero_le (show 0 ≤ fkind by omega)
  have hT : 8 * num + kind < 18446744073709551616 := by omega
  have hd : (8 * num + kind) / 8 = num := by omega
  have hm : (8 * num + kind) % 8 = kind := by omega
  have hbd := vsize_bd (8 * num + kind)
  have hE : wencF ⟨num, kind, fval, ftext⟩ = wenc num kind fval ftext.data.toList := rfl
  rw [hE] at hlen ⊢
  -- what stands behind the tag
  have hv : wval (wenc num kind fval ftext.data.toList) (vsize (8 * num + kind)) kind = ⟨fval, ftext, (wenc num kind fval ftext.data.toList).length, 0⟩ := by
    have hk : kind = 0 ∨ kind = 1 ∨ kind = 2 ∨ kind = 5 := by omega
    have hvs : vsize (8 * num + kind) = (vput (8 * num + kind)).length := rfl
    rcases hk with rfl | rfl | rfl | rfl
    · have ht := empty_of (k5 (by decide))
      subst ht
      have e : wenc num 0 fval emptyT.data.toList = vput (8 * num + 0) ++ (vput fval ++ []) := by unfold wenc; simp
      rw [e, hvs, wval_e0, vget_at _ _ hval]
      simp [vsize]
    · have ht := empty_of (k5 (by decide))
      subst ht
      have e : wenc num 1 fval emptyT.data.toList = vput (8 * num + 1) ++ le 8 fval := by unfold wenc; simp
      rw [e, hvs, wval_e1, fget_at 8 fval _ (by simpa using hval)]
      simp [le_length]
    · have hv0 := k4 rfl
      subst hv0
      have e : wenc num 2 0 ftext.data.toList = vput (8 * num + 2) ++ (vput ftext.data.toList.length ++ ftext.data.toList) := by unfold wenc; simp
      have hl : ftext.data.toList.length < 18446744073709551616 := by rw [e] at hlen; simp at hlen ⊢; omega
      rw [e, hvs, wval_e2, vget_at _ _ hl]
      simp only [if_true]
      rw [if_neg (by simp [vsize]; omega)]
      have hdr : (vput (8 * num + 2) ++ (vput ftext.data.toList.length ++ ftext.data.toList)).drop ((vput (8 * num + 2)).length + vsize ftext.data.toList.length) = ftext.data.toList := by
        rw [← List.append_assoc, show (vput (8 * num + 2)).length + vsize ftext.data.toList.length = (vput (8 * num + 2) ++ vput ftext.data.toList.length).length by simp [vsize]]
        simp
      rw [hdr, List.take_of_length_le (Nat.le_refl _)]
      simp [vsize, Nat.add_assoc]
    · have ht := empty_of (k5 (by decide))
      subst ht
      have e : wenc num 5 fval emptyT.data.toList = vput (8 * num + 5) ++ le 4 fval := by unfold wenc; simp
      have h4 := k3 rfl
      rw [e, hvs, wval_e5, fget_at 4 fval _ (by simpa using h4)]
      simp [le_length]
  have hg : vget (wenc num kind fval ftext.data.toList) ((0 : Nat) : Int) = (8 * num + kind, vsize (8 * num + kind), 0) := by
    unfold wenc
    exact vget_at0 _ hT
  have hn : wnext (wenc num kind fval ftext.data.toList) ⟨0, [], []⟩ = (0, ⟨(wenc num kind fval ftext.data.toList).length, [], [⟨num, kind, fval, ftext⟩]⟩) := by
    unfold wnext
    simp only [hg, if_true, hd, hm, hv]
    rw [if_neg (by omega), if_neg (by omega), if_neg (by omega)]
    simp
  have hpos : 0 < (wenc num kind fval ftext.data.toList).length := by
    have : vsize (8 * num + kind) ≤ (wenc num kind fval ftext.data.toList).length := by unfold wenc; simp [vsize]
    omega
  unfold wof
  rw [if_neg (by omega)]
  obtain ⟨L, hL⟩ : ∃ L, (wenc num kind fval ftext.data.toList).length = L + 1 := ⟨(wenc num kind fval ftext.data.toList).length - 1, by omega⟩
  have hrun : ∀ g, wrun (wenc num kind fval ftext.data.toList) (g + 1) ⟨0, [], []⟩ = ([⟨num, kind, fval, ftext⟩], 0) := by
    intro g
    rw [wrun, if_pos hpos, hn, if_pos rfl, wrun_end2 (Nat.lt_irrefl _)]
    rfl
  have := hrun L
  rw [← hL] at this
  exact this
/-- what was put is read again -/
theorem wof_wencs : ∀ (l : List Fld), werrs l = 0 → (∀ f ∈ l, FldOk f) → l.length ≤ 256 → (wencs l).length ≤ 4096 → wof (wencs l) = (l, 0) := by
  intro l
  induction l with
  | nil => intro _ _ _ _; rfl
  | cons f l ih =>
    intro h hw hn hlen
    have hf := werrs_mem h
    have h2 : werrs l = 0 := by rw [werrs, if_pos (hf f (by simp))] at h; exact h
    have e : wencs (f :: l) = wencF f ++ wencs l := by simp [wencs]
    rw [e] at hlen ⊢
    rw [List.length_append] at hlen
    simp only [List.length_cons] at hn
    have := wof_app (wof_one (hf f (by simp)) (hw f (by simp)) (by omega)) (ih h2 (fun g hg => hw g (by simp [hg])) (by omega) (by omega)) hlen (by simp; omega)
    simpa using this
end Go.Proofs.YtlgokfgbcohioaaDoor
