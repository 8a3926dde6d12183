/- PLAIN LAW: a group's tags. -/
import Derived.Test.YtkanhggmhjldmaaWBackP
namespace Go.Proofs.Ytkanhggmhjldmaa
open Go.RowKit Plain

/-- a tag that opens a group -/
theorem wnext_open (p r : List UInt8) (n : Nat) (hn1 : 1 ≤ n) (hn : n < 536870912) (opn : List Nat) (out : List Fld) (ho : opn.length < 8) :
    wnext (p ++ (vput (8 * n + 3) ++ r)) ⟨p.length, opn, out⟩ = (0, ⟨p.length + vsize (8 * n + 3), opn ++ [n], out⟩) := by
  unfold wnext
  simp only [vget_at p r (show 8 * n + 3 < 18446744073709551616 by omega), if_true]
  rw [if_neg (by omega), if_pos (by omega), if_neg (by omega)]
  congr 4
  omega
/-- one more is too deep -/
theorem wnext_deep (p r : List UInt8) (n : Nat) (hn1 : 1 ≤ n) (hn : n < 536870912) (opn : List Nat) (out : List Fld) (ho : 8 ≤ opn.length) :
    (wnext (p ++ (vput (8 * n + 3) ++ r)) ⟨p.length, opn, out⟩).1 = 12 := by
  unfold wnext
  simp only [vget_at p r (show 8 * n + 3 < 18446744073709551616 by omega), if_true]
  rw [if_neg (by omega), if_pos (by omega), if_pos ho]
/-- a tag that ends a group -/
theorem wnext_end (p r : List UInt8) (n : Nat) (hn1 : 1 ≤ n) (hn : n < 536870912) (opn : List Nat) (out : List Fld) :
    wnext (p ++ (vput (8 * n + 4) ++ r)) ⟨p.length, opn ++ [n], out⟩ = (0, ⟨p.length + vsize (8 * n + 4), opn, out⟩) := by
  unfold wnext
  simp only [vget_at p r (show 8 * n + 4 < 18446744073709551616 by omega), if_true]
  have e : (8 * n + 4) / 8 = n := by omega
  rw [if_neg (by omega), if_neg (by omega), if_pos (by omega), e, if_pos (by simp)]
  simp
/-- what stands behind a field's tag -/
theorem wval_one {num kind fval : Nat} {ftext : ByteArray} (h : werrF ⟨num, kind, fval, ftext⟩ = 0) (hval : fval < 18446744073709551616) (hlen : (wenc num kind fval ftext.data.toList).length ≤ 4096) :
    wval (wenc num kind fval ftext.data.toList) (vsize (8 * num + kind)) kind = ⟨fval, ftext, (wenc num kind fval ftext.data.toList).length, 0⟩ := by
  obtain ⟨k0, k1, k2, k3, k4, k5⟩ := werrF_ok h
  simp only at k0 k1 k2 k3 k4 k5
  have hk : kind = 0 ∨ kind = 1 ∨ kind = 2 ∨ kind = 5 := by omega
  have hvs : vsize (8 * num + kind) = (vput (8 * num + kind)).length := rfl
  rcases hk with rfl | rfl | rfl | rfl
  · have ht := empty_of (k5 (by decide))
    subst ht
    have e : wenc num 0 fval emptyT.data.toList = vput (8 * num + 0) ++ (vput fval ++ []) := by unfold wenc; simp
    rw [e, hvs, wval_e0, vget_at _ _ hval]
    simp [vsize]
  · have ht := empty_of (k5 (by decide))
    subst ht
    have e : wenc num 1 fval emptyT.data.toList = vput (8 * num + 1) ++ le 8 fval := by unfold wenc; simp
    rw [e, hvs, wval_e1, fget_at 8 fval _ (by simpa using hval)]
    simp [le_length]
  · have hv0 := k4 rfl
    subst hv0
    have e : wenc num 2 0 ftext.data.toList = vput (8 * num + 2) ++ (vput ftext.data.toList.length ++ ftext.data.toList) := by unfold wenc; simp
    have hl : ftext.data.toList.length < 18446744073709551616 := by rw [e] at hlen; simp at hlen ⊢; omega
    rw [e, hvs, wval_e2, vget_at _ _ hl]
    simp only [if_true]
    rw [if_neg (by simp [vsize]; omega)]
    have hdr : (vput (8 * num + 2) ++ (vput ftext.data.toList.length ++ ftext.data.toList)).drop ((vput (8 * num + 2)).length + vsize ftext.data.toList.length) = ftext.data.toList := by
      rw [← List.append_assoc, show (vput (8 * num + 2)).length + vsize ftext.data.toList.length = (vput (8 * num + 2) ++ vput ftext.data.toList.length).length by simp [vsize]]
      simp
    rw [hdr, List.take_of_length_le (Nat.le_refl _)]
    simp [vsize, Nat.add_assoc]
  · have ht := empty_of (k5 (by decide))
    subst ht
    have e : wenc num 5 fval emptyT.data.toList = vput (8 * num + 5) ++ le 4 fval := by unfold wenc; simp
    have h4 := k3 rfl
    rw [e, hvs, wval_e5, fget_at 4 fval _ (by simpa using h4)]
    simp [le_length]
/-- within a group a field is passed over -/
theorem wnext_over (p r : List UInt8) {f : Fld} (h : werrF f = 0) (hw : FldOk f) (hlen : (wencF f).length ≤ 4096) (opn : List Nat) (out : List Fld) (ho : ¬ opn.length = 0) :
    wnext (p ++ (wencF f ++ r)) ⟨p.length, opn, out⟩ = (0, ⟨p.length + (wencF f).length, opn, out⟩) := by
  obtain ⟨fnum, fkind, fval, ftext⟩ := f
  obtain ⟨k0, k1, k2, k3, k4, k5⟩ := werrF_ok h
  simp only at k0 k1 k2 k3 k4 k5
  have hval : fval < 18446744073709551616 := hw.2.2
  obtain ⟨num, rfl⟩ := Int.eq_ofNat_of_zero_le (show 0 ≤ fnum by omega)
  obtain ⟨kind, rfl⟩ := Int.eq_ofNat_of_zero_le (show 0 ≤ fkind by omega)
  have hT : 8 * num + kind < 18446744073709551616 := by omega
  have hd : (8 * num + kind) / 8 = num := by omega
  have hm : (8 * num + kind) % 8 = kind := by omega
  have hE : wencF ⟨num, kind, fval, ftext⟩ = wenc num kind fval ftext.data.toList := rfl
  rw [hE] at hlen ⊢
  have hv := wval_one h hval hlen
  have hv2 : wval (wenc num kind fval ftext.data.toList ++ r) (vsize (8 * num + kind)) kind = ⟨fval, ftext, (wenc num kind fval ftext.data.toList).length, 0⟩ := by
    rw [wval_app (by rw [hv]), hv]
  have hv3 := wval_behind p (wenc num kind fval ftext.data.toList ++ r) (vsize (8 * num + kind)) kind (by rw [hv2])
  rw [hv2] at hv3
  have hg : vget (p ++ (wenc num kind fval ftext.data.toList ++ r)) (p.length : Nat) = (8 * num + kind, p.length + vsize (8 * num + kind), 0) := by
    have e : ∃ q, wenc num kind fval ftext.data.toList = vput (8 * num + kind) ++ q := ⟨_, rfl⟩
    obtain ⟨q, e⟩ := e
    rw [e, List.append_assoc]
    exact vget_at p _ hT
  unfold wnext
  simp only [hg, if_true, hd, hm, hv3]
  rw [if_neg (by omega), if_neg (by omega), if_neg (by omega), if_neg ho]
/-- so many tags that open groups -/
def tags (t k : Nat) : List UInt8 := (List.replicate k (vput t)).flatten
theorem tags_succ (t k : Nat) : tags t (k + 1) = vput t ++ tags t k := by simp [tags, List.replicate_succ]
theorem run_opens (n : Nat) (hn1 : 1 ≤ n) (hn : n < 536870912) (out : List Fld) : ∀ (k : Nat) (p r : List UInt8) (o f : Nat), o + k ≤ 8 → k ≤ f →
    wrun (p ++ (tags (8 * n + 3) k ++ r)) f ⟨p.length, List.replicate o n, out⟩ = wrun ((p ++ tags (8 * n + 3) k) ++ r) (f - k) ⟨(p ++ tags (8 * n + 3) k).length, List.replicate (o + k) n, out⟩ := by
  intro k
  induction k with
  | zero => intro p r o f _ _; simp [tags]
  | succ k ih =>
    intro p r o f ho hf
    obtain ⟨f, rfl⟩ : ∃ g, f = g + 1 := ⟨f - 1, by omega⟩
    have hv := vsize_bd (8 * n + 3)
    rw [tags_succ, List.append_assoc, wrun, if_pos (by simp only [List.length_append, vsize] at *; omega), wnext_open p _ n hn1 hn _ _ (by simp; omega), if_pos rfl]
    have hrep : List.replicate o n ++ [n] = List.replicate (o + 1) n := by simp [List.replicate_succ']
    have := ih (p ++ vput (8 * n + 3)) r (o + 1) f (by omega) (by omega)
    simp only [List.length_append, List.append_assoc] at this
    simp only [vsize, hrep, List.length_append, List.append_assoc]
    rw [this]
    rw [show f + 1 - (k + 1) = f - k by omega, show o + 1 + k = o + (k + 1) by omega]
theorem run_ends (n : Nat) (hn1 : 1 ≤ n) (hn : n < 536870912) (out : List Fld) : ∀ (k : Nat) (p r : List UInt8) (f : Nat), k ≤ f →
    wrun (p ++ (tags (8 * n + 4) k ++ r)) f ⟨p.length, List.replicate k n, out⟩ = wrun ((p ++ tags (8 * n + 4) k) ++ r) (f - k) ⟨(p ++ tags (8 * n + 4) k).length, [], out⟩ := by
  intro k
  induction k with
  | zero => intro p r f _; simp [tags]
  | succ k ih =>
    intro p r f hf
    obtain ⟨f, rfl⟩ : ∃ g, f = g + 1 := ⟨f - 1, by omega⟩
    have hv := vsize_bd (8 * n + 4)
    have hrep : List.replicate (k + 1) n = List.replicate k n ++ [n] := by simp [List.replicate_succ']
    rw [hrep, tags_succ, List.append_assoc, wrun, if_pos (by simp only [List.length_append, vsize] at *; omega), wnext_end p _ n hn1 hn _ _, if_pos rfl]
    have := ih (p ++ vput (8 * n + 4)) r f (by omega)
    simp only [List.length_append, List.append_assoc] at this
    simp only [vsize, List.length_append, List.append_assoc]
    rw [this]
    rw [show f + 1 - (k + 1) = f - k by omega]
theorem run_over (opn : List Nat) (out : List Fld) (ho : ¬ opn.length = 0) : ∀ (l : List Fld) (p r : List UInt8) (f : Nat), werrs l = 0 → (∀ g ∈ l, FldOk g) → (wencs l).length ≤ 4096 → l.length ≤ f →
    wrun (p ++ (wencs l ++ r)) f ⟨p.length, opn, out⟩ = wrun ((p ++ wencs l) ++ r) (f - l.length) ⟨(p ++ wencs l).length, opn, out⟩ := by
  intro l
  induction l with
  | nil => intro p r f _ _ _ _; simp [wencs]
  | cons g l ih =>
    intro p r f h hw hlen hf
    simp only [List.length_cons] at hf
    obtain ⟨f, rfl⟩ : ∃ k, f = k + 1 := ⟨f - 1, by omega⟩
    have hg := werrs_mem h g (by simp)
    have h2 : werrs l = 0 := by rw [werrs, if_pos hg] at h; exact h
    have e : wencs (g :: l) = wencF g ++ wencs l := by simp [wencs]
    rw [e] at hlen ⊢
    rw [List.length_append] at hlen
    have hpos : 0 < (wencF g).length := by
      have := vsize_bd (8 * g.num.toNat + g.kind.toNat)
      have : vsize (8 * g.num.toNat + g.kind.toNat) ≤ (wencF g).length := by unfold wencF wenc; simp [vsize]
      omega
    rw [List.append_assoc, wrun, if_pos (by simp only [List.length_append]; omega), wnext_over p _ hg (hw g (by simp)) (by omega) _ _ ho, if_pos rfl]
    have := ih (p ++ wencF g) r f h2 (fun q hq => hw q (by simp [hq])) (by omega) (by omega)
    simp only [List.length_append, List.append_assoc] at this
    simp only [List.length_append, List.append_assoc, List.length_cons]
    rw [this]
    rw [show f + 1 - (l.length + 1) = f - l.length by omega]
theorem tags_len (t k : Nat) : k ≤ (tags t k).length := by
  induction k with
  | zero => simp
  | succ k ih =>
    have := vsize_bd t
    rw [tags_succ, List.length_append]
    simp only [vsize] at this
    omega
theorem wencs_ge (l : List Fld) : l.length ≤ (wencs l).length := by
  induction l with
  | nil => simp
  | cons g l ih =>
    have e : wencs (g :: l) = wencF g ++ wencs l := by simp [wencs]
    have h1 := vsize_bd (8 * g.num.toNat + g.kind.toNat)
    have h2 : vsize (8 * g.num.toNat + g.kind.toNat) ≤ (wencF g).length := by unfold wencF wenc; simp [vsize]
    rw [e, List.length_append, List.length_cons]
    omega
/-- groups in between tell nothing -/
theorem wof_groups {a b : List Fld} (n k : Nat) (hn1 : 1 ≤ n) (hn : n < 536870912) (hk : k ≤ 8) (hk0 : ¬ k = 0) (ha : werrs a = 0) (hwa : ∀ g ∈ a, FldOk g) (hb : werrs b = 0) (hwb : ∀ g ∈ b, FldOk g) (hab : a.length + b.length ≤ 256)
    (hlen : (wencs a ++ (tags (8 * n + 3) k ++ (wencs b ++ (tags (8 * n + 4) k ++ wencs b)))).length ≤ 4096) :
    wof (wencs a ++ (tags (8 * n + 3) k ++ (wencs b ++ (tags (8 * n + 4) k ++ wencs b)))) = (a ++ b, 0) := by
  have hl := hlen
  simp only [List.length_append] at hl
  have hra := wof_wencs a ha hwa (by omega) (by omega)
  have hrb := wof_wencs b hb hwb (by omega) (by omega)
  unfold wof at hra hrb ⊢
  rw [if_neg (by omega)] at hra hrb
  rw [if_neg (by omega)]
  obtain ⟨g, hg, hw⟩ := wrun_first (wencs a) (tags (8 * n + 3) k ++ (wencs b ++ (tags (8 * n + 4) k ++ wencs b))) a (tags (8 * n + 3) k ++ (wencs b ++ (tags (8 * n + 4) k ++ wencs b))).length (wencs a).length ⟨0, [], []⟩ hra (by simp) (by simp)
  have hL : (wencs a ++ (tags (8 * n + 3) k ++ (wencs b ++ (tags (8 * n + 4) k ++ wencs b)))).length = (wencs a).length + (tags (8 * n + 3) k ++ (wencs b ++ (tags (8 * n + 4) k ++ wencs b))).length := List.length_append
  rw [hL, hw]
  simp only [List.length_append] at hg
  have t1 := tags_len (8 * n + 3) k
  have t2 := tags_len (8 * n + 4) k
  have t3 := wencs_ge b
  have h1 := run_opens n hn1 hn a k (wencs a) (wencs b ++ (tags (8 * n + 4) k ++ wencs b)) 0 g (by omega) (by omega)
  rw [List.replicate_zero] at h1
  rw [h1, Nat.zero_add]
  rw [run_over (List.replicate k n) a (by simpa using hk0) b (wencs a ++ tags (8 * n + 3) k) (tags (8 * n + 4) k ++ wencs b) (g - k) hb hwb (by omega) (by omega)]
  rw [run_ends n hn1 hn a k ((wencs a ++ tags (8 * n + 3) k) ++ wencs b) (wencs b) (g - k - b.length) (by omega)]
  have h2 := wrun_second (((wencs a ++ tags (8 * n + 3) k) ++ wencs b) ++ tags (8 * n + 4) k) (wencs b) a b hab (wencs b).length ⟨0, [], []⟩ (g - k - b.length - k) hrb (by simp) (by simp) (by omega)
  simpa using h2
theorem tags_snoc (t k : Nat) : tags t (k + 1) = tags t k ++ vput t := by
  simp [tags, List.replicate_succ']
/-- one more group is too deep -/
theorem wof_deep {a : List Fld} (n : Nat) (hn1 : 1 ≤ n) (hn : n < 536870912) (ha : werrs a = 0) (hwa : ∀ g ∈ a, FldOk g) (hal : a.length ≤ 256) (r : List UInt8)
    (hlen : (wencs a ++ (tags (8 * n + 3) 9 ++ r)).length ≤ 4096) : wof (wencs a ++ (tags (8 * n + 3) 9 ++ r)) = ([], 12) := by
  have e : wencs a ++ (tags (8 * n + 3) 9 ++ r) = wencs a ++ (tags (8 * n + 3) 8 ++ (vput (8 * n + 3) ++ r)) := by rw [tags_snoc]; simp
  rw [e] at hlen ⊢
  have hl := hlen
  simp only [List.length_append] at hl
  have hra := wof_wencs a ha hwa hal (by omega)
  have hv := vsize_bd (8 * n + 3)
  simp only [vsize] at hv
  unfold wof at hra ⊢
  rw [if_neg (by omega)] at hra
  rw [if_neg (by omega)]
  obtain ⟨g, hg, hw⟩ := wrun_first (wencs a) (tags (8 * n + 3) 8 ++ (vput (8 * n + 3) ++ r)) a (tags (8 * n + 3) 8 ++ (vput (8 * n + 3) ++ r)).length (wencs a).length ⟨0, [], []⟩ hra (by simp) (by simp)
  have hL : (wencs a ++ (tags (8 * n + 3) 8 ++ (vput (8 * n + 3) ++ r))).length = (wencs a).length + (tags (8 * n + 3) 8 ++ (vput (8 * n + 3) ++ r)).length := List.length_append
  rw [hL, hw]
  simp only [List.length_append] at hg
  have t1 := tags_len (8 * n + 3) 8
  have h1 := run_opens n hn1 hn a 8 (wencs a) (vput (8 * n + 3) ++ r) 0 g (by omega) (by omega)
  rw [List.replicate_zero] at h1
  rw [h1, Nat.zero_add]
  obtain ⟨f, hf⟩ : ∃ f, g - 8 = f + 1 := ⟨g - 9, by omega⟩
  rw [hf, wrun, if_pos (by simp only [List.length_append]; omega)]
  have hd := wnext_deep (wencs a ++ tags (8 * n + 3) 8) r n hn1 hn (List.replicate 8 n) a (by simp)
  rw [hd]
  rfl
end Go.Proofs.Ytkanhggmhjldmaa
