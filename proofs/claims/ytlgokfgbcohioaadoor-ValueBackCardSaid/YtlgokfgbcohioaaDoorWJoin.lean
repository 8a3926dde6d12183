/- PLAIN LAW: one message behind another. -/
import Derived.Test.YtlgokfgbcohioaaDoorWOf
namespace Go.Proofs.YtlgokfgbcohioaaDoor
open Go.RowKit Plain

theorem vgo_app : ∀ (f i v : Nat) (l r : List UInt8), (vgo f i v l).2.2 = 0 → vgo f i v (l ++ r) = vgo f i v l := by
  intro f
  induction f with
  | zero => intro i v l r h; simp [vgo] at h
  | succ f ih =>
    intro i v l r h
    cases l with
    | nil => simp [vgo] at h
    | cons c l =>
      rw [List.cons_append, vgo, vgo]
      rw [vgo] at h
      split
      · rfl
      · rename_i h1
        rw [if_neg h1] at h
        split
        · rfl
        · rename_i h2
          rw [if_neg h2] at h
          exact ih _ _ _ _ h
theorem vget_app {a b : List UInt8} {p : Nat} (h : (vget a p).2.2 = 0) : vget (a ++ b) p = vget a p := by
  have hp := (vget_to h).2.2
  unfold vget at h ⊢
  have h1 : ¬ ((p : Int) < 0 ∨ (a.length : Int) < (p : Int)) := by omega
  have h2 : ¬ ((p : Int) < 0 ∨ ((a ++ b).length : Int) < (p : Int)) := by simp; omega
  rw [if_neg h1] at h ⊢
  rw [if_neg h2]
  have h3 : (vgo 10 0 0 (a.drop (p : Int).toNat)).2.2 = 0 := by
    split at h
    · assumption
    · exact h
  rw [Int.toNat_natCast] at h3 ⊢
  rw [List.drop_append_of_le_length hp, vgo_app _ _ _ _ _ h3]
theorem fget_app {k : Nat} {a b : List UInt8} {p : Nat} (h : (fget k a p).2.2 = 0) : fget k (a ++ b) p = fget k a p := by
  have hp := (fget_to h).2
  unfold fget at h ⊢
  have h1 : ¬ ((p : Int) < 0 ∨ (a.length : Int) < (p : Int)) := by omega
  have h2 : ¬ ((p : Int) < 0 ∨ ((a ++ b).length : Int) < (p : Int)) := by simp; omega
  have h3 : ¬ ((a.length : Int) - (p : Int) < (k : Int)) := by omega
  have h4 : ¬ (((a ++ b).length : Int) - (p : Int) < (k : Int)) := by simp; omega
  rw [if_neg h1, if_neg h3, if_neg h2, if_neg h4]
  rw [Int.toNat_natCast, List.drop_append_of_le_length (by omega), List.take_append_of_le_length (by first | (simp; done) | (simp; omega))]
theorem wval_app {a b : List UInt8} {p k : Nat} (h : (wval a p k).err = 0) : wval (a ++ b) p k = wval a p k := by
  unfold wval at h ⊢
  split
  · rename_i h0; rw [if_pos h0] at h; rw [vget_app h]
  rename_i h0; rw [if_neg h0] at h
  split
  · rename_i h1; rw [if_pos h1] at h; rw [fget_app h]
  rename_i h1; rw [if_neg h1] at h
  split
  · rename_i h5; rw [if_pos h5] at h; rw [fget_app h]
  rename_i h5; rw [if_neg h5] at h
  split
  · rename_i h2; rw [if_pos h2] at h
    have he : (vget a p).2.2 = 0 := by
      split at h
      · assumption
      · exact h
    have ht := vget_to he
    rw [if_pos he] at h
    rw [vget_app he, if_pos he]
    have hl : ¬ a.length - (vget a p).2.1 < (vget a p).1 := by
      intro hx; rw [if_pos hx] at h; simp at h
    rw [if_neg hl, if_neg (by first | (simp; done) | (simp; omega)), if_pos he]
    rw [List.drop_append_of_le_length ht.2.1, List.take_append_of_le_length (by first | (simp; done) | (simp; omega))]
  · rename_i h2; simp [h2] at h
theorem wnext_app {a b : List UInt8} {s : RSt} (h : (wnext a s).1 = 0) : wnext (a ++ b) s = wnext a s := by
  have he : (vget a s.at_).2.2 = 0 := by
    unfold wnext at h
    split at h
    · assumption
    · exact h
  unfold wnext at h ⊢
  rw [vget_app he]
  rw [if_pos he] at h ⊢
  split
  · rfl
  rename_i h1; rw [if_neg h1] at h
  split
  · rfl
  rename_i h2; rw [if_neg h2] at h
  split
  · rfl
  rename_i h3; rw [if_neg h3] at h
  have hv : (wval a (vget a s.at_).2.1 ((vget a s.at_).1 % 8)).err = 0 := by
    split at h
    · assumption
    · exact h
  rw [wval_app hv]
theorem vget_behind (a b : List UInt8) (p : Nat) : vget (a ++ b) ((a.length + p : Nat) : Int) = if (vget b p).2.2 = 0 then ((vget b p).1, a.length + (vget b p).2.1, 0) else (0, 0, (vget b p).2.2) := by
  unfold vget
  by_cases hp : b.length < p
  · rw [if_pos (show ((a.length + p : Nat) : Int) < 0 ∨ (((a ++ b).length : Nat) : Int) < ((a.length + p : Nat) : Int) by right; simp; omega), if_pos (show (p : Int) < 0 ∨ (b.length : Int) < (p : Int) by omega)]
    simp
  · rw [if_neg (show ¬ (((a.length + p : Nat) : Int) < 0 ∨ (((a ++ b).length : Nat) : Int) < ((a.length + p : Nat) : Int)) by simp; omega), if_neg (show ¬ ((p : Int) < 0 ∨ (b.length : Int) < (p : Int)) by omega)]
    rw [Int.toNat_natCast, Int.toNat_natCast, show (a ++ b).drop (a.length + p) = b.drop p by simp]
    split
    · rename_i h
      simp [Nat.add_assoc]
    · simp
theorem fget_behind (k : Nat) (a b : List UInt8) (p : Nat) : fget k (a ++ b) ((a.length + p : Nat) : Int) = if (fget k b p).2.2 = 0 then ((fget k b p).1, a.length + (fget k b p).2.1, 0) else (0, 0, (fget k b p).2.2) := by
  unfold fget
  by_cases hp : b.length < p
  · rw [if_pos (show ((a.length + p : Nat) : Int) < 0 ∨ (((a ++ b).length : Nat) : Int) < ((a.length + p : Nat) : Int) by right; simp; omega), if_pos (show (p : Int) < 0 ∨ (b.length : Int) < (p : Int) by omega)]
    simp
  · rw [if_neg (show ¬ (((a.length + p : Nat) : Int) < 0 ∨ (((a ++ b).length : Nat) : Int) < ((a.length + p : Nat) : Int)) by simp; omega), if_neg (show ¬ ((p : Int) < 0 ∨ (b.length : Int) < (p : Int)) by omega)]
    by_cases hk : (b.length : Int) - (p : Int) < (k : Int)
    · rw [if_pos (show (((a ++ b).length : Nat) : Int) - ((a.length + p : Nat) : Int) < (k : Int) by simp; omega), if_pos hk]
      simp
    · rw [if_neg (show ¬ (((a ++ b).length : Nat) : Int) - ((a.length + p : Nat) : Int) < (k : Int) by simp; omega), if_neg hk]
      rw [Int.toNat_natCast, Int.toNat_natCast, show (a ++ b).drop (a.length + p) = b.drop p by simp]
      simp [Nat.add_assoc]
theorem wval_e0 (l : List UInt8) (q : Nat) : wval l q 0 = ⟨(vget l q).1, emptyT, (vget l q).2.1, (vget l q).2.2⟩ := by unfold wval; rw [if_pos rfl]
theorem wval_e1 (l : List UInt8) (q : Nat) : wval l q 1 = ⟨(fget 8 l q).1, emptyT, (fget 8 l q).2.1, (fget 8 l q).2.2⟩ := by unfold wval; rw [if_neg (by omega), if_pos rfl]
theorem wval_e5 (l : List UInt8) (q : Nat) : wval l q 5 = ⟨(fget 4 l q).1, emptyT, (fget 4 l q).2.1, (fget 4 l q).2.2⟩ := by unfold wval; rw [if_neg (by omega), if_neg (by omega), if_pos rfl]
theorem wval_e2 (l : List UInt8) (q : Nat) : wval l q 2 = if (vget l q).2.2 = 0 then if l.length - (vget l q).2.1 < (vget l q).1 then ⟨0, emptyT, 0, 2⟩ else ⟨0, ⟨((l.drop (vget l q).2.1).take (vget l q).1).toArray⟩, (vget l q).2.1 + (vget l q).1, 0⟩ else ⟨0, emptyT, 0, (vget l q).2.2⟩ := by
  unfold wval; rw [if_neg (by omega), if_neg (by omega), if_neg (by omega), if_pos rfl]
theorem wval_behind (a b : List UInt8) (p k : Nat) (h : (wval b p k).err = 0) : wval (a ++ b) (a.length + p) k = ⟨(wval b p k).val, (wval b p k).text, a.length + (wval b p k).to, 0⟩ := by
  by_cases h0 : k = 0
  · subst h0
    rw [wval_e0] at h
    rw [wval_e0, wval_e0, vget_behind, if_pos h]
  by_cases h1 : k = 1
  · subst h1
    rw [wval_e1] at h
    rw [wval_e1, wval_e1, fget_behind, if_pos h]
  by_cases h5 : k = 5
  · subst h5
    rw [wval_e5] at h
    rw [wval_e5, wval_e5, fget_behind, if_pos h]
  by_cases h2 : k = 2
  · subst h2
    rw [wval_e2] at h
    have he : (vget b p).2.2 = 0 := by
      split at h
      · assumption
      · exact h
    rw [if_pos he] at h
    have hl : ¬ b.length - (vget b p).2.1 < (vget b p).1 := by
      intro hx; rw [if_pos hx] at h; simp at h
    rw [wval_e2, wval_e2, vget_behind, if_pos he, if_pos rfl, if_pos he, if_neg hl, if_neg (by simp; omega)]
    simp [Nat.add_assoc]
  · exfalso
    unfold wval at h
    rw [if_neg h0, if_neg h1, if_neg h5, if_neg h2] at h
    simp at h
theorem wnext_behind (a b : List UInt8) (l : List Fld) (s : RSt) (h : (wnext b s).1 = 0) (hf : l.length + (wnext b s).2.out.length ≤ 256) :
    wnext (a ++ b) ⟨a.length + s.at_, s.opn, l ++ s.out⟩ = (0, ⟨a.length + (wnext b s).2.at_, (wnext b s).2.opn, l ++ (wnext b s).2.out⟩) := by
  have he : (vget b s.at_).2.2 = 0 := by
    unfold wnext at h
    split at h
    · assumption
    · exact h
  unfold wnext at h hf ⊢
  simp only [vget_behind, if_pos he] at h hf ⊢
  by_cases h1 : (vget b s.at_).1 / 8 < 1 ∨ 536870912 ≤ (vget b s.at_).1 / 8
  · rw [if_pos h1] at h; simp at h
  rw [if_neg h1] at h hf ⊢
  rw [if_neg h1]
  by_cases h3 : (vget b s.at_).1 % 8 = 3
  · rw [if_pos h3] at h hf ⊢
    rw [if_pos h3]
    by_cases h8 : 8 ≤ s.opn.length
    · rw [if_pos h8] at h; simp at h
    · rw [if_neg h8, if_neg h8]
      simp
  rw [if_neg h3] at h hf ⊢
  rw [if_neg h3]
  by_cases h4 : (vget b s.at_).1 % 8 = 4
  · rw [if_pos h4] at h hf ⊢
    rw [if_pos h4]
    by_cases h8 : s.opn.getLast? = some ((vget b s.at_).1 / 8)
    · rw [if_pos h8, if_pos h8]
      simp
    · rw [if_neg h8] at h; simp at h
  rw [if_neg h4] at h hf ⊢
  rw [if_neg h4]
  have hv : (wval b (vget b s.at_).2.1 ((vget b s.at_).1 % 8)).err = 0 := by
    split at h
    · assumption
    · exact h
  rw [wval_behind _ _ _ _ hv]
  rw [if_pos hv] at h hf ⊢
  simp only [if_true]
  by_cases ho : s.opn.length = 0
  · rw [if_pos ho] at h hf ⊢
    rw [if_pos ho]
    by_cases hfl : 256 ≤ s.out.length
    · rw [if_pos hfl] at h; simp at h
    · rw [if_neg hfl] at hf ⊢
      simp only [List.length_append, List.length_singleton] at hf
      rw [if_neg (by simp; omega)]
      simp
  · rw [if_neg ho]
    rw [if_neg ho]
theorem wrun_end2 {b : List UInt8} {f : Nat} {s : RSt} (h : ¬ s.at_ < b.length) : wrun b f s = if s.opn.length = 0 then (s.out, 0) else ([], 2) := by
  cases f with
  | zero => rfl
  | succ f => rw [wrun, if_neg h]
theorem wrun_ends {s : RSt} {l : List Fld} (h : (if s.opn.length = 0 then (s.out, 0) else (([] : List Fld), 2)) = (l, 0)) : s.opn = [] ∧ s.out = l := by
  split at h
  · rename_i h0
    exact ⟨List.eq_nil_of_length_eq_zero h0, (Prod.mk.inj h).1⟩
  · have := (Prod.mk.inj h).2
    omega
theorem wrun_first (a b : List UInt8) (l : List Fld) (g : Nat) : ∀ (f : Nat) (s : RSt), wrun a f s = (l, 0) → a.length ≤ f + s.at_ → s.at_ ≤ a.length → ∃ g', g ≤ g' ∧ wrun (a ++ b) (f + g) s = wrun (a ++ b) g' ⟨a.length, [], l⟩ := by
  intro f
  induction f with
  | zero =>
    intro s h h1 h2
    rw [wrun] at h
    obtain ⟨e1, e2⟩ := wrun_ends h
    obtain ⟨p, o, u⟩ := s
    simp only at e1 e2 h1 h2
    obtain rfl : p = a.length := by omega
    subst e1 e2
    exact ⟨0 + g, by omega, rfl⟩
  | succ f ih =>
    intro s h h1 h2
    rw [wrun] at h
    by_cases hlt : s.at_ < a.length
    · rw [if_pos hlt] at h
      by_cases he : (wnext a s).1 = 0
      · rw [if_pos he] at h
        have ht := wnext_to he
        obtain ⟨g', hg, hw⟩ := ih _ h (by omega) ht.2
        refine ⟨g', hg, ?_⟩
        rw [show f + 1 + g = (f + g) + 1 by omega, wrun, if_pos (by simp; omega), wnext_app he, if_pos he, hw]
      · rw [if_neg he] at h
        have := (Prod.mk.inj h).2
        omega
    · rw [if_neg hlt] at h
      obtain ⟨e1, e2⟩ := wrun_ends h
      obtain ⟨p, o, u⟩ := s
      simp only at e1 e2 h1 h2 hlt
      obtain rfl : p = a.length := by omega
      subst e1 e2
      exact ⟨f + 1 + g, by omega, rfl⟩
theorem wnext_out {b : List UInt8} {s : RSt} : s.out.length ≤ (wnext b s).2.out.length := by
  unfold wnext
  split
  · split
    · exact Nat.le_refl _
    split
    · split <;> exact Nat.le_refl _
    split
    · split <;> exact Nat.le_refl _
    split
    · split
      · split
        · exact Nat.le_refl _
        · simp
      · exact Nat.le_refl _
    · exact Nat.le_refl _
  · exact Nat.le_refl _
theorem wrun_out (b : List UInt8) (m : List Fld) : ∀ (f : Nat) (s : RSt), wrun b f s = (m, 0) → s.out.length ≤ m.length := by
  intro f
  induction f with
  | zero =>
    intro s h
    rw [wrun] at h
    rw [(wrun_ends h).2]
    exact Nat.le_refl _
  | succ f ih =>
    intro s h
    rw [wrun] at h
    split at h
    · split at h
      · exact Nat.le_trans wnext_out (ih _ h)
      · rename_i he
        have := (Prod.mk.inj h).2
        omega
    · rw [(wrun_ends h).2]
      exact Nat.le_refl _
theorem wrun_second (a b : List UInt8) (l m : List Fld) (hm : l.length + m.length ≤ 256) : ∀ (f : Nat) (s : RSt) (g : Nat), wrun b f s = (m, 0) → b.length ≤ f + s.at_ → s.at_ ≤ b.length → f ≤ g → wrun (a ++ b) g ⟨a.length + s.at_, s.opn, l ++ s.out⟩ = (l ++ m, 0) := by
  intro f
  induction f with
  | zero =>
    intro s g h h1 h2 _
    rw [wrun] at h
    obtain ⟨e1, e2⟩ := wrun_ends h
    rw [wrun_end2 (by simp; omega), e1, e2]
    rfl
  | succ f ih =>
    intro s g h h1 h2 hg
    obtain ⟨g, rfl⟩ : ∃ k, g = k + 1 := ⟨g - 1, by omega⟩
    rw [wrun] at h
    by_cases hlt : s.at_ < b.length
    · rw [if_pos hlt] at h
      by_cases he : (wnext b s).1 = 0
      · rw [if_pos he] at h
        have ht := wnext_to he
        have hout := wrun_out b m _ _ h
        rw [wrun, if_pos (by simp; omega), wnext_behind a b l s he (by omega), if_pos rfl]
        exact ih _ _ h (by omega) ht.2 (by omega)
      · rw [if_neg he] at h
        have := (Prod.mk.inj h).2
        omega
    · rw [if_neg hlt] at h
      obtain ⟨e1, e2⟩ := wrun_ends h
      rw [wrun_end2 (by simp; omega), e1, e2]
      rfl
/-- what two messages tell, their bytes tell one behind the other -/
theorem wof_app {a b : List UInt8} {l m : List Fld} (ha : wof a = (l, 0)) (hb : wof b = (m, 0)) (hlen : a.length + b.length ≤ 4096) (hn : l.length + m.length ≤ 256) : wof (a ++ b) = (l ++ m, 0) := by
  unfold wof at ha hb ⊢
  rw [if_neg (by omega)] at ha hb
  rw [if_neg (by simp; omega), List.length_append]
  obtain ⟨g', hg, hw⟩ := wrun_first a b l b.length a.length ⟨0, [], []⟩ ha (by simp) (by simp)
  rw [hw]
  have := wrun_second a b l m hn b.length ⟨0, [], []⟩ g' hb (by simp) (by simp) hg
  simpa using this
end Go.Proofs.YtlgokfgbcohioaaDoor
