/- PLAIN LAW: being the same goes both ways, and is so of one and the same. -/
import Derived.Test.YtaahhommfpohhaaMtP
import Derived.Test.YtaahhommfpohhaaSlT
namespace Go.Proofs.Ytaahhommfpohhaa
open Go.RowKit

theorem dsm_refl (a : DS) : dsame a a = true := by
  unfold dsame
  rw [alleq_refl seq_refl, alleq_refl neq_refl, alleq_refl req_refl]
  rfl
theorem dsm_symm (a b : DS) : dsame a b = dsame b a := by
  unfold dsame
  rw [alleq_symm seq_symm a.cols, alleq_symm neq_symm a.types, alleq_symm req_symm a.plain]
theorem mpart_refl (a : MH) : mpart a a = true := by
  unfold mpart
  rw [alleq_refl meq_refl, Ps.same_refl, alleq_refl dsm_refl]
  rfl
theorem mpart_symm (a b : MH) : mpart a b = mpart b a := by
  unfold mpart
  rw [alleq_symm meq_symm a.metas, Ps.same_symm a.props, alleq_symm dsm_symm a.sets]
theorem tscal_refl (a : TH) : tscal a a = true := by simp [tscal, seq_refl]
theorem tscal_symm (a b : TH) : tscal a b = tscal b a := by
  unfold tscal
  rw [seq_symm a.ver, seq_symm a.ref, BEq.comm (a := a.df)]
theorem hsame_refl (s : Bool) (h : MH) (t : TH) : hsame s h h t t = true := by
  unfold hsame
  split
  · rw [mscal_refl, mpart_refl]; rfl
  · rw [tscal_refl, alleq_refl qeq_refl]; rfl
theorem hsame_symm (s : Bool) (h h' : MH) (t t' : TH) : hsame s h h' t t' = hsame s h' h t' t := by
  unfold hsame
  split
  · rw [mscal_symm h, mpart_symm h]
  · rw [tscal_symm t, alleq_symm qeq_symm t.params]
theorem Tr.same_refl : ∀ (l : Tr) (s : Bool), l.same s l = true := by
  intro l
  induction l with
  | nil => intro s; rfl
  | cons h t a c q r ih1 ih2 => intro s; rw [Tr.same, hsame_refl, ih1, ih2]; rfl
theorem Tr.same_symm : ∀ (l : Tr) (s : Bool) (m : Tr), l.same s m = m.same s l := by
  intro l
  induction l with
  | nil => intro s m; cases m <;> rfl
  | cons h t a c q r ih1 ih2 =>
    intro s m
    cases m with
    | nil => rfl
    | cons h' t' a' c' q' r' => rw [Tr.same, Tr.same, ih1, ih2, hsame_symm s h h' t t']
theorem nsame_refl (s : Bool) (p : Nd) : nsame s p p = true := by
  unfold nsame
  rw [hsame_refl, Tr.same_refl]
  rfl
theorem nsame_symm (s : Bool) (p q : Nd) : nsame s p q = nsame s q p := by
  unfold nsame
  rw [hsame_symm, Tr.same_symm]
end Go.Proofs.Ytaahhommfpohhaa
