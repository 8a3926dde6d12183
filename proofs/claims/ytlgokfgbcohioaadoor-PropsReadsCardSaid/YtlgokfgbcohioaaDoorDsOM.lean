/- PLAIN LAW: the table of bytes. -/
import Derived.Test.YtlgokfgbcohioaaDoorDsPM
import Derived.Test.YtlgokfgbcohioaaDoorWInM
import Derived.Test.YtlgokfgbcohioaaDoorK4
import Derived.Test.YtlgokfgbcohioaaDoorK5
namespace Go.Proofs.YtlgokfgbcohioaaDoor
open Go.RowKit Plain

/-- the first error -/
def ferr : List Int → Int
  | [] => 0
  | x :: l => if x = 0 then ferr l else x
/-- why a table's field can't be -/
def dwrong (f : Fld) : Int :=
  if f.num = 1 ∨ f.num = 3 then (if f.kind = 0 then (if f.num = 3 ∧ 4294967295 < f.val then 5 else 0) else 4)
  else if f.num = 2 ∨ f.num = 4 then (if f.kind = 2 then 0 else 4) else 0
/-- a cell's value -/
def dcv (f : Fld) : VV × Int := if (wof f.text.data.toList).2 = 0 then vof 1 false (wof f.text.data.toList).1 else (VV.zero, (wof f.text.data.toList).2)
def dtexts (l : List Fld) : Bool := l.all fun f => f.kind == 2
/-- a row's values -/
def drd (s : List UInt8) (cols : Nat) : List VV × Int :=
  if (wof s).2 = 0 then
    (if (wall 1 (wof s).1).length = cols ∧ dtexts (wall 1 (wof s).1) = true then
      (if ferr ((wall 1 (wof s).1).map fun f => (dcv f).2) = 0 then ((wall 1 (wof s).1).map fun f => (dcv f).1, 0) else ([], ferr ((wall 1 (wof s).1).map fun f => (dcv f).2)))
    else ([], 4))
  else ([], (wof s).2)
structure DTab where
  cols : List ByteArray
  types : List Nat
  rows : List (List VV)
def DTab.none : DTab := ⟨[], [], []⟩
/-- what sort says of a table's fields -/
def dsorted (l : List Fld) : Int :=
  if ferr (l.map dwrong) = 0 then
    (if 16 < (wall 2 l).length ∨ 16 < (wall 3 l).length ∨ 32 < (wall 4 l).length then 6
    else if (wall 2 l).length = (wall 3 l).length ∧ (wlast 1 l).1.val = (wall 2 l).length then 0 else 4)
  else ferr (l.map dwrong)
/-- the table of bytes -/
def dof (b : List UInt8) : DTab × Int :=
  if (wof b).2 = 0 then
    (if dsorted (wof b).1 = 0 then
      (if ferr ((wall 4 (wof b).1).map fun f => (drd f.text.data.toList (wall 2 (wof b).1).length).2) = 0 then
        (⟨(wall 2 (wof b).1).map Fld.text, (wall 3 (wof b).1).map Fld.val, (wall 4 (wof b).1).map fun f => (drd f.text.data.toList (wall 2 (wof b).1).length).1⟩, 0)
      else (DTab.none, ferr ((wall 4 (wof b).1).map fun f => (drd f.text.data.toList (wall 2 (wof b).1).length).2)))
    else (DTab.none, dsorted (wof b).1))
  else (DTab.none, (wof b).2)
theorem ferr_mem {l : List Int} (h : ferr l = 0) : ∀ x ∈ l, x = 0 := by
  induction l with
  | nil => intro x hx; cases hx
  | cons y l ih =>
    rw [ferr] at h
    split at h
    · rename_i h0
      intro x hx
      rcases List.mem_cons.1 hx with rfl | hx
      · exact h0
      · exact ih h x hx
    · rename_i h0; exact absurd h h0
theorem ferr_cons {α : Type} {f : α → Int} {l : List α} {j : Nat} {a : α} (h : l[j]? = some a) : ferr ((l.drop j).map f) = if f a = 0 then ferr ((l.drop (j + 1)).map f) else f a := by
  rw [drop_cons h, List.map_cons, ferr]
theorem wall_mem {num : Int} {l : List Fld} {f : Fld} (h : f ∈ wall num l) : f ∈ l ∧ f.num = num := by
  unfold wall at h
  obtain ⟨h1, h2⟩ := List.mem_filter.1 h
  exact ⟨h1, by simpa using h2⟩
theorem wall_len (num : Int) (l : List Fld) : (wall num l).length ≤ l.length := List.length_filter_le _ _
theorem dsorted_ok {l : List Fld} (h : dsorted l = 0) : ferr (l.map dwrong) = 0 ∧ (wall 2 l).length ≤ 16 ∧ (wall 3 l).length ≤ 16 ∧ (wall 4 l).length ≤ 32 ∧ (wall 2 l).length = (wall 3 l).length ∧ (wlast 1 l).1.val = (wall 2 l).length := by
  unfold dsorted at h
  split at h
  · rename_i h0
    split at h
    · exact absurd h (by decide)
    · rename_i h1
      split at h
      · rename_i h2
        exact ⟨h0, by omega, by omega, by omega, h2.1, h2.2⟩
      · exact absurd h (by decide)
  · rename_i h0; exact absurd h h0
theorem dtype_lt {l : List Fld} (h : ferr (l.map dwrong) = 0) : ∀ f ∈ wall 3 l, f.val < 4294967296 := by
  intro f hf
  obtain ⟨h1, h2⟩ := wall_mem hf
  have := ferr_mem h _ (List.mem_map.2 ⟨f, h1, rfl⟩)
  unfold dwrong at this
  rw [if_pos (.inr h2)] at this
  split at this
  · split at this
    · exact absurd this (by decide)
    · rename_i h3
      have : ¬ 4294967295 < f.val := fun hlt => h3 ⟨h2, hlt⟩
      omega
  · exact absurd this (by decide)
theorem wrd_ok {b : List UInt8} {f : Fld} (h : f ∈ (wof b).1) : -9223372036854775808 ≤ f.num ∧ f.num ≤ 9223372036854775807 ∧ f.val < 18446744073709551616 := by
  obtain ⟨h1, h2, _, _, h5, _⟩ := wof_rd b f h
  exact ⟨by omega, by omega, h5⟩
/-- what a value is like that was read -/
def VVRd (v : VV) : Prop := 0 ≤ v.k ∧ v.k ≤ 7 ∧ v.n < 18446744073709551616 ∧ v.s.size ≤ 4096
theorem VVRd.ok {v : VV} (h : VVRd v) : VVOk v := ⟨by have := h.1; omega, by have := h.2.1; omega, h.2.2.1⟩
theorem zero_rd : VVRd VV.zero := ⟨by simp [VV.zero], by simp [VV.zero], by simp [VV.zero], by show (⟨#[]⟩ : ByteArray).size ≤ 4096; exact Nat.zero_le _⟩
theorem vofs_rd (base : Int) (raw : Bool) : ∀ (l : List Fld) (acc : VV), VVRd acc → (∀ f ∈ l, FldRd f) → VVRd (vofs base raw l acc).1 := by
  intro l
  induction l with
  | nil => intro acc h _; exact h
  | cons f l ih =>
    intro acc h hl
    rw [vofs]
    obtain ⟨_, _, _, _, hf, ht⟩ := hl f (by simp)
    have hl2 : ∀ g ∈ l, FldRd g := fun g hg => hl g (by simp [hg])
    have hk : 0 ≤ vkof f.num base raw ∧ vkof f.num base raw ≤ 7 := by unfold vkof; split <;> omega
    split
    · exact ih acc h hl2
    split
    · exact zero_rd
    split
    · exact zero_rd
    · exact ih _ ⟨hk.1, hk.2, hf, ht⟩ hl2
theorem vof_rd (base : Int) (raw : Bool) (l : List Fld) (h : ∀ f ∈ l, FldRd f) : VVRd (vof base raw l).1 := by
  unfold vof
  split
  · exact vofs_rd base raw l _ zero_rd h
  · exact zero_rd
theorem dcv_rd (f : Fld) : VVRd (dcv f).1 := by
  unfold dcv
  split
  · exact vof_rd _ _ _ (wof_rd _)
  · exact zero_rd
theorem drd_rd (s : List UInt8) (cols : Nat) : ∀ v ∈ (drd s cols).1, VVRd v := by
  unfold drd
  split
  · split
    · split
      · intro v hv
        obtain ⟨f, _, rfl⟩ := List.mem_map.1 hv
        exact dcv_rd f
      · simp
    · simp
  · simp
theorem drd_len (s : List UInt8) (cols : Nat) (h : (drd s cols).2 = 0) : (drd s cols).1.length = cols := by
  unfold drd at h ⊢
  split at h
  · rename_i h0
    split at h
    · rename_i h1
      split at h
      · rename_i h2
        rw [if_pos h0, if_pos h1, if_pos h2]
        simpa using h1.1
      · rename_i h2; exact absurd h h2
    · exact absurd h (by decide)
  · rename_i h0
    have h2 : ((wof s).2 : Int) = 0 := h
    exact absurd (by omega) h0
end Go.Proofs.YtlgokfgbcohioaaDoor
