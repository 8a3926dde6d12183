/- PLAIN LAW: fields as bytes. -/
import Derived.Test.YtaahhommfpohhaaWPut
import Derived.Test.YtaahhommfpohhaaFlds
namespace Go.Proofs.Ytaahhommfpohhaa
open Go.RowKit Plain

def werrF (f : Fld) : Int := wwrong f.num f.kind f.val f.text.toList.isEmpty
def wencF (f : Fld) : List UInt8 := wenc f.num.toNat f.kind.toNat f.val f.text.data.toList
def werrs : List Fld → Int
  | [] => 0
  | f :: l => if werrF f = 0 then werrs l else werrF f
def wencs (l : List Fld) : List UInt8 := l.flatMap wencF
/-- what wire.Put answers -/
def wput (l : List Fld) : List UInt8 × Int :=
  if werrs l = 0 then if 256 < l.length then ([], 6) else if 4096 < (wencs l).length then ([], 3) else (wencs l, 0) else ([], werrs l)

theorem werrs_mem {l : List Fld} (h : werrs l = 0) : ∀ f ∈ l, werrF f = 0 := by
  induction l with
  | nil => simp
  | cons f l ih =>
    rw [werrs] at h
    split at h
    · intro g hg
      rcases List.mem_cons.1 hg with rfl | hg
      · assumption
      · exact ih h g hg
    · omega
theorem werrF_ok {f : Fld} (h : werrF f = 0) : 1 ≤ f.num ∧ f.num < 536870912 ∧ (f.kind = 0 ∨ f.kind = 1 ∨ f.kind = 2 ∨ f.kind = 5) ∧ (f.kind = 5 → f.val < 4294967296) ∧ (f.kind = 2 → f.val = 0) ∧ (¬ f.kind = 2 → f.text.toList.isEmpty = true) := by
  unfold werrF wwrong at h
  split at h; · omega
  split at h; · omega
  split at h; · omega
  split at h; · omega
  rename_i h1 h2 h3 h4
  refine ⟨by omega, by omega, by omega, by omega, by omega, fun hk => ?_⟩
  cases he : f.text.toList.isEmpty
  · exact absurd (.inl ⟨hk, he⟩) h3
  · rfl
theorem wencs_take {l : List Fld} {j : Nat} {f : Fld} (h : l[j]? = some f) : wencs (l.take (j + 1)) = wencs (l.take j) ++ wencF f := by
  obtain ⟨h1, h2⟩ := List.getElem?_eq_some_iff.1 h
  rw [List.take_add_one, h]
  simp [wencs]
theorem wencs_len (l : List Fld) (j : Nat) : (wencs (l.take j)).length ≤ (wencs l).length := by
  have e : wencs l = wencs (l.take j) ++ wencs (l.drop j) := by unfold wencs; rw [← List.flatMap_append, List.take_append_drop]
  rw [e, List.length_append]
  omega
theorem wenc_text (num kind val : Nat) (text : List UInt8) (h : kind = 2) : text.length ≤ (wenc num kind val text).length := by
  unfold wenc; rw [if_neg (by omega), if_neg (by omega), if_neg (by omega)]; simp; omega
theorem wenc_len (num kind val : Nat) (text : List UInt8) (h : text.length ≤ 1048576) : (wenc num kind val text).length ≤ 1048600 := by
  have h1 := vsize_bd (8 * num + kind)
  have h2 := vsize_bd val
  have h3 := vsize_bd text.length
  simp only [vsize] at h1 h2 h3
  unfold wenc
  split
  · simp; omega
  split
  · simp [le_length]; omega
  split
  · simp [le_length]; omega
  · simp; omega
end Go.Proofs.Ytaahhommfpohhaa
