/- WHAT THE BOUND ON THE BULK GIVES: bounds on lengths. -/
import Derived.Test.YtfmamcdlnbmpeaaRows
namespace Go.Proofs.Ytfmamcdlnbmpeaa

theorem bulk_one {H : Type} (d : DataW H) : 1 ≤ Rows.uptoBulk d := by
  cases d with
  | lit l => cases l <;> simp [Rows.uptoBulk]
  | nil => simp [Rows.uptoBulk]
  | ptr d => simp [Rows.uptoBulk]
  | slice elems spare => simp [Rows.uptoBulk]
  | agg parts => simp [Rows.uptoBulk]
  | iface t d => simp [Rows.uptoBulk]
  | map entries => simp [Rows.uptoBulk]
  | held h => simp [Rows.uptoBulk]
theorem bulk_len {H : Type} (l : List (DataW H)) : l.length ≤ Rows.uptoBulkAll l := by
  induction l with
  | nil => simp [Rows.uptoBulkAll]
  | cons x r ih => have := bulk_one x; simp only [Rows.uptoBulkAll, List.length_cons]; omega
theorem bulk_part {H : Type} {d : DataW H} {l : List (DataW H)} (h : d ∈ l) : Rows.uptoBulk d ≤ Rows.uptoBulkAll l := by
  induction l with
  | nil => cases h
  | cons x r ih =>
    simp only [Rows.uptoBulkAll]
    cases List.mem_cons.1 h with
    | inl e => subst e; omega
    | inr e => have := ih e; omega
theorem bulk_all {H : Type} {l : List (DataW H)} (hk : Rows.uptoSmall H l = true) : Rows.uptoBulkAll l ≤ 1048576 := of_decide_eq_true hk
theorem bulk_at {H : Type} {l : List (DataW H)} {j : Nat} {d : DataW H} (hk : Rows.uptoSmall H l = true) (hj : l[j]? = some d) : Rows.uptoBulk d ≤ 1048576 :=
  Nat.le_trans (bulk_part (List.mem_of_getElem? hj)) (bulk_all hk)
theorem bulk_bytes {H : Type} {ds : List (DataW H)} {j : Nat} {d : DataW H} {l : List UInt8} (hk : Rows.uptoSmall H ds = true) (hj : ds[j]? = some d)
    (q : l = [] ∨ ∃ es sp, d = .slice es sp ∧ es.length = l.length) : l.length ≤ 1048576 := by
  rcases q with rfl | ⟨es, sp, rfl, e⟩
  · simp
  · have h := bulk_at hk hj
    simp only [Rows.uptoBulk] at h
    have := bulk_len es
    omega
theorem bulk_string {H : Type} {ds : List (DataW H)} {j : Nat} {s : List UInt8} (hk : Rows.uptoSmall H ds = true) (hj : ds[j]? = some (.lit (.string s))) : s.length ≤ 1048576 := by
  have h := bulk_at hk hj
  simp only [Rows.uptoBulk] at h
  omega
end Go.Proofs.Ytfmamcdlnbmpeaa
