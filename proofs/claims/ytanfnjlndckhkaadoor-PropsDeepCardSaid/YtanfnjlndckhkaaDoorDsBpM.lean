/- PLAIN LAW: a table that was put is told again. -/
import Derived.Test.YtanfnjlndckhkaaDoorK5
namespace Go.Proofs.YtanfnjlndckhkaaDoor
open Go.RowKit Plain

theorem tolist_mk (l : List UInt8) : (⟨l.toArray⟩ : ByteArray).data.toList = l := rfl
/-- a value that was put is read again -/
theorem vof_back {v : VV} {base : Int} {raw : Bool} (hn : v.n < 18446744073709551616) (h : verr v.k v.n v.s.toList.isEmpty base raw = 0) : vof base raw (vfls v.k v.n v.s base raw) = (v, 0) := by
  obtain ⟨h1, h2, h3⟩ := verr_right h
  unfold vof
  rw [if_pos ⟨h2, h3⟩]
  have := vofs_fls (k := v.k) (n := v.n) (s := v.s) hn h [] VV.zero
  rw [List.append_nil] at this
  rw [this, vofs]
  by_cases h0 : v.k = 0
  · rw [if_pos h0, ← zero_vv hn h1 h0]
  · rw [if_neg h0]
theorem wput_back {l : List Fld} (hok : ∀ f ∈ l, FldOk f) (h : (wput l).2 = 0) : wof (wput l).1 = (l, 0) := by
  obtain ⟨h1, h2, h3, h4⟩ := wput_ok h
  rw [h1]
  exact wof_wencs l h2 hok h3 h4
theorem dcell_ok {v : VV} (h : (dcell v).2 = 0) : verr v.k v.n v.s.toList.isEmpty 1 false = 0 ∧ dcell v = wput (vfls v.k v.n v.s 1 false) := by
  unfold dcell at h ⊢
  by_cases h0 : verr v.k v.n v.s.toList.isEmpty 1 false = 0
  · rw [if_pos h0]; exact ⟨h0, rfl⟩
  · rw [if_neg h0] at h; exact absurd h h0
theorem dcv_back {v : VV} (hn : v.n < 18446744073709551616) (h : (dcell v).2 = 0) : dcv (drfld v) = (v, 0) := by
  obtain ⟨h1, h2⟩ := dcell_ok h
  have h3 : wof (dcell v).1 = (vfls v.k v.n v.s 1 false, 0) := by
    rw [h2]
    rw [h2] at h
    exact wput_back (vfls_ok hn h1).2.1 h
  unfold dcv drfld
  simp only [h3]
  rw [if_pos trivial]
  exact vof_back hn h1
theorem drerr_mem {r : List VV} (h : drerr r = 0) : ∀ v ∈ r, (dcell v).2 = 0 := by
  induction r with
  | nil => intro v hv; cases hv
  | cons x l ih =>
    rw [drerr] at h
    by_cases h0 : (dcell x).2 = 0
    · rw [if_pos h0] at h
      intro v hv
      rcases List.mem_cons.1 hv with rfl | hv
      · exact h0
      · exact ih h v hv
    · rw [if_neg h0] at h; exact absurd h h0
theorem drow_ok {r : List VV} (h : (drow r).2 = 0) : drerr r = 0 ∧ drow r = wput (r.map drfld) := by
  unfold drow at h ⊢
  by_cases h0 : drerr r = 0
  · rw [if_pos h0]; exact ⟨h0, rfl⟩
  · rw [if_neg h0] at h; exact absurd h h0
theorem wall_same {num : Int} {l : List Fld} (h : ∀ f ∈ l, f.num = num) : wall num l = l := List.filter_eq_self.2 (fun f hf => by simpa using h f hf)
theorem wall_other {num : Int} {l : List Fld} (h : ∀ f ∈ l, ¬ f.num = num) : wall num l = [] := List.filter_eq_nil_iff.2 (fun f hf => by simpa using h f hf)
theorem wall_app (num : Int) (a b : List Fld) : wall num (a ++ b) = wall num a ++ wall num b := List.filter_append ..
theorem drd_back {r : List VV} (hn : ∀ v ∈ r, v.n < 18446744073709551616) (h : (drow r).2 = 0) : drd (drow r).1 r.length = (r, 0) := by
  obtain ⟨h1, h2⟩ := drow_ok h
  have h3 : wof (drow r).1 = (r.map drfld, 0) := by
    rw [h2]
    rw [h2] at h
    refine wput_back (fun f hf => ?_) h
    obtain ⟨v, _, rfl⟩ := List.mem_map.1 hf
    exact ⟨by simp [drfld], by simp [drfld], by simp [drfld]⟩
  have h4 : wall 1 (r.map drfld) = r.map drfld := wall_same (fun f hf => by obtain ⟨v, _, rfl⟩ := List.mem_map.1 hf; rfl)
  have h5 : dtexts (r.map drfld) = true := List.all_eq_true.2 (fun f hf => by obtain ⟨v, _, rfl⟩ := List.mem_map.1 hf; rfl)
  have h6 : ∀ v ∈ r, dcv (drfld v) = (v, 0) := fun v hv => dcv_back (hn v hv) (drerr_mem h1 v hv)
  have h7 : (r.map drfld).map (fun f => (dcv f).2) = r.map fun _ => 0 := by
    rw [List.map_map]
    exact List.map_congr_left fun v hv => by show (dcv (drfld v)).2 = 0; rw [h6 v hv]
  have h8 : (r.map drfld).map (fun f => (dcv f).1) = r := by
    rw [List.map_map]
    conv => rhs; rw [← List.map_id r]
    exact List.map_congr_left fun v hv => by show (dcv (drfld v)).1 = id v; rw [h6 v hv]; rfl
  have h9 : ferr (r.map fun _ => (0 : Int)) = 0 := by
    clear hn h h1 h2 h3 h4 h5 h6 h7 h8
    induction r with
    | nil => rfl
    | cons x l ih => rw [List.map_cons, ferr, if_pos rfl]; exact ih
  unfold drd
  rw [h3]
  simp only
  rw [h4, if_pos trivial, if_pos ⟨by simp, h5⟩, h7, h8, if_pos h9]
theorem derrs_mem {n : Nat} {rows : List (List VV)} (h : derrs n rows = 0) : ∀ r ∈ rows, r.length = n ∧ (drow r).2 = 0 := by
  induction rows with
  | nil => intro r hr; cases hr
  | cons x l ih =>
    rw [derrs] at h
    by_cases h0 : x.length = n
    · rw [if_pos h0] at h
      by_cases h1 : (drow x).2 = 0
      · rw [if_pos h1] at h
        intro r hr
        rcases List.mem_cons.1 hr with rfl | hr
        · exact ⟨h0, h1⟩
        · exact ih h r hr
      · rw [if_neg h1] at h; exact absurd h h1
    · rw [if_neg h0] at h; exact absurd h (by decide)
theorem ferr_zero {l : List Int} (h : ∀ x ∈ l, x = 0) : ferr l = 0 := by
  induction l with
  | nil => rfl
  | cons x l ih => rw [ferr, if_pos (h x (by simp))]; exact ih fun y hy => h y (by simp [hy])
/-- THERE AND BACK -/
theorem dof_back {cols : List ByteArray} {types : List Nat} {rows : List (List VV)} (hty : ∀ n ∈ types, n < 4294967296) (hv : ∀ r ∈ rows, ∀ v ∈ r, v.n < 18446744073709551616) (h : (dput cols types rows).2 = 0) :
    dof (dput cols types rows).1 = (⟨cols, types, rows⟩, 0) := by
  unfold dput at h ⊢
  by_cases h0 : 16 < cols.length ∨ 32 < rows.length
  · rw [if_pos h0] at h; exact absurd h (by decide)
  rw [if_neg h0] at h ⊢
  by_cases h1 : types.length = cols.length
  rotate_left
  · rw [if_neg h1] at h; exact absurd h (by decide)
  rw [if_pos h1] at h ⊢
  by_cases h2 : derrs cols.length rows = 0
  rotate_left
  · rw [if_neg h2] at h; exact absurd h h2
  rw [if_pos h2] at h ⊢
  have hback := wput_back (dput_flds (by omega) hty rows) h
  have hrows := derrs_mem h2
  have hhead : ∀ f ∈ (if cols.length = 0 then [] else [(⟨1, 0, cols.length, ⟨#[]⟩⟩ : Fld)]), f.num = 1 ∧ f.kind = 0 := by
    intro f hf
    split at hf
    · cases hf
    · obtain rfl : f = _ := by simpa using hf
      exact ⟨rfl, rfl⟩
  have hcf : ∀ f ∈ cols.map (fun s => (⟨2, 2, 0, s⟩ : Fld)), f.num = 2 ∧ f.kind = 2 := by
    intro f hf
    obtain ⟨s, _, rfl⟩ := List.mem_map.1 hf
    exact ⟨rfl, rfl⟩
  have htf : ∀ f ∈ types.map (fun n => (⟨3, 0, n, ⟨#[]⟩⟩ : Fld)), f.num = 3 ∧ f.kind = 0 ∧ f.val < 4294967296 := by
    intro f hf
    obtain ⟨s, hs, rfl⟩ := List.mem_map.1 hf
    exact ⟨rfl, rfl, hty s hs⟩
  have hrf : ∀ f ∈ rows.map drfl, f.num = 4 ∧ f.kind = 2 := by
    intro f hf
    obtain ⟨s, _, rfl⟩ := List.mem_map.1 hf
    exact ⟨rfl, rfl⟩
  unfold dof
  rw [hback]
  unfold dhead
  generalize hA : (if cols.length = 0 then [] else [(⟨1, 0, cols.length, ⟨#[]⟩⟩ : Fld)]) = Ah at *
  generalize hB : cols.map (fun s => (⟨2, 2, 0, s⟩ : Fld)) = Bh at *
  generalize hC : types.map (fun n => (⟨3, 0, n, ⟨#[]⟩⟩ : Fld)) = Ch at *
  generalize hD : rows.map drfl = Dh at *
  have w2 : wall 2 (Ah ++ Bh ++ Ch ++ Dh) = Bh := by
    rw [wall_app, wall_app, wall_app, wall_other (fun f hf => by rw [(hhead f hf).1]; decide), wall_same (fun f hf => (hcf f hf).1), wall_other (fun f hf => by rw [(htf f hf).1]; decide), wall_other (fun f hf => by rw [(hrf f hf).1]; decide)]
    simp
  have w3 : wall 3 (Ah ++ Bh ++ Ch ++ Dh) = Ch := by
    rw [wall_app, wall_app, wall_app, wall_other (fun f hf => by rw [(hhead f hf).1]; decide), wall_other (fun f hf => by rw [(hcf f hf).1]; decide), wall_same (fun f hf => (htf f hf).1), wall_other (fun f hf => by rw [(hrf f hf).1]; decide)]
    simp
  have w4 : wall 4 (Ah ++ Bh ++ Ch ++ Dh) = Dh := by
    rw [wall_app, wall_app, wall_app, wall_other (fun f hf => by rw [(hhead f hf).1]; decide), wall_other (fun f hf => by rw [(hcf f hf).1]; decide), wall_other (fun f hf => by rw [(htf f hf).1]; decide), wall_same (fun f hf => (hrf f hf).1)]
    simp
  have w1 : wall 1 (Ah ++ Bh ++ Ch ++ Dh) = Ah := by
    rw [wall_app, wall_app, wall_app, wall_same (fun f hf => (hhead f hf).1), wall_other (fun f hf => by rw [(hcf f hf).1]; decide), wall_other (fun f hf => by rw [(htf f hf).1]; decide), wall_other (fun f hf => by rw [(hrf f hf).1]; decide)]
    simp
  have lB : Bh.length = cols.length := by rw [← hB]; simp
  have lC : Ch.length = cols.length := by rw [← hC]; simp [h1]
  have lD : Dh.length = rows.length := by rw [← hD]; simp
  have hlast : (wlast 1 (Ah ++ Bh ++ Ch ++ Dh)).1.val = cols.length := by
    unfold wlast
    rw [w1, ← hA]
    by_cases hc : cols.length = 0
    · rw [if_pos hc, hc]; rfl
    · rw [if_neg hc]; rfl
  have hwr : ferr ((Ah ++ Bh ++ Ch ++ Dh).map dwrong) = 0 := by
    refine ferr_zero fun x hx => ?_
    obtain ⟨f, hf, rfl⟩ := List.mem_map.1 hx
    simp only [List.mem_append] at hf
    unfold dwrong
    rcases hf with ((hf | hf) | hf) | hf
    · obtain ⟨a, b⟩ := hhead f hf
      rw [if_pos (.inl a), if_pos b, if_neg (fun h => by rw [a] at h; exact absurd h.1 (by decide))]
    · obtain ⟨a, b⟩ := hcf f hf
      rw [if_neg (by rw [a]; decide), if_pos (.inl a), if_pos b]
    · obtain ⟨a, b, c⟩ := htf f hf
      rw [if_pos (.inr a), if_pos b, if_neg (fun h => by omega)]
    · obtain ⟨a, b⟩ := hrf f hf
      rw [if_neg (by rw [a]; decide), if_pos (.inr a), if_pos b]
  have hds : dsorted (Ah ++ Bh ++ Ch ++ Dh) = 0 := by
    unfold dsorted
    rw [if_pos hwr, w2, w3, w4, if_neg (by omega), if_pos ⟨by omega, by rw [hlast]; omega⟩]
  simp only
  rw [if_pos trivial, if_pos hds, w2, w3, w4, lB]
  have hr1 : Dh.map (fun f => (drd f.text.data.toList cols.length).2) = rows.map fun _ => 0 := by
    rw [← hD, List.map_map]
    exact List.map_congr_left fun r hr => by
      show (drd (drow r).1 cols.length).2 = 0
      rw [← (hrows r hr).1, drd_back (hv r hr) (hrows r hr).2]
  have hr2 : Dh.map (fun f => (drd f.text.data.toList cols.length).1) = rows := by
    rw [← hD, List.map_map]
    conv => rhs; rw [← List.map_id rows]
    exact List.map_congr_left fun r hr => by
      show (drd (drow r).1 cols.length).1 = r
      rw [← (hrows r hr).1, drd_back (hv r hr) (hrows r hr).2]
  rw [hr1, hr2, if_pos (ferr_zero fun x hx => by obtain ⟨_, _, rfl⟩ := List.mem_map.1 hx; rfl)]
  congr 1
  congr 1
  · rw [← hB, List.map_map]; exact (List.map_congr_left fun s _ => rfl).trans (List.map_id cols)
  · rw [← hC, List.map_map]; exact (List.map_congr_left fun s _ => rfl).trans (List.map_id types)
theorem dput_bad {cols : List ByteArray} {types : List Nat} {rows : List (List VV)} (h : ¬ (dput cols types rows).2 = 0) : (dput cols types rows).1 = [] := by
  unfold dput at h ⊢
  split
  · rfl
  · rename_i h0
    rw [if_neg h0] at h
    split
    · rename_i h1
      rw [if_pos h1] at h
      split
      · rename_i h2
        rw [if_pos h2] at h
        exact wput_bad h
      · rfl
    · rfl
end Go.Proofs.YtanfnjlndckhkaaDoor
