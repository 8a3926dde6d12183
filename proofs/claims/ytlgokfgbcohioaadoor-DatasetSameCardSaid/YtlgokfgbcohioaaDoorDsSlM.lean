/- LAW WALK: DatasetSame -/
import Derived.Test.YtlgokfgbcohioaaDoorDsSrM
import Derived.Test.YtlgokfgbcohioaaDoorK1
namespace Go.Proofs.YtlgokfgbcohioaaDoor
open Go.RowKit Plain

theorem ever {W : World} {a : Addr} {v : Value} (h : W.cell? a = some v) : ∀ u, Below W.drew.heap.size W.drew u → u.cell? a = some v := fun _ hu => (hu.cell (World.block_lt_of_cell? W _ h)).trans h
theorem size_set (w : World) (a : Addr) (v : Value) : (w.setCell a v).heap.size = w.heap.size := by simp
theorem elemV : Elem Tryd.prog 45 42 (.agg #[.int .i64 0, .int .u64 0, .string ⟨#[]⟩]) 3 32 :=
  ⟨Tryd.underlying45, info_parts (show (Tryd.prog.info? 42).map (fun i => (i.zero, i.size, i.bytes)) = some (some (.agg #[.int .i64 0, .int .u64 0, .string ⟨#[]⟩]), 3, 32) by kernel_rfl), rfl, by omega⟩
theorem elemR : Elem Tryd.prog 24 45 (.slice none 0 0) 1 24 :=
  ⟨Tryd.underlying24, info_parts (show (Tryd.prog.info? 45).map (fun i => (i.zero, i.size, i.bytes)) = some (some (.slice none 0 0), 1, 24) by kernel_rfl), rfl, by omega⟩
theorem val_one (L : List VV) : ∀ u ∈ vvl L, u.oneCell' = true := by
  intro u hu
  obtain ⟨f, _, hf⟩ := List.mem_flatMap.1 hu
  simp [VV.cells] at hf
  rcases hf with rfl | rfl | rfl <;> rfl
theorem own_apart {w w' : World} {b1 b2 : Nat} {e1 e2 : TypeId} {s1 s2 n1 n2 : Nat} {v1 v2 : Value} {xs1 xs2 : List Value} (h1 : w.ownsRow b1 e1 s1 v1 n1 xs1) (h2 : w.ownsRow b2 e2 s2 v2 n2 xs2) (hne : e1 ≠ e2) (hg : w.grownBy w' v2.ownBlock) : w'.ownsRow b1 e1 s1 v1 n1 xs1 := by
  refine ⟨h1.1, ?_⟩
  rcases h1.2 with h | ⟨g, cap, cur, hv, hgb, hh, r⟩
  · exact .inl h
  · have hlt := (Array.getElem?_eq_some_iff.1 hh).1
    refine .inr ⟨g, cap, cur, hv, hgb, ?_, r⟩
    rw [hg.block g hlt ?_]
    · exact hh
    · intro e
      rcases h2.2 with ⟨hv2, _⟩ | ⟨g2, cap2, cur2, hv2, _, hh2, _⟩
      · rw [hv2] at e; simp [Value.ownBlock] at e
      · rw [hv2] at e
        simp [Value.ownBlock] at e
        subst e
        rw [hh] at hh2
        simp at hh2
        exact hne hh2.2
/-- the value with a text one longer -/
def vmore (v : VV) : VV := ⟨v.k, v.n, v.s ++ ⟨#[120]⟩⟩
def rmore (cc : Nat) (r : List VV) : List VV := r.modify cc vmore
theorem veq_more (v : VV) : veq v (vmore v) = false := by
  have h : (v.s.toList == (v.s ++ ⟨#[120]⟩ : ByteArray).toList) = false := by
    rw [beq_eq_false_iff_ne]
    intro h
    have := congrArg List.length h
    simp only [ByteArray.toList_eq] at this
    simp at this
  unfold veq seq vmore
  simp only [h, Bool.and_false]
theorem alleq_modify {α : Type} {f : α → α → Bool} {g : α → α} : ∀ (l : List α) (i : Nat) (a : α), l[i]? = some a → f a (g a) = false → alleq f l (l.modify i g) = false := by
  intro l
  induction l with
  | nil => intro i a h; simp at h
  | cons x l ih =>
    intro i a h hf
    cases i with
    | zero =>
      obtain rfl : x = a := by simpa using h
      rw [List.modify_zero_cons, alleq, hf, Bool.false_and]
    | succ i => rw [List.modify_succ_cons, alleq, ih i a (by simpa using h) hf, Bool.and_false]
theorem req_more {rows : List RowH} {rr cc : Nat} {adr : Option Addr} {cap : Nat} {vals : List VV} (h : rows[rr]? = some ⟨adr, cap, vals⟩) (hc : cc < vals.length) : alleq req (rows.map RowH.vals) ((rows.map RowH.vals).modify rr (rmore cc)) = false := by
  refine alleq_modify _ rr vals (by rw [List.getElem?_map, h]; rfl) ?_
  unfold req rmore
  exact alleq_modify _ cc vals[cc] (List.getElem?_eq_getElem hc) (veq_more _)
theorem mem_modify {α : Type} {g : α → α} {b : α} : ∀ {l : List α} {i : Nat}, b ∈ l.modify i g → b ∈ l ∨ ∃ a ∈ l, b = g a := by
  intro l
  induction l with
  | nil => intro i h; simp at h
  | cons x l ih =>
    intro i h
    cases i with
    | zero =>
      rw [List.modify_zero_cons] at h
      rcases List.mem_cons.1 h with rfl | h
      · exact .inr ⟨x, by simp, rfl⟩
      · exact .inl (by simp [h])
    | succ i =>
      rw [List.modify_succ_cons] at h
      rcases List.mem_cons.1 h with rfl | h
      · exact .inl (by simp)
      · rcases ih h with h | ⟨a, h1, h2⟩
        · exact .inl (by simp [h])
        · exact .inr ⟨a, by simp [h1], h2⟩
theorem rows_ok {rows : List RowH} {rr cc : Nat} (h : ∀ r ∈ rows, ∀ v ∈ r.vals, VVOk v) : ∀ x ∈ (rows.map RowH.vals).modify rr (rmore cc), ∀ v ∈ x, VVOk v := by
  have h0 : ∀ x ∈ rows.map RowH.vals, ∀ v ∈ x, VVOk v := by
    intro x hx
    obtain ⟨r, hr, rfl⟩ := List.mem_map.1 hx
    exact h r hr
  intro x hx v hv
  rcases mem_modify hx with hx | ⟨y, hy, rfl⟩
  · exact h0 x hx v hv
  · rcases mem_modify hv with hv | ⟨u, hu, rfl⟩
    · exact h0 y hy v hv
    · exact h0 y hy u hu
theorem own_spot {w : World} {base n c cc : Nat} {A : Option Addr} {vals : List VV} {v : VV} (h : w.ownsRow base 42 3 (.slice A n c) n (vvl vals)) (hv : vals[cc]? = some v) :
    ∃ g, A = some ⟨g, 0, none⟩ ∧ base ≤ g ∧ g < w.heap.size ∧ w.cell? ⟨g, cc * 3, none⟩ = some (.int .i64 v.k) ∧ w.cell? ⟨g, cc * 3 + 1, none⟩ = some (.int .u64 v.n) ∧ w.cell? ⟨g, cc * 3 + 2, none⟩ = some (.string v.s) ∧ w.frozen? ⟨g, cc * 3 + 2, none⟩ = false := by
  obtain ⟨b, o, hA, hb, h0, h1, h2⟩ := val_at (Rd.of_own h) hv
  rcases h.2 with ⟨hn, _⟩ | ⟨g, cap, cur, hv2, hg, hh, _⟩
  · injection hn with hn _ _
    rw [hn] at hA; cases hA
  · injection hv2 with hv3 _ _
    rw [hv3] at hA
    obtain ⟨rfl, rfl⟩ : g = b ∧ 0 = o := by simpa using hA
    rw [Nat.zero_add] at h0 h1 h2
    exact ⟨g, hv3, hg, hb, h0, h1, h2, by simp [World.frozen?, hh]⟩
theorem vvl_more : ∀ {vals : List VV} {cc : Nat} {v : VV}, vals[cc]? = some v → (vvl vals).set (cc * 3 + 2) (.string (v.s ++ ⟨#[120]⟩)) = vvl (rmore cc vals) := by
  intro vals
  induction vals with
  | nil => intro cc v h; simp at h
  | cons x l ih =>
    intro cc v h
    cases cc with
    | zero =>
      obtain rfl : x = v := by simpa using h
      rfl
    | succ cc =>
      have h2 := ih (cc := cc) (v := v) (by simpa using h)
      show (x.cells.toList ++ vvl l).set ((cc + 1) * 3 + 2) _ = x.cells.toList ++ vvl (rmore cc l)
      rw [List.set_append_right _ _ (by simp [VV.cells]; omega), ← h2]
      congr 2
      simp [VV.cells]; omega
theorem dsame_symm (a b : DS) : dsame a b = dsame b a := by
  unfold dsame
  rw [alleq_symm seq_symm, alleq_symm neq_symm, alleq_symm req_symm]
theorem dsame_refl (a : DS) : dsame a a = true := by
  unfold dsame
  rw [alleq_refl seq_refl, alleq_refl neq_refl, alleq_refl req_refl]
  rfl
theorem rmore_len (cc : Nat) (r : List VV) : (rmore cc r).length = r.length := List.length_modify ..
/-- a row that lay there before lies elsewhere than a block that is new -/
theorem own_fresh {w : World} {base : Nat} {e : TypeId} {size n : Nat} {v : Value} {xs : List Value} {g : Nat} (h : w.ownsRow base e size v n xs) (hg : w.heap.size ≤ g) : v.ownBlock ≠ some g := by
  rcases h.2 with ⟨hv, _⟩ | ⟨g2, cap, cur, hv, _, hh, _⟩
  · rw [hv]; simp [Value.ownBlock]
  · rw [hv]
    have hlt := (Array.getElem?_eq_some_iff.1 hh).1
    simp [Value.ownBlock]
    omega
theorem own_not {w w' : World} {base : Nat} {e : TypeId} {size n : Nat} {v : Value} {xs : List Value} {g : Nat} (h : w.ownsRow base e size v n xs) (hgr : w.grownBy w' (some g)) (hne : v.ownBlock ≠ some g) : w'.ownsRow base e size v n xs := by
  refine ⟨h.1, ?_⟩
  rcases h.2 with h2 | ⟨g3, cap, cur, hv, hgb, hh, r⟩
  · exact .inl h2
  · have hlt := (Array.getElem?_eq_some_iff.1 hh).1
    refine .inr ⟨g3, cap, cur, hv, hgb, ?_, r⟩
    rw [hgr.block g3 hlt ?_]
    · exact hh
    · intro e
      rw [hv] at hne
      exact hne (by simpa [Value.ownBlock] using e)
theorem own_grown' {B : Nat} {w w' : World} {g : Nat} (hg : w.grownBy w' (some g)) (hgb : B ≤ g) (hB : B ≤ w.heap.size) : Below B w w' :=
  (Below.refl B w).grown hg hB (fun _ hk => Option.some.inj hk ▸ hgb)
set_option maxRecDepth 100000 in
set_option maxHeartbeats 4000000 in
theorem dsames_any (a b : DS) (row col : Nat) (hrow : row < 256) (hcol : col < 256) (ha : DSOk a) (hb : DSOk b) (w : World) (h1 : a.At w w.heap.size) (h2 : b.At w w.heap.size) (hsz : a.rows.length * 24 ≤ 140737488355328 ∧ ∀ r ∈ a.rows, r.vals.length * 32 ≤ 140737488355328 ∧ ∀ v ∈ r.vals, v.s.size ≤ 140737488355328) (hK : Kinds w) :
    Calls Tryd.prog 7 #[a.agg, b.agg, .int .u8 row, .int .u8 col] w fun e w' => e = .returned (.bool true) ∧ Below w.heap.size w w' := by
  have s1 := fun W (hB : Below w.heap.size w W) => dsame_any a b ha hb W ((h1.below hB (Nat.le_refl _)).more hB.size) ((h2.below hB (Nat.le_refl _)).more hB.size)
  have s2 := fun W (hB : Below w.heap.size w W) => rdsame_any a b ha hb W ((h1.below hB (Nat.le_refl _)).more hB.size) ((h2.below hB (Nat.le_refl _)).more hB.size)
  have s3 := fun W (hB : Below w.heap.size w W) => dsame_any b a hb ha W ((h2.below hB (Nat.le_refl _)).more hB.size) ((h1.below hB (Nat.le_refl _)).more hB.size)
  have s4 := fun W (hB : Below w.heap.size w W) => dsame_any a a ha ha W ((h1.below hB (Nat.le_refl _)).more hB.size) ((h1.below hB (Nat.le_refl _)).more hB.size)
  rw [dsame_symm b a] at s3
  rw [dsame_refl] at s4
  generalize dsame a b = t at *
  obtain ⟨A1, c1, cols, A2, c2, types, A3, c3, rows⟩ := a
  obtain ⟨B1, d1, cols', B2, d2, types', B3, d3, rows'⟩ := b
  unfold DS.agg at s1 s2 s3 s4 ⊢
  simp only at s1 s2 s3 s4 ⊢
  obtain ⟨n1, hn1⟩ : ∃ n, cols.length = n := ⟨_, rfl⟩
  obtain ⟨n2, hn2⟩ : ∃ n, types.length = n := ⟨_, rfl⟩
  rw [hn1, hn2] at s1 s2 s3 s4 ⊢
  have HN1 := Lib.hid hn1
  have HN2 := Lib.hid hn2
  clear hn1 hn2
  generalize cols'.length = m1 at *
  generalize types'.length = m2 at *
  generalize rows'.length = m3 at *
  obtain ⟨n3, hn3⟩ : ∃ n, rows.length = n := ⟨_, rfl⟩
  rw [hn3] at s1 s2 s3 s4 ⊢
  simp only at hsz
  rw [hn3] at hsz
  have HSZ := Lib.hid hsz
  have HN3 := Lib.hid hn3
  have H1 := Lib.hid h1
  have HA := Lib.hid ha
  have HK := Lib.hid hK
  clear hn3 h1 h2 ha hb hK hsz
  go_enter Tryd.func7, Tryd.ntmps7
  have hE0 : Below w.heap.size w ((w.alloc (Obj.cells #[.slice A1 n1 c1, .slice A2 n2 c2, .slice A3 n3 c3] 26)).alloc (Obj.cells #[.slice B1 m1 d1, .slice B2 m2 d2, .slice B3 m3 d3] 26)) := ((Below.refl _ w).alloc (Nat.le_refl _) _).alloc (by simp) _
  have hDa : BoxD ((w.alloc (Obj.cells #[.slice A1 n1 c1, .slice A2 n2 c2, .slice A3 n3 c3] 26)).alloc (Obj.cells #[.slice B1 m1 d1, .slice B2 m2 d2, .slice B3 m3 d3] 26)) w.heap.size (.slice A1 n1 c1) (.slice A2 n2 c2) (.slice A3 n3 c3) :=
    (Below.heap_alloc _ _ _ (by simp)).trans (World.alloc_heap_new w _)
  have hDb : BoxD ((w.alloc (Obj.cells #[.slice A1 n1 c1, .slice A2 n2 c2, .slice A3 n3 c3] 26)).alloc (Obj.cells #[.slice B1 m1 d1, .slice B2 m2 d2, .slice B3 m3 d3] 26)) (w.heap.size + 1) (.slice B1 m1 d1) (.slice B2 m2 d2) (.slice B3 m3 d3) := by
    have := World.alloc_heap_new (w.alloc (Obj.cells #[.slice A1 n1 c1, .slice A2 n2 c2, .slice A3 n3 c3] 26)) (Obj.cells #[.slice B1 m1 d1, .slice B2 m2 d2, .slice B3 m3 d3] 26)
    rw [World.size_alloc] at this
    exact this
  go_wp2_with fail
  obtain ⟨a0, a1, a2⟩ := hDa.cells
  obtain ⟨b0, b1, b2⟩ := hDb.cells
  have fa0 := ever a0
  have fa1 := ever a1
  have fa2 := ever a2
  have fb0 := ever b0
  have fb1 := ever b1
  have fb2 := ever b2
  have hWd := hE0.drew
  have hDx : BoxD ((w.alloc (Obj.cells #[.slice A1 n1 c1, .slice A2 n2 c2, .slice A3 n3 c3] 26)).alloc (Obj.cells #[.slice B1 m1 d1, .slice B2 m2 d2, .slice B3 m3 d3] 26)).drew w.heap.size (.slice A1 n1 c1) (.slice A2 n2 c2) (.slice A3 n3 c3) := hDa
  clear a0 a1 a2 b0 b1 b2 hDa hDb hE0
  refine wp_region_L 22 [0, 1, 3, 4, 2, 5, 6, 7, 8, 9, 11, 12, 10, 13, 14, 15, 16, 17, 18, 19, 20, 21] rfl (by decide) (by decide) (by kernel_rfl) ?_
  generalize ((w.alloc (Obj.cells #[.slice A1 n1 c1, .slice A2 n2 c2, .slice A3 n3 c3] 26)).alloc (Obj.cells #[.slice B1 m1 d1, .slice B2 m2 d2, .slice B3 m3 d3] 26)).drew = W2 at *
  simp only [List.filterMap_cons, List.filterMap_nil, List.getElem?_cons_zero, List.getElem?_cons_succ, Option.map_some]
  repeat (first
    | (refine wpL_take (v := ?_) (by kernel_rfl) (by kernel_rfl) (by kernel_rfl) (fun _ _ _ h => h) (by rfl) (fun u hu => ?_) ?_
       rotate_left
       focus
         unfold Grows at hu
         go_simp
         try with_reducible rfl
       simp only [Act.put, List.setIfInBounds_toArray, List.set_cons_zero, List.set_cons_succ])
    | (refine wpL_pass (by kernel_rfl) (by kernel_rfl) (by kernel_rfl) (fun _ _ _ h => h) (by rfl) ?_; simp only [Act.put, List.setIfInBounds_toArray, List.set_cons_zero, List.set_cons_succ])
    | (refine wpL_do (by kernel_rfl) (by rfl) (fun K hK => ?_); go_simp; go_at_call 27; refine (s2 _ hWd).mono ?_; rintro e w6 ⟨rfl, hB6⟩; replace hWd := bel_step hWd hB6; replace hDx := hDx.below hB6; replace fa0 := fun u (hu : Below w6.heap.size w6 u) => fa0 u (bel_step hB6 hu); replace fa1 := fun u (hu : Below w6.heap.size w6 u) => fa1 u (bel_step hB6 hu); replace fa2 := fun u (hu : Below w6.heap.size w6 u) => fa2 u (bel_step hB6 hu); replace fb0 := fun u (hu : Below w6.heap.size w6 u) => fb0 u (bel_step hB6 hu); replace fb1 := fun u (hu : Below w6.heap.size w6 u) => fb1 u (bel_step hB6 hu); replace fb2 := fun u (hu : Below w6.heap.size w6 u) => fb2 u (bel_step hB6 hu); refine hK _ _ hB6 ?_; clear hK K hB6)
    | (refine wpL_do (by kernel_rfl) (by rfl) (fun K hK => ?_); go_simp; go_at_call 26; (with_reducible refine (s1 _ hWd).mono ?_); rintro e w6 ⟨rfl, hB6⟩; replace hWd := bel_step hWd hB6; replace hDx := hDx.below hB6; replace fa0 := fun u (hu : Below w6.heap.size w6 u) => fa0 u (bel_step hB6 hu); replace fa1 := fun u (hu : Below w6.heap.size w6 u) => fa1 u (bel_step hB6 hu); replace fa2 := fun u (hu : Below w6.heap.size w6 u) => fa2 u (bel_step hB6 hu); replace fb0 := fun u (hu : Below w6.heap.size w6 u) => fb0 u (bel_step hB6 hu); replace fb1 := fun u (hu : Below w6.heap.size w6 u) => fb1 u (bel_step hB6 hu); replace fb2 := fun u (hu : Below w6.heap.size w6 u) => fb2 u (bel_step hB6 hu); refine hK _ _ hB6 ?_; clear hK K hB6)
    | (refine wpL_do (by kernel_rfl) (by rfl) (fun K hK => ?_); go_simp; go_at_call 26; (with_reducible refine (s3 _ hWd).mono ?_); rintro e w6 ⟨rfl, hB6⟩; replace hWd := bel_step hWd hB6; replace hDx := hDx.below hB6; replace fa0 := fun u (hu : Below w6.heap.size w6 u) => fa0 u (bel_step hB6 hu); replace fa1 := fun u (hu : Below w6.heap.size w6 u) => fa1 u (bel_step hB6 hu); replace fa2 := fun u (hu : Below w6.heap.size w6 u) => fa2 u (bel_step hB6 hu); replace fb0 := fun u (hu : Below w6.heap.size w6 u) => fb0 u (bel_step hB6 hu); replace fb1 := fun u (hu : Below w6.heap.size w6 u) => fb1 u (bel_step hB6 hu); replace fb2 := fun u (hu : Below w6.heap.size w6 u) => fb2 u (bel_step hB6 hu); refine hK _ _ hB6 ?_; clear hK K hB6)
    | (refine wpL_do (by kernel_rfl) (by rfl) (fun K hK => ?_); go_simp; go_at_call 26; (with_reducible refine (s4 _ hWd).mono ?_); rintro e w6 ⟨rfl, hB6⟩; replace hWd := bel_step hWd hB6; replace hDx := hDx.below hB6; replace fa0 := fun u (hu : Below w6.heap.size w6 u) => fa0 u (bel_step hB6 hu); replace fa1 := fun u (hu : Below w6.heap.size w6 u) => fa1 u (bel_step hB6 hu); replace fa2 := fun u (hu : Below w6.heap.size w6 u) => fa2 u (bel_step hB6 hu); replace fb0 := fun u (hu : Below w6.heap.size w6 u) => fb0 u (bel_step hB6 hu); replace fb1 := fun u (hu : Below w6.heap.size w6 u) => fb1 u (bel_step hB6 hu); replace fb2 := fun u (hu : Below w6.heap.size w6 u) => fb2 u (bel_step hB6 hu); refine hK _ _ hB6 ?_; clear hK K hB6))
  refine wpL_done (by kernel_rfl) ?_
  obtain ⟨x0, x1, x2⟩ := hDx.cells
  clear fa0 fa1 fa2 fb0 fb1 fb2 s2 s3 s4
  by_cases hn0 : n3 = 0
  · subst hn0
    clear s1
    go_wp2_with fail
    refine (awake8_any _ (HK.out.below hWd HK.out.pos)).mono ?_
    rintro e w7 ⟨rfl, hB7⟩
    go_wp2_with fail
    go_ret
    exact ⟨rfl, bel_step hWd hB7⟩
  have hb3 := HA.out.l3
  simp only at hb3
  rw [HN3.out] at hb3
  have hn0b : ((n3 : Int) == 0) = false := by simp; omega
  obtain ⟨rr, hrr⟩ : ∃ rr, row % n3 = rr := ⟨_, rfl⟩
  have hrri : (row : Int) % (n3 : Int) = (rr : Int) := by omega
  have hrlt : rr < n3 := by rw [← hrr]; exact Nat.mod_lt _ (by omega)
  have hn0p : 0 < n3 := by omega
  clear hrr
  obtain ⟨r, hr⟩ : ∃ r, rows[rr]? = some r := ⟨_, List.getElem?_eq_getElem (by rw [HN3.out]; exact hrlt)⟩
  have hr3 := H1.out.r3
  simp only at hr3
  obtain ⟨u1, o1, rfl, hu1, g0⟩ := one_at hr3 hr
  have HG := Lib.hid g0
  have HRR := Lib.hid hr
  replace g0 := (hWd.cell (p := ⟨u1, o1 + rr, none⟩) hu1).trans g0
  clear hr hr3
  obtain ⟨adr, cap, vals⟩ := r
  simp only at g0
  obtain ⟨L, hL⟩ : ∃ L, vals.length = L := ⟨_, rfl⟩
  rw [hL] at g0
  have HL := Lib.hid hL
  clear hL
  by_cases hL0 : L = 0
  · subst hL0
    clear s1
    go_wp2_with fail
    refine (awake8_any _ (HK.out.below hWd HK.out.pos)).mono ?_
    rintro e w7 ⟨rfl, hB7⟩
    go_wp2_with fail
    go_ret
    exact ⟨rfl, bel_step hWd hB7⟩
  have hL0b : ((L : Int) == 0) = false := by simp; omega
  have hL0p : 0 < L := by omega
  have hlL : L ≤ 9223372036854775807 := by
    have := HA.out.ls ⟨adr, cap, vals⟩ (List.mem_of_getElem? HRR.out)
    simp only at this
    rw [HL.out] at this
    exact this
  obtain ⟨cc, hcc⟩ : ∃ cc, col % L = cc := ⟨_, rfl⟩
  have hcci : (col : Int) % (L : Int) = (cc : Int) := by omega
  have hclt : cc < L := by rw [← hcc]; exact Nat.mod_lt _ (by omega)
  clear hcc hn0 hL0
  go_wp2_with fail
  have hEr := World.ownsRow_nil w6 w6.heap.size 45 1
  go_loopw [11, 12] (fun o i wr => ∃ (j : Nat) (A : Option Addr) (c : Nat) (new : List RowH), i = .int .i64 j ∧ o = .slice A j c ∧ j ≤ n3 ∧ wr.ownsRow w6.heap.size 45 1 (.slice A j c) j (rcl new) ∧
    (∀ x ∈ new, wr.ownsRow w6.heap.size 42 3 (.slice x.adr x.vals.length x.cap) x.vals.length (vvl x.vals)) ∧ new.map RowH.vals = ((rows.map RowH.vals).modify rr (rmore cc)).take j ∧ Below w6.heap.size w6 wr) (fun _ i _ => n3 - (intOf i).toNat)
  case atStart => exact ⟨0, none, 0, [], rfl, rfl, Nat.zero_le _, hEr, by simp, by simp, Below.refl _ _⟩
  case round =>
    obtain ⟨j, A, c, new, rfl, rfl, hj, hown, hrows, hnew, hB⟩ := hrel
    have hs := hB.size
    have HNEW := Lib.hid hnew
    have HROWS := Lib.hid hrows
    have hn3b : n3 ≤ 5864062014805 := by have := HSZ.out.1; omega
    clear hnew hrows x0 x1 x2 hEr
    obtain ⟨x0, x1, x2⟩ := (hDx.below hB).cells
    have hltb := (hDx.below hB).lt
    have hu1r : u1 < wr.heap.size := Nat.lt_of_lt_of_le hu1 (Nat.le_trans hWd.size hs)
    by_cases hlt : j < n3
    · obtain ⟨y, hy⟩ : ∃ y, rows[j]? = some y := ⟨_, List.getElem?_eq_getElem (by rw [HN3.out]; exact hlt)⟩
      obtain ⟨v1, p1, hadr, hv1, f0⟩ := one_at H1.out.r3 hy
      obtain ⟨rfl, rfl⟩ : u1 = v1 ∧ o1 = p1 := by simpa using hadr
      replace f0 := (hB.cell (p := ⟨u1, o1 + j, none⟩) (Nat.lt_of_lt_of_le hu1 hWd.size)).trans ((hWd.cell (p := ⟨u1, o1 + j, none⟩) hu1).trans f0)
      have hyr := ((H1.out.rs y (List.mem_of_getElem? hy)).below hWd (Nat.le_refl _)).below hB hWd.size
      have hyb := (HSZ.out.2 y (List.mem_of_getElem? hy)).1
      have HYS := Lib.hid (HSZ.out.2 y (List.mem_of_getElem? hy)).2
      obtain ⟨ya, yc, yv⟩ := y
      simp only at f0 hyr hyb HYS
      obtain ⟨yl, hyl⟩ : ∃ k, yv.length = k := ⟨_, rfl⟩
      rw [hyl] at f0 hyb
      have HY := Lib.hid hyl
      have HYY := Lib.hid hy
      clear hy hyl hadr g0
      have hE : (wr.alloc (.cells #[] 42)).ownsRow wr.heap.size 42 3 (.slice (some ⟨wr.heap.size, 0, none⟩) 0 0) 0 [] := own_empty wr _ (Nat.le_refl _)
      have hE0 : Below wr.heap.size wr (wr.alloc (.cells #[] 42)) := (Below.refl _ wr).alloc (Nat.le_refl _) _
      have hyr2 := hyr.alloc (Nat.le_trans hWd.size hs) (.cells #[] 42)
      have HJ := Lib.hid hlt
      by_cases hjr : j = rr
      · have hjb : ((j : Int) == (rr : Int)) = true := by simp [hjr]
        subst hjr
        have hyv : (⟨ya, yc, yv⟩ : RowH) = ⟨adr, cap, vals⟩ := Option.some.inj (HYY.out.symm.trans HRR.out)
        obtain ⟨rfl, rfl, rfl⟩ : ya = adr ∧ yc = cap ∧ yv = vals := by simpa using hyv
        have hyL : yl = L := by rw [← HY.out, HL.out]
        subst hyL
        obtain ⟨v, hvv⟩ : ∃ v, yv[cc]? = some v := ⟨_, List.getElem?_eq_getElem (by rw [HL.out]; exact hclt)⟩
        have HT : Hid (((rows.map RowH.vals).modify j (rmore cc)).take (j + 1) = ((rows.map RowH.vals).modify j (rmore cc)).take j ++ [rmore cc yv]) := Lib.hid (by
          have e : ((rows.map RowH.vals).modify j (rmore cc))[j]? = some (rmore cc yv) := by
            rw [List.getElem?_modify, List.getElem?_map, HYY.out]; simp
          rw [List.take_add_one, e]; rfl)
        have HVM := Lib.hid (vvl_more hvv)
        have hvs := HYS.out v (List.mem_of_getElem? hvv)
        obtain ⟨vk, vn, vs⟩ := v
        simp only at hvs
        have hvs2 : vs.size + 1 ≤ 9223372036854775807 := by omega
        clear hyv
        go_wp2_with (at_builtin; first
          | (refine wpList_app rfl _ _ _ rfl elemV rfl hE rfl hyr2 (by rw [vvl_len, HY.out]; omega) (val_one yv) (by unfold maxLen; omega) (by omega) (by simp) ?_; intro A5 c5 w5 ho5 hg5 _; have hB5 := own_grown hE0 hE (by simp) hg5; rw [Nat.zero_add, List.nil_append] at ho5; have hown5 := own_kept hown hB5 (Nat.le_refl _); have hs5 := Nat.le_trans hs hB5.size; obtain ⟨g, rfl, hgb, hgl, z0, z1, z2, z3⟩ := own_spot ho5 hvv; have hcy : (cc : Int) < (yl : Int) := Int.ofNat_lt.2 hclt; clear hE hE0 hyr2 hg5)
          | ((have hst := ho5.stored (cc * 3 + 2) (.string (vs ++ ⟨#[120]⟩)); rw [HVM.out] at hst; have hown6 := own_apart hown5 ho5 (by decide) hst.2; have hs6 : w6.heap.size ≤ (w5.setCell ⟨g, cc * 3 + 2, none⟩ (.string (vs ++ ⟨#[120]⟩))).heap.size := (size_set _ _ _).symm ▸ hs5; have hz6 : (w5.setCell ⟨g, cc * 3 + 2, none⟩ (.string (vs ++ ⟨#[120]⟩))).heap.size = w5.heap.size := size_set _ _ _); (refine wpList_app1 (c2 := 1) rfl _ _ _ rfl elemR rfl hown6 (by rw [hz6]; rfl) rfl (by intro u hu; simp at hu; subst hu; rfl) (by unfold maxLen; omega) (by omega) hs6 ?_; intro A7 c7 w7 ho7 hg7 _)))
        go_roundw
        case rel =>
          refine ⟨j + 1, A7, c7, new ++ [⟨some ⟨g, 0, none⟩, c5, rmore cc yv⟩], by go_num, rfl, by have := HJ.out; omega, ?_, ?_, by rw [List.map_append, HNEW.out, HT.out]; rfl, ?_⟩
          · rw [show rcl (new ++ [⟨some ⟨g, 0, none⟩, c5, rmore cc yv⟩]) = rcl new ++ [.slice (some ⟨g, 0, none⟩) (rmore cc yv).length c5] by simp [rcl], rmore_len, HY.out]; exact ho7
          · intro x hx
            rcases List.mem_append.1 hx with hx | hx
            · have h5 := own_kept (HROWS.out x hx) hB5 (Nat.le_refl _)
              have hne := own_fresh (HROWS.out x hx) hgb
              exact own_apart (own_not h5 hst.2 hne) hown6 (by decide) hg7
            · obtain rfl : x = _ := by simpa using hx
              have := own_base (own_apart hst.1 hown6 (by decide) hg7) hs
              rw [rmore_len, HY.out]
              exact this
          · exact (hB.trans (hB5.mono hs)).trans ((own_grown' hst.2 (Nat.le_trans hs hgb) hs5).trans (own_grown (Below.refl w6.heap.size _) hown6 hs6 hg7))
        case measure => have := HJ.out; simp [intOf]; omega
      · have hjb : ((j : Int) == (rr : Int)) = false := by simp; omega
        have HT : Hid (((rows.map RowH.vals).modify rr (rmore cc)).take (j + 1) = ((rows.map RowH.vals).modify rr (rmore cc)).take j ++ [yv]) := Lib.hid (by
          have e : ((rows.map RowH.vals).modify rr (rmore cc))[j]? = some yv := by
            rw [List.getElem?_modify, List.getElem?_map, HYY.out]; simp [show ¬ rr = j by omega]
          rw [List.take_add_one, e]; rfl)
        clear hjr
        go_wp2_with (at_builtin; first
          | (refine wpList_app rfl _ _ _ rfl elemV rfl hE rfl hyr2 (by rw [vvl_len, HY.out]; omega) (val_one yv) (by unfold maxLen; omega) (by omega) (by simp) ?_; intro A5 c5 w5 ho5 hg5 _; have hB5 := own_grown hE0 hE (by simp) hg5; have hown5 := own_kept hown hB5 (Nat.le_refl _); have hs5 := Nat.le_trans hs hB5.size; clear hE hE0 hyr2 hg5)
          | (refine wpList_app1 rfl _ _ _ rfl elemR rfl hown5 rfl rfl (by intro u hu; simp at hu; subst hu; rfl) (by unfold maxLen; omega) (by omega) hs5 ?_; intro A7 c7 w7 ho7 hg7 _))
        go_roundw
        case rel =>
          rw [Nat.zero_add, List.nil_append] at ho5
          refine ⟨j + 1, A7, c7, new ++ [⟨A5, c5, yv⟩], by go_num, rfl, by have := HJ.out; omega, ?_, ?_, by rw [List.map_append, HNEW.out, HT.out]; rfl, (hB.trans (hB5.mono hs)).trans (own_grown (Below.refl _ _) hown5 hs5 hg7)⟩
          · rw [show rcl (new ++ [⟨A5, c5, yv⟩]) = rcl new ++ [.slice A5 yv.length c5] by simp [rcl], HY.out]; exact ho7
          · intro x hx
            rcases List.mem_append.1 hx with hx | hx
            · exact own_apart (own_kept (HROWS.out x hx) hB5 (Nat.le_refl _)) hown5 (by decide) hg7
            · obtain rfl : x = _ := by simpa using hx
              have := own_base (own_apart ho5 hown5 (by decide) hg7) hs
              rw [HY.out]
              exact this
        case measure => have := HJ.out; simp [intOf]; omega
    · obtain rfl : j = n3 := by omega
      have hrl : ((rows.map RowH.vals).modify rr (rmore cc)).length = j := by rw [List.length_modify, List.length_map]; exact HN3.out
      have hnew := HNEW.out
      rw [List.take_of_length_le (by rw [hrl]; exact Nat.le_refl _)] at hnew
      have hnl : new.length = j := by rw [← hrl, ← hnew, List.length_map]
      have hok : DSOk ⟨A1, c1, cols, A2, c2, types, A, c, new⟩ := by
        refine ⟨HA.out.l1, HA.out.l2, by rw [hnl]; omega, fun x hx => ?_, HA.out.ty, fun x hx => ?_⟩
        · exact Nat.le_trans (own_cap (HROWS.out x hx)).1 (own_cap (HROWS.out x hx)).2
        · have hx2 : x.vals ∈ (rows.map RowH.vals).modify rr (rmore cc) := by rw [← hnew]; exact List.mem_map.2 ⟨x, hx, rfl⟩
          exact rows_ok (fun r hr => HA.out.vs r hr) x.vals hx2
      have hWr := bel_step hWd hB
      have hAt : (⟨A1, c1, cols, A2, c2, types, A, c, new⟩ : DS).At wr wr.heap.size := by
        have ha := (H1.out.below hWr (Nat.le_refl _)).more hWr.size
        exact ⟨ha.r1, ha.r2, Rd.of_own hown, fun x hx => Rd.of_own (HROWS.out x hx)⟩
      have hsame := dsame_any _ ⟨A1, c1, cols, A2, c2, types, A, c, new⟩ HA.out hok wr ((H1.out.below hWr (Nat.le_refl _)).more hWr.size) hAt
      have hfalse : dsame ⟨A1, c1, cols, A2, c2, types, some ⟨u1, o1, none⟩, c3, rows⟩ ⟨A1, c1, cols, A2, c2, types, A, c, new⟩ = false := by
        unfold dsame DS.plain
        simp only
        rw [hnew, req_more HRR.out (by rw [HL.out]; exact hclt), Bool.and_false, Bool.and_false]
      rw [hfalse] at hsame
      unfold DS.agg at hsame
      simp only [hnl, HN1.out, HN2.out, HN3.out] at hsame
      clear hfalse hAt hok hnew hnl hrl hown
      go_wp2_with fail
      (with_reducible refine hsame.mono ?_)
      rintro e w8 ⟨rfl, hB8⟩
      have hW8 := bel_step hWr hB8
      go_wp2_with fail
      refine (awake8_any _ (HK.out.below hW8 HK.out.pos)).mono ?_
      rintro e w9 ⟨rfl, hB9⟩
      go_wp2_with fail
      go_ret
      exact ⟨rfl, bel_step hW8 hB9⟩
end Go.Proofs.YtlgokfgbcohioaaDoor
