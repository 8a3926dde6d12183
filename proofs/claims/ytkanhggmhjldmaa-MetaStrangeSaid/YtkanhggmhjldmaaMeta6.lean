/- Several texts in one: words, plain laws and walks that the statement's proof imports. -/
import Derived.Test.YtkanhggmhjldmaaMeta5
import Derived.Test.YtkanhggmhjldmaaMeta4
import Derived.Test.YtkanhggmhjldmaaMeta3
/- WALK: the reference's fields and Put of layer 6 -/
namespace Go.Proofs.Ytkanhggmhjldmaa
open Go.RowKit Plain

theorem BoxM.row {W W' : World} {B : Nat} {m : MM} (h : BoxM W B m) {base n c : Nat} {A : Option Addr} {xs : List Value}
    (hr : W.ownsRow base 49 4 (.slice A n c) n xs) (hg : W.grownBy W' (Value.slice A n c).ownBlock) : BoxM W' B m := by
  refine (hg.block B h.lt ?_).trans h
  rcases hr.2 with ⟨hv, _⟩ | ⟨g, cap, cur, hv, _, hgb, _⟩
  · rw [hv]; simp [Value.ownBlock]
  · rw [hv]
    intro e'
    obtain rfl : B = g := by simpa [Value.ownBlock] using e'
    have := (show W.heap[B]? = _ from h).symm.trans hgb
    simp at this
theorem BoxM.cells8 {W : World} {B : Nat} {m1 : Bool} {m2 : ByteArray} {m3 m4 : Nat} {m5 m6 m7 m8 : ByteArray} (h : BoxM W B ⟨m1, m2, m3, m4, m5, m6, m7, m8⟩) :
    W.cell? ⟨B, 0, none⟩ = some (.bool m1) ∧ W.cell? ⟨B, 1, none⟩ = some (.string m2) ∧ W.cell? ⟨B, 2, none⟩ = some (.int .u64 m3) ∧ W.cell? ⟨B, 3, none⟩ = some (.int .u64 m4) ∧ W.cell? ⟨B, 4, none⟩ = some (.string m5) ∧ W.cell? ⟨B, 5, none⟩ = some (.string m6) ∧ W.cell? ⟨B, 6, none⟩ = some (.string m7) ∧ W.cell? ⟨B, 7, none⟩ = some (.string m8) :=
  ⟨h.cell 0, h.cell 1, h.cell 2, h.cell 3, h.cell 4, h.cell 5, h.cell 6, h.cell 7⟩
theorem rt_at {w : World} {A : Option Addr} {N c : Nat} {L : List Fld} {base : Nat} (hown : w.ownsRow base 49 4 (.slice A N c) N (flc L)) (num : Int) (s : ByteArray) (hL : L.length ≤ 1000) (hb : base ≤ w.heap.size) :
    Calls Try.prog 44 #[.slice A N c, .int .i64 num, .string s] w fun e w' => ∃ A' c' N', e = .returned (.slice A' N' c') ∧ (addF L ⟨num, 2, 0, s⟩).length = N' ∧
      w'.ownsRow base 49 4 (.slice A' N' c') N' (flc (addF L ⟨num, 2, 0, s⟩)) ∧ Below w.heap.size w w' := by
  have e : N = L.length := by
    have := hown.1
    rw [flc_len] at this
    omega
  subst e
  refine (rtext_any A c L num s hL base w hb hown).mono ?_
  rintro e w' ⟨A', c', rfl, h, hB⟩
  exact ⟨A', c', _, rfl, rfl, h, hB⟩
set_option maxHeartbeats 2000000 in
theorem rf000 (m2 : ByteArray) (m3 m4 : Nat) (m5 m6 m7 m8 : ByteArray) (h3 : ((m3 : Int) != 0) = false) (h4 : ((m4 : Int) != 0) = false) (w : World) (R : List Fld) (hR : (addF (addF (addF (addF (addF [] ⟨2, 2, 0, m2⟩) ⟨5, 2, 0, m5⟩) ⟨6, 2, 0, m6⟩) ⟨7, 2, 0, m7⟩) ⟨8, 2, 0, m8⟩) = R) :
    Calls Try.prog 31 #[.agg #[.bool false, .string m2, .int .u64 m3, .int .u64 m4, .string m5, .string m6, .string m7, .string m8]] w fun e w' => ∃ A c, e = .returned (.slice A R.length c) ∧ w'.ownsRow w.heap.size 49 4 (.slice A R.length c) R.length (flc R) ∧ Below w.heap.size w w' := by
  have HR := Lib.hid hR
  clear hR
  obtain ⟨L, hL0⟩ : ∃ L : List Fld, [] = L := ⟨_, rfl⟩
  have hl : L.length = 0 := by rw [← hL0]; rfl
  have hown : (w.alloc (Obj.cells #[.bool false, .string m2, .int .u64 m3, .int .u64 m4, .string m5, .string m6, .string m7, .string m8] 24)).ownsRow w.heap.size 49 4 (.slice none 0 0) 0 (flc L) := by rw [← hL0]; exact World.ownsRow_nil _ _ _ _
  have HL0 := Lib.hid hL0
  clear hL0
  have hB := (Below.refl w.heap.size w).alloc (Nat.le_refl _) (Obj.cells #[.bool false, .string m2, .int .u64 m3, .int .u64 m4, .string m5, .string m6, .string m7, .string m8] 24)
  have hM : BoxM (w.alloc (Obj.cells #[.bool false, .string m2, .int .u64 m3, .int .u64 m4, .string m5, .string m6, .string m7, .string m8] 24)) w.heap.size ⟨false, m2, m3, m4, m5, m6, m7, m8⟩ := World.alloc_heap_new w _
  go_enter Try.func31, Try.ntmps31
  go_wp2_with fail
  have hn1 := hl
  refine (rt_at hown 2 m2 (by omega) hB.size).mono ?_
  rintro e W1 ⟨A1, c1, N1, rfl, hN1, hown1, hb1⟩
  have hM1 := hM.below hb1 hM.lt
  have hB1 := bel_step hB hb1
  obtain ⟨y10, y11, y12, y13, y14, y15, y16, y17⟩ := hM1.cells8
  have hl1 := addF_len L ⟨2, 2, 0, m2⟩
  obtain ⟨L1, hL1⟩ : ∃ L', addF L ⟨2, 2, 0, m2⟩ = L' := ⟨_, rfl⟩
  rw [hL1] at hown1 hl1 hN1
  have HL1 := Lib.hid hL1
  clear hL1 hown hB hM hb1
  go_wp2_with fail
  have hn2 := hl1
  refine (rt_at hown1 5 m5 (by omega) hB1.size).mono ?_
  rintro e W2 ⟨A2, c2, N2, rfl, hN2, hown2, hb2⟩
  have hM2 := hM1.below hb2 hM1.lt
  have hB2 := bel_step hB1 hb2
  obtain ⟨y20, y21, y22, y23, y24, y25, y26, y27⟩ := hM2.cells8
  have hl2 := addF_len L1 ⟨5, 2, 0, m5⟩
  obtain ⟨L2, hL2⟩ : ∃ L', addF L1 ⟨5, 2, 0, m5⟩ = L' := ⟨_, rfl⟩
  rw [hL2] at hown2 hl2 hN2
  have HL2 := Lib.hid hL2
  clear hL2 hown1 hB1 hM1 hb2
  go_wp2_with fail
  have hn3 := hl2
  refine (rt_at hown2 6 m6 (by omega) hB2.size).mono ?_
  rintro e W3 ⟨A3, c3, N3, rfl, hN3, hown3, hb3⟩
  have hM3 := hM2.below hb3 hM2.lt
  have hB3 := bel_step hB2 hb3
  obtain ⟨y30, y31, y32, y33, y34, y35, y36, y37⟩ := hM3.cells8
  have hl3 := addF_len L2 ⟨6, 2, 0, m6⟩
  obtain ⟨L3, hL3⟩ : ∃ L', addF L2 ⟨6, 2, 0, m6⟩ = L' := ⟨_, rfl⟩
  rw [hL3] at hown3 hl3 hN3
  have HL3 := Lib.hid hL3
  clear hL3 hown2 hB2 hM2 hb3
  go_wp2_with fail
  have hn4 := hl3
  refine (rt_at hown3 7 m7 (by omega) hB3.size).mono ?_
  rintro e W4 ⟨A4, c4, N4, rfl, hN4, hown4, hb4⟩
  have hM4 := hM3.below hb4 hM3.lt
  have hB4 := bel_step hB3 hb4
  obtain ⟨y40, y41, y42, y43, y44, y45, y46, y47⟩ := hM4.cells8
  have hl4 := addF_len L3 ⟨7, 2, 0, m7⟩
  obtain ⟨L4, hL4⟩ : ∃ L', addF L3 ⟨7, 2, 0, m7⟩ = L' := ⟨_, rfl⟩
  rw [hL4] at hown4 hl4 hN4
  have HL4 := Lib.hid hL4
  clear hL4 hown3 hB3 hM3 hb4
  go_wp2_with fail
  have hn5 := hl4
  refine (rt_at hown4 8 m8 (by omega) hB4.size).mono ?_
  rintro e W5 ⟨A5, c5, N5, rfl, hN5, hown5, hb5⟩
  have hM5 := hM4.below hb5 hM4.lt
  have hB5 := bel_step hB4 hb5
  obtain ⟨y50, y51, y52, y53, y54, y55, y56, y57⟩ := hM5.cells8
  have hl5 := addF_len L4 ⟨8, 2, 0, m8⟩
  obtain ⟨L5, hL5⟩ : ∃ L', addF L4 ⟨8, 2, 0, m8⟩ = L' := ⟨_, rfl⟩
  rw [hL5] at hown5 hl5 hN5
  have HL5 := Lib.hid hL5
  clear hL5 hown4 hB4 hM4 hb5
  go_wp2_with fail
  go_ret
  have e : L5 = R := by rw [← HR.out, ← HL5.out, ← HL4.out, ← HL3.out, ← HL2.out, ← HL1.out, ← HL0.out]
  subst e
  subst hN5
  exact ⟨A5, c5, rfl, hown5, hB5⟩
set_option maxHeartbeats 2000000 in
theorem rf001 (m2 : ByteArray) (m3 m4 : Nat) (m5 m6 m7 m8 : ByteArray) (h3 : ((m3 : Int) != 0) = false) (h4 : ((m4 : Int) != 0) = true) (w : World) (R : List Fld) (hR : (addF (addF (addF (addF ((addF [] ⟨2, 2, 0, m2⟩) ++ [⟨4, 0, m4, ⟨#[]⟩⟩]) ⟨5, 2, 0, m5⟩) ⟨6, 2, 0, m6⟩) ⟨7, 2, 0, m7⟩) ⟨8, 2, 0, m8⟩) = R) :
    Calls Try.prog 31 #[.agg #[.bool false, .string m2, .int .u64 m3, .int .u64 m4, .string m5, .string m6, .string m7, .string m8]] w fun e w' => ∃ A c, e = .returned (.slice A R.length c) ∧ w'.ownsRow w.heap.size 49 4 (.slice A R.length c) R.length (flc R) ∧ Below w.heap.size w w' := by
  have HR := Lib.hid hR
  clear hR
  obtain ⟨L, hL0⟩ : ∃ L : List Fld, [] = L := ⟨_, rfl⟩
  have hl : L.length = 0 := by rw [← hL0]; rfl
  have hown : (w.alloc (Obj.cells #[.bool false, .string m2, .int .u64 m3, .int .u64 m4, .string m5, .string m6, .string m7, .string m8] 24)).ownsRow w.heap.size 49 4 (.slice none 0 0) 0 (flc L) := by rw [← hL0]; exact World.ownsRow_nil _ _ _ _
  have HL0 := Lib.hid hL0
  clear hL0
  have hB := (Below.refl w.heap.size w).alloc (Nat.le_refl _) (Obj.cells #[.bool false, .string m2, .int .u64 m3, .int .u64 m4, .string m5, .string m6, .string m7, .string m8] 24)
  have hM : BoxM (w.alloc (Obj.cells #[.bool false, .string m2, .int .u64 m3, .int .u64 m4, .string m5, .string m6, .string m7, .string m8] 24)) w.heap.size ⟨false, m2, m3, m4, m5, m6, m7, m8⟩ := World.alloc_heap_new w _
  go_enter Try.func31, Try.ntmps31
  go_wp2_with fail
  have hn1 := hl
  refine (rt_at hown 2 m2 (by omega) hB.size).mono ?_
  rintro e W1 ⟨A1, c1, N1, rfl, hN1, hown1, hb1⟩
  have hM1 := hM.below hb1 hM.lt
  have hB1 := bel_step hB hb1
  obtain ⟨y10, y11, y12, y13, y14, y15, y16, y17⟩ := hM1.cells8
  have hl1 := addF_len L ⟨2, 2, 0, m2⟩
  obtain ⟨L1, hL1⟩ : ∃ L', addF L ⟨2, 2, 0, m2⟩ = L' := ⟨_, rfl⟩
  rw [hL1] at hown1 hl1 hN1
  have HL1 := Lib.hid hL1
  clear hL1 hown hB hM hb1
  go_wp2_with (at_builtin; first
    | (refine wpList_appF1 rfl _ _ rfl rfl hown1 ⟨4, 0, m4, ⟨#[]⟩⟩ rfl (by simp) (by omega) hB1.size ?_; intro A2 c2 W2 hown2 hg2; have hB2 := own_grown hB1 hown1 hB1.size hg2; have hM2 := hM1.row hown1 hg2; obtain ⟨L2, hL2⟩ : ∃ L', L1 ++ [⟨4, 0, m4, ⟨#[]⟩⟩] = L' := ⟨_, rfl⟩; have hl2 : L2.length = L1.length + 1 := (congrArg List.length hL2).symm.trans List.length_append; rw [hL2] at hown2; have HL2 := Lib.hid hL2; obtain ⟨y20, y21, y22, y23, y24, y25, y26, y27⟩ := hM2.cells8; clear hg2 hL2 hown1 hB1 hM1))
  have hn3 := hl2
  refine (rt_at hown2 5 m5 (by omega) hB2.size).mono ?_
  rintro e W3 ⟨A3, c3, N3, rfl, hN3, hown3, hb3⟩
  have hM3 := hM2.below hb3 hM2.lt
  have hB3 := bel_step hB2 hb3
  obtain ⟨y30, y31, y32, y33, y34, y35, y36, y37⟩ := hM3.cells8
  have hl3 := addF_len L2 ⟨5, 2, 0, m5⟩
  obtain ⟨L3, hL3⟩ : ∃ L', addF L2 ⟨5, 2, 0, m5⟩ = L' := ⟨_, rfl⟩
  rw [hL3] at hown3 hl3 hN3
  have HL3 := Lib.hid hL3
  clear hL3 hown2 hB2 hM2 hb3
  go_wp2_with fail
  have hn4 := hl3
  refine (rt_at hown3 6 m6 (by omega) hB3.size).mono ?_
  rintro e W4 ⟨A4, c4, N4, rfl, hN4, hown4, hb4⟩
  have hM4 := hM3.below hb4 hM3.lt
  have hB4 := bel_step hB3 hb4
  obtain ⟨y40, y41, y42, y43, y44, y45, y46, y47⟩ := hM4.cells8
  have hl4 := addF_len L3 ⟨6, 2, 0, m6⟩
  obtain ⟨L4, hL4⟩ : ∃ L', addF L3 ⟨6, 2, 0, m6⟩ = L' := ⟨_, rfl⟩
  rw [hL4] at hown4 hl4 hN4
  have HL4 := Lib.hid hL4
  clear hL4 hown3 hB3 hM3 hb4
  go_wp2_with fail
  have hn5 := hl4
  refine (rt_at hown4 7 m7 (by omega) hB4.size).mono ?_
  rintro e W5 ⟨A5, c5, N5, rfl, hN5, hown5, hb5⟩
  have hM5 := hM4.below hb5 hM4.lt
  have hB5 := bel_step hB4 hb5
  obtain ⟨y50, y51, y52, y53, y54, y55, y56, y57⟩ := hM5.cells8
  have hl5 := addF_len L4 ⟨7, 2, 0, m7⟩
  obtain ⟨L5, hL5⟩ : ∃ L', addF L4 ⟨7, 2, 0, m7⟩ = L' := ⟨_, rfl⟩
  rw [hL5] at hown5 hl5 hN5
  have HL5 := Lib.hid hL5
  clear hL5 hown4 hB4 hM4 hb5
  go_wp2_with fail
  have hn6 := hl5
  refine (rt_at hown5 8 m8 (by omega) hB5.size).mono ?_
  rintro e W6 ⟨A6, c6, N6, rfl, hN6, hown6, hb6⟩
  have hM6 := hM5.below hb6 hM5.lt
  have hB6 := bel_step hB5 hb6
  obtain ⟨y60, y61, y62, y63, y64, y65, y66, y67⟩ := hM6.cells8
  have hl6 := addF_len L5 ⟨8, 2, 0, m8⟩
  obtain ⟨L6, hL6⟩ : ∃ L', addF L5 ⟨8, 2, 0, m8⟩ = L' := ⟨_, rfl⟩
  rw [hL6] at hown6 hl6 hN6
  have HL6 := Lib.hid hL6
  clear hL6 hown5 hB5 hM5 hb6
  go_wp2_with fail
  go_ret
  have e : L6 = R := by rw [← HR.out, ← HL6.out, ← HL5.out, ← HL4.out, ← HL3.out, ← HL2.out, ← HL1.out, ← HL0.out]
  subst e
  subst hN6
  exact ⟨A6, c6, rfl, hown6, hB6⟩
set_option maxHeartbeats 2000000 in
theorem rf010 (m2 : ByteArray) (m3 m4 : Nat) (m5 m6 m7 m8 : ByteArray) (h3 : ((m3 : Int) != 0) = true) (h4 : ((m4 : Int) != 0) = false) (w : World) (R : List Fld) (hR : (addF (addF (addF (addF ((addF [] ⟨2, 2, 0, m2⟩) ++ [⟨3, 0, m3, ⟨#[]⟩⟩]) ⟨5, 2, 0, m5⟩) ⟨6, 2, 0, m6⟩) ⟨7, 2, 0, m7⟩) ⟨8, 2, 0, m8⟩) = R) :
    Calls Try.prog 31 #[.agg #[.bool false, .string m2, .int .u64 m3, .int .u64 m4, .string m5, .string m6, .string m7, .string m8]] w fun e w' => ∃ A c, e = .returned (.slice A R.length c) ∧ w'.ownsRow w.heap.size 49 4 (.slice A R.length c) R.length (flc R) ∧ Below w.heap.size w w' := by
  have HR := Lib.hid hR
  clear hR
  obtain ⟨L, hL0⟩ : ∃ L : List Fld, [] = L := ⟨_, rfl⟩
  have hl : L.length = 0 := by rw [← hL0]; rfl
  have hown : (w.alloc (Obj.cells #[.bool false, .string m2, .int .u64 m3, .int .u64 m4, .string m5, .string m6, .string m7, .string m8] 24)).ownsRow w.heap.size 49 4 (.slice none 0 0) 0 (flc L) := by rw [← hL0]; exact World.ownsRow_nil _ _ _ _
  have HL0 := Lib.hid hL0
  clear hL0
  have hB := (Below.refl w.heap.size w).alloc (Nat.le_refl _) (Obj.cells #[.bool false, .string m2, .int .u64 m3, .int .u64 m4, .string m5, .string m6, .string m7, .string m8] 24)
  have hM : BoxM (w.alloc (Obj.cells #[.bool false, .string m2, .int .u64 m3, .int .u64 m4, .string m5, .string m6, .string m7, .string m8] 24)) w.heap.size ⟨false, m2, m3, m4, m5, m6, m7, m8⟩ := World.alloc_heap_new w _
  go_enter Try.func31, Try.ntmps31
  go_wp2_with fail
  have hn1 := hl
  refine (rt_at hown 2 m2 (by omega) hB.size).mono ?_
  rintro e W1 ⟨A1, c1, N1, rfl, hN1, hown1, hb1⟩
  have hM1 := hM.below hb1 hM.lt
  have hB1 := bel_step hB hb1
  obtain ⟨y10, y11, y12, y13, y14, y15, y16, y17⟩ := hM1.cells8
  have hl1 := addF_len L ⟨2, 2, 0, m2⟩
  obtain ⟨L1, hL1⟩ : ∃ L', addF L ⟨2, 2, 0, m2⟩ = L' := ⟨_, rfl⟩
  rw [hL1] at hown1 hl1 hN1
  have HL1 := Lib.hid hL1
  clear hL1 hown hB hM hb1
  go_wp2_with (at_builtin; first
    | (refine wpList_appF1 rfl _ _ rfl rfl hown1 ⟨3, 0, m3, ⟨#[]⟩⟩ rfl (by simp) (by omega) hB1.size ?_; intro A2 c2 W2 hown2 hg2; have hB2 := own_grown hB1 hown1 hB1.size hg2; have hM2 := hM1.row hown1 hg2; obtain ⟨L2, hL2⟩ : ∃ L', L1 ++ [⟨3, 0, m3, ⟨#[]⟩⟩] = L' := ⟨_, rfl⟩; have hl2 : L2.length = L1.length + 1 := (congrArg List.length hL2).symm.trans List.length_append; rw [hL2] at hown2; have HL2 := Lib.hid hL2; obtain ⟨y20, y21, y22, y23, y24, y25, y26, y27⟩ := hM2.cells8; clear hg2 hL2 hown1 hB1 hM1))
  have hn3 := hl2
  refine (rt_at hown2 5 m5 (by omega) hB2.size).mono ?_
  rintro e W3 ⟨A3, c3, N3, rfl, hN3, hown3, hb3⟩
  have hM3 := hM2.below hb3 hM2.lt
  have hB3 := bel_step hB2 hb3
  obtain ⟨y30, y31, y32, y33, y34, y35, y36, y37⟩ := hM3.cells8
  have hl3 := addF_len L2 ⟨5, 2, 0, m5⟩
  obtain ⟨L3, hL3⟩ : ∃ L', addF L2 ⟨5, 2, 0, m5⟩ = L' := ⟨_, rfl⟩
  rw [hL3] at hown3 hl3 hN3
  have HL3 := Lib.hid hL3
  clear hL3 hown2 hB2 hM2 hb3
  go_wp2_with fail
  have hn4 := hl3
  refine (rt_at hown3 6 m6 (by omega) hB3.size).mono ?_
  rintro e W4 ⟨A4, c4, N4, rfl, hN4, hown4, hb4⟩
  have hM4 := hM3.below hb4 hM3.lt
  have hB4 := bel_step hB3 hb4
  obtain ⟨y40, y41, y42, y43, y44, y45, y46, y47⟩ := hM4.cells8
  have hl4 := addF_len L3 ⟨6, 2, 0, m6⟩
  obtain ⟨L4, hL4⟩ : ∃ L', addF L3 ⟨6, 2, 0, m6⟩ = L' := ⟨_, rfl⟩
  rw [hL4] at hown4 hl4 hN4
  have HL4 := Lib.hid hL4
  clear hL4 hown3 hB3 hM3 hb4
  go_wp2_with fail
  have hn5 := hl4
  refine (rt_at hown4 7 m7 (by omega) hB4.size).mono ?_
  rintro e W5 ⟨A5, c5, N5, rfl, hN5, hown5, hb5⟩
  have hM5 := hM4.below hb5 hM4.lt
  have hB5 := bel_step hB4 hb5
  obtain ⟨y50, y51, y52, y53, y54, y55, y56, y57⟩ := hM5.cells8
  have hl5 := addF_len L4 ⟨7, 2, 0, m7⟩
  obtain ⟨L5, hL5⟩ : ∃ L', addF L4 ⟨7, 2, 0, m7⟩ = L' := ⟨_, rfl⟩
  rw [hL5] at hown5 hl5 hN5
  have HL5 := Lib.hid hL5
  clear hL5 hown4 hB4 hM4 hb5
  go_wp2_with fail
  have hn6 := hl5
  refine (rt_at hown5 8 m8 (by omega) hB5.size).mono ?_
  rintro e W6 ⟨A6, c6, N6, rfl, hN6, hown6, hb6⟩
  have hM6 := hM5.below hb6 hM5.lt
  have hB6 := bel_step hB5 hb6
  obtain ⟨y60, y61, y62, y63, y64, y65, y66, y67⟩ := hM6.cells8
  have hl6 := addF_len L5 ⟨8, 2, 0, m8⟩
  obtain ⟨L6, hL6⟩ : ∃ L', addF L5 ⟨8, 2, 0, m8⟩ = L' := ⟨_, rfl⟩
  rw [hL6] at hown6 hl6 hN6
  have HL6 := Lib.hid hL6
  clear hL6 hown5 hB5 hM5 hb6
  go_wp2_with fail
  go_ret
  have e : L6 = R := by rw [← HR.out, ← HL6.out, ← HL5.out, ← HL4.out, ← HL3.out, ← HL2.out, ← HL1.out, ← HL0.out]
  subst e
  subst hN6
  exact ⟨A6, c6, rfl, hown6, hB6⟩
set_option maxHeartbeats 2000000 in
theorem rf011 (m2 : ByteArray) (m3 m4 : Nat) (m5 m6 m7 m8 : ByteArray) (h3 : ((m3 : Int) != 0) = true) (h4 : ((m4 : Int) != 0) = true) (w : World) (R : List Fld) (hR : (addF (addF (addF (addF (((addF [] ⟨2, 2, 0, m2⟩) ++ [⟨3, 0, m3, ⟨#[]⟩⟩]) ++ [⟨4, 0, m4, ⟨#[]⟩⟩]) ⟨5, 2, 0, m5⟩) ⟨6, 2, 0, m6⟩) ⟨7, 2, 0, m7⟩) ⟨8, 2, 0, m8⟩) = R) :
    Calls Try.prog 31 #[.agg #[.bool false, .string m2, .int .u64 m3, .int .u64 m4, .string m5, .string m6, .string m7, .string m8]] w fun e w' => ∃ A c, e = .returned (.slice A R.length c) ∧ w'.ownsRow w.heap.size 49 4 (.slice A R.length c) R.length (flc R) ∧ Below w.heap.size w w' := by
  have HR := Lib.hid hR
  clear hR
  obtain ⟨L, hL0⟩ : ∃ L : List Fld, [] = L := ⟨_, rfl⟩
  have hl : L.length = 0 := by rw [← hL0]; rfl
  have hown : (w.alloc (Obj.cells #[.bool false, .string m2, .int .u64 m3, .int .u64 m4, .string m5, .string m6, .string m7, .string m8] 24)).ownsRow w.heap.size 49 4 (.slice none 0 0) 0 (flc L) := by rw [← hL0]; exact World.ownsRow_nil _ _ _ _
  have HL0 := Lib.hid hL0
  clear hL0
  have hB := (Below.refl w.heap.size w).alloc (Nat.le_refl _) (Obj.cells #[.bool false, .string m2, .int .u64 m3, .int .u64 m4, .string m5, .string m6, .string m7, .string m8] 24)
  have hM : BoxM (w.alloc (Obj.cells #[.bool false, .string m2, .int .u64 m3, .int .u64 m4, .string m5, .string m6, .string m7, .string m8] 24)) w.heap.size ⟨false, m2, m3, m4, m5, m6, m7, m8⟩ := World.alloc_heap_new w _
  go_enter Try.func31, Try.ntmps31
  go_wp2_with fail
  have hn1 := hl
  refine (rt_at hown 2 m2 (by omega) hB.size).mono ?_
  rintro e W1 ⟨A1, c1, N1, rfl, hN1, hown1, hb1⟩
  have hM1 := hM.below hb1 hM.lt
  have hB1 := bel_step hB hb1
  obtain ⟨y10, y11, y12, y13, y14, y15, y16, y17⟩ := hM1.cells8
  have hl1 := addF_len L ⟨2, 2, 0, m2⟩
  obtain ⟨L1, hL1⟩ : ∃ L', addF L ⟨2, 2, 0, m2⟩ = L' := ⟨_, rfl⟩
  rw [hL1] at hown1 hl1 hN1
  have HL1 := Lib.hid hL1
  clear hL1 hown hB hM hb1
  go_wp2_with (at_builtin; first
    | (refine wpList_appF1 rfl _ _ rfl rfl hown1 ⟨3, 0, m3, ⟨#[]⟩⟩ rfl (by simp) (by omega) hB1.size ?_; intro A2 c2 W2 hown2 hg2; have hB2 := own_grown hB1 hown1 hB1.size hg2; have hM2 := hM1.row hown1 hg2; obtain ⟨L2, hL2⟩ : ∃ L', L1 ++ [⟨3, 0, m3, ⟨#[]⟩⟩] = L' := ⟨_, rfl⟩; have hl2 : L2.length = L1.length + 1 := (congrArg List.length hL2).symm.trans List.length_append; rw [hL2] at hown2; have HL2 := Lib.hid hL2; obtain ⟨y20, y21, y22, y23, y24, y25, y26, y27⟩ := hM2.cells8; clear hg2 hL2 hown1 hB1 hM1)
    | (refine wpList_appF1 rfl _ _ rfl rfl hown2 ⟨4, 0, m4, ⟨#[]⟩⟩ rfl (by simp) (by omega) hB2.size ?_; intro A3 c3 W3 hown3 hg3; have hB3 := own_grown hB2 hown2 hB2.size hg3; have hM3 := hM2.row hown2 hg3; obtain ⟨L3, hL3⟩ : ∃ L', L2 ++ [⟨4, 0, m4, ⟨#[]⟩⟩] = L' := ⟨_, rfl⟩; have hl3 : L3.length = L2.length + 1 := (congrArg List.length hL3).symm.trans List.length_append; rw [hL3] at hown3; have HL3 := Lib.hid hL3; obtain ⟨y30, y31, y32, y33, y34, y35, y36, y37⟩ := hM3.cells8; clear hg3 hL3 hown2 hB2 hM2))
  have hn4 := hl3
  refine (rt_at hown3 5 m5 (by omega) hB3.size).mono ?_
  rintro e W4 ⟨A4, c4, N4, rfl, hN4, hown4, hb4⟩
  have hM4 := hM3.below hb4 hM3.lt
  have hB4 := bel_step hB3 hb4
  obtain ⟨y40, y41, y42, y43, y44, y45, y46, y47⟩ := hM4.cells8
  have hl4 := addF_len L3 ⟨5, 2, 0, m5⟩
  obtain ⟨L4, hL4⟩ : ∃ L', addF L3 ⟨5, 2, 0, m5⟩ = L' := ⟨_, rfl⟩
  rw [hL4] at hown4 hl4 hN4
  have HL4 := Lib.hid hL4
  clear hL4 hown3 hB3 hM3 hb4
  go_wp2_with fail
  have hn5 := hl4
  refine (rt_at hown4 6 m6 (by omega) hB4.size).mono ?_
  rintro e W5 ⟨A5, c5, N5, rfl, hN5, hown5, hb5⟩
  have hM5 := hM4.below hb5 hM4.lt
  have hB5 := bel_step hB4 hb5
  obtain ⟨y50, y51, y52, y53, y54, y55, y56, y57⟩ := hM5.cells8
  have hl5 := addF_len L4 ⟨6, 2, 0, m6⟩
  obtain ⟨L5, hL5⟩ : ∃ L', addF L4 ⟨6, 2, 0, m6⟩ = L' := ⟨_, rfl⟩
  rw [hL5] at hown5 hl5 hN5
  have HL5 := Lib.hid hL5
  clear hL5 hown4 hB4 hM4 hb5
  go_wp2_with fail
  have hn6 := hl5
  refine (rt_at hown5 7 m7 (by omega) hB5.size).mono ?_
  rintro e W6 ⟨A6, c6, N6, rfl, hN6, hown6, hb6⟩
  have hM6 := hM5.below hb6 hM5.lt
  have hB6 := bel_step hB5 hb6
  obtain ⟨y60, y61, y62, y63, y64, y65, y66, y67⟩ := hM6.cells8
  have hl6 := addF_len L5 ⟨7, 2, 0, m7⟩
  obtain ⟨L6, hL6⟩ : ∃ L', addF L5 ⟨7, 2, 0, m7⟩ = L' := ⟨_, rfl⟩
  rw [hL6] at hown6 hl6 hN6
  have HL6 := Lib.hid hL6
  clear hL6 hown5 hB5 hM5 hb6
  go_wp2_with fail
  have hn7 := hl6
  refine (rt_at hown6 8 m8 (by omega) hB6.size).mono ?_
  rintro e W7 ⟨A7, c7, N7, rfl, hN7, hown7, hb7⟩
  have hM7 := hM6.below hb7 hM6.lt
  have hB7 := bel_step hB6 hb7
  obtain ⟨y70, y71, y72, y73, y74, y75, y76, y77⟩ := hM7.cells8
  have hl7 := addF_len L6 ⟨8, 2, 0, m8⟩
  obtain ⟨L7, hL7⟩ : ∃ L', addF L6 ⟨8, 2, 0, m8⟩ = L' := ⟨_, rfl⟩
  rw [hL7] at hown7 hl7 hN7
  have HL7 := Lib.hid hL7
  clear hL7 hown6 hB6 hM6 hb7
  go_wp2_with fail
  go_ret
  have e : L7 = R := by rw [← HR.out, ← HL7.out, ← HL6.out, ← HL5.out, ← HL4.out, ← HL3.out, ← HL2.out, ← HL1.out, ← HL0.out]
  subst e
  subst hN7
  exact ⟨A7, c7, rfl, hown7, hB7⟩
set_option maxHeartbeats 2000000 in
theorem rf100 (m2 : ByteArray) (m3 m4 : Nat) (m5 m6 m7 m8 : ByteArray) (h3 : ((m3 : Int) != 0) = false) (h4 : ((m4 : Int) != 0) = false) (w : World) (R : List Fld) (hR : (addF (addF (addF (addF (addF ([] ++ [⟨1, 0, 1, ⟨#[]⟩⟩]) ⟨2, 2, 0, m2⟩) ⟨5, 2, 0, m5⟩) ⟨6, 2, 0, m6⟩) ⟨7, 2, 0, m7⟩) ⟨8, 2, 0, m8⟩) = R) :
    Calls Try.prog 31 #[.agg #[.bool true, .string m2, .int .u64 m3, .int .u64 m4, .string m5, .string m6, .string m7, .string m8]] w fun e w' => ∃ A c, e = .returned (.slice A R.length c) ∧ w'.ownsRow w.heap.size 49 4 (.slice A R.length c) R.length (flc R) ∧ Below w.heap.size w w' := by
  have HR := Lib.hid hR
  clear hR
  obtain ⟨L, hL0⟩ : ∃ L : List Fld, [] = L := ⟨_, rfl⟩
  have hl : L.length = 0 := by rw [← hL0]; rfl
  have hown : (w.alloc (Obj.cells #[.bool true, .string m2, .int .u64 m3, .int .u64 m4, .string m5, .string m6, .string m7, .string m8] 24)).ownsRow w.heap.size 49 4 (.slice none 0 0) 0 (flc L) := by rw [← hL0]; exact World.ownsRow_nil _ _ _ _
  have HL0 := Lib.hid hL0
  clear hL0
  have hB := (Below.refl w.heap.size w).alloc (Nat.le_refl _) (Obj.cells #[.bool true, .string m2, .int .u64 m3, .int .u64 m4, .string m5, .string m6, .string m7, .string m8] 24)
  have hM : BoxM (w.alloc (Obj.cells #[.bool true, .string m2, .int .u64 m3, .int .u64 m4, .string m5, .string m6, .string m7, .string m8] 24)) w.heap.size ⟨true, m2, m3, m4, m5, m6, m7, m8⟩ := World.alloc_heap_new w _
  go_enter Try.func31, Try.ntmps31
  go_wp2_with (at_builtin; first
    | (refine wpList_appF1 rfl _ _ rfl rfl hown ⟨1, 0, 1, ⟨#[]⟩⟩ rfl (by simp) (by omega) hB.size ?_; intro A1 c1 W1 hown1 hg1; have hB1 := own_grown hB hown hB.size hg1; have hM1 := hM.row hown hg1; obtain ⟨L1, hL1⟩ : ∃ L', L ++ [⟨1, 0, 1, ⟨#[]⟩⟩] = L' := ⟨_, rfl⟩; have hl1 : L1.length = L.length + 1 := (congrArg List.length hL1).symm.trans List.length_append; rw [hL1] at hown1; have HL1 := Lib.hid hL1; obtain ⟨y10, y11, y12, y13, y14, y15, y16, y17⟩ := hM1.cells8; clear hg1 hL1 hown hB hM))
  have hn2 := hl1
  refine (rt_at hown1 2 m2 (by omega) hB1.size).mono ?_
  rintro e W2 ⟨A2, c2, N2, rfl, hN2, hown2, hb2⟩
  have hM2 := hM1.below hb2 hM1.lt
  have hB2 := bel_step hB1 hb2
  obtain ⟨y20, y21, y22, y23, y24, y25, y26, y27⟩ := hM2.cells8
  have hl2 := addF_len L1 ⟨2, 2, 0, m2⟩
  obtain ⟨L2, hL2⟩ : ∃ L', addF L1 ⟨2, 2, 0, m2⟩ = L' := ⟨_, rfl⟩
  rw [hL2] at hown2 hl2 hN2
  have HL2 := Lib.hid hL2
  clear hL2 hown1 hB1 hM1 hb2
  go_wp2_with fail
  have hn3 := hl2
  refine (rt_at hown2 5 m5 (by omega) hB2.size).mono ?_
  rintro e W3 ⟨A3, c3, N3, rfl, hN3, hown3, hb3⟩
  have hM3 := hM2.below hb3 hM2.lt
  have hB3 := bel_step hB2 hb3
  obtain ⟨y30, y31, y32, y33, y34, y35, y36, y37⟩ := hM3.cells8
  have hl3 := addF_len L2 ⟨5, 2, 0, m5⟩
  obtain ⟨L3, hL3⟩ : ∃ L', addF L2 ⟨5, 2, 0, m5⟩ = L' := ⟨_, rfl⟩
  rw [hL3] at hown3 hl3 hN3
  have HL3 := Lib.hid hL3
  clear hL3 hown2 hB2 hM2 hb3
  go_wp2_with fail
  have hn4 := hl3
  refine (rt_at hown3 6 m6 (by omega) hB3.size).mono ?_
  rintro e W4 ⟨A4, c4, N4, rfl, hN4, hown4, hb4⟩
  have hM4 := hM3.below hb4 hM3.lt
  have hB4 := bel_step hB3 hb4
  obtain ⟨y40, y41, y42, y43, y44, y45, y46, y47⟩ := hM4.cells8
  have hl4 := addF_len L3 ⟨6, 2, 0, m6⟩
  obtain ⟨L4, hL4⟩ : ∃ L', addF L3 ⟨6, 2, 0, m6⟩ = L' := ⟨_, rfl⟩
  rw [hL4] at hown4 hl4 hN4
  have HL4 := Lib.hid hL4
  clear hL4 hown3 hB3 hM3 hb4
  go_wp2_with fail
  have hn5 := hl4
  refine (rt_at hown4 7 m7 (by omega) hB4.size).mono ?_
  rintro e W5 ⟨A5, c5, N5, rfl, hN5, hown5, hb5⟩
  have hM5 := hM4.below hb5 hM4.lt
  have hB5 := bel_step hB4 hb5
  obtain ⟨y50, y51, y52, y53, y54, y55, y56, y57⟩ := hM5.cells8
  have hl5 := addF_len L4 ⟨7, 2, 0, m7⟩
  obtain ⟨L5, hL5⟩ : ∃ L', addF L4 ⟨7, 2, 0, m7⟩ = L' := ⟨_, rfl⟩
  rw [hL5] at hown5 hl5 hN5
  have HL5 := Lib.hid hL5
  clear hL5 hown4 hB4 hM4 hb5
  go_wp2_with fail
  have hn6 := hl5
  refine (rt_at hown5 8 m8 (by omega) hB5.size).mono ?_
  rintro e W6 ⟨A6, c6, N6, rfl, hN6, hown6, hb6⟩
  have hM6 := hM5.below hb6 hM5.lt
  have hB6 := bel_step hB5 hb6
  obtain ⟨y60, y61, y62, y63, y64, y65, y66, y67⟩ := hM6.cells8
  have hl6 := addF_len L5 ⟨8, 2, 0, m8⟩
  obtain ⟨L6, hL6⟩ : ∃ L', addF L5 ⟨8, 2, 0, m8⟩ = L' := ⟨_, rfl⟩
  rw [hL6] at hown6 hl6 hN6
  have HL6 := Lib.hid hL6
  clear hL6 hown5 hB5 hM5 hb6
  go_wp2_with fail
  go_ret
  have e : L6 = R := by rw [← HR.out, ← HL6.out, ← HL5.out, ← HL4.out, ← HL3.out, ← HL2.out, ← HL1.out, ← HL0.out]
  subst e
  subst hN6
  exact ⟨A6, c6, rfl, hown6, hB6⟩
set_option maxHeartbeats 2000000 in
theorem rf101 (m2 : ByteArray) (m3 m4 : Nat) (m5 m6 m7 m8 : ByteArray) (h3 : ((m3 : Int) != 0) = false) (h4 : ((m4 : Int) != 0) = true) (w : World) (R : List Fld) (hR : (addF (addF (addF (addF ((addF ([] ++ [⟨1, 0, 1, ⟨#[]⟩⟩]) ⟨2, 2, 0, m2⟩) ++ [⟨4, 0, m4, ⟨#[]⟩⟩]) ⟨5, 2, 0, m5⟩) ⟨6, 2, 0, m6⟩) ⟨7, 2, 0, m7⟩) ⟨8, 2, 0, m8⟩) = R) :
    Calls Try.prog 31 #[.agg #[.bool true, .string m2, .int .u64 m3, .int .u64 m4, .string m5, .string m6, .string m7, .string m8]] w fun e w' => ∃ A c, e = .returned (.slice A R.length c) ∧ w'.ownsRow w.heap.size 49 4 (.slice A R.length c) R.length (flc R) ∧ Below w.heap.size w w' := by
  have HR := Lib.hid hR
  clear hR
  obtain ⟨L, hL0⟩ : ∃ L : List Fld, [] = L := ⟨_, rfl⟩
  have hl : L.length = 0 := by rw [← hL0]; rfl
  have hown : (w.alloc (Obj.cells #[.bool true, .string m2, .int .u64 m3, .int .u64 m4, .string m5, .string m6, .string m7, .string m8] 24)).ownsRow w.heap.size 49 4 (.slice none 0 0) 0 (flc L) := by rw [← hL0]; exact World.ownsRow_nil _ _ _ _
  have HL0 := Lib.hid hL0
  clear hL0
  have hB := (Below.refl w.heap.size w).alloc (Nat.le_refl _) (Obj.cells #[.bool true, .string m2, .int .u64 m3, .int .u64 m4, .string m5, .string m6, .string m7, .string m8] 24)
  have hM : BoxM (w.alloc (Obj.cells #[.bool true, .string m2, .int .u64 m3, .int .u64 m4, .string m5, .string m6, .string m7, .string m8] 24)) w.heap.size ⟨true, m2, m3, m4, m5, m6, m7, m8⟩ := World.alloc_heap_new w _
  go_enter Try.func31, Try.ntmps31
  go_wp2_with (at_builtin; first
    | (refine wpList_appF1 rfl _ _ rfl rfl hown ⟨1, 0, 1, ⟨#[]⟩⟩ rfl (by simp) (by omega) hB.size ?_; intro A1 c1 W1 hown1 hg1; have hB1 := own_grown hB hown hB.size hg1; have hM1 := hM.row hown hg1; obtain ⟨L1, hL1⟩ : ∃ L', L ++ [⟨1, 0, 1, ⟨#[]⟩⟩] = L' := ⟨_, rfl⟩; have hl1 : L1.length = L.length + 1 := (congrArg List.length hL1).symm.trans List.length_append; rw [hL1] at hown1; have HL1 := Lib.hid hL1; obtain ⟨y10, y11, y12, y13, y14, y15, y16, y17⟩ := hM1.cells8; clear hg1 hL1 hown hB hM))
  have hn2 := hl1
  refine (rt_at hown1 2 m2 (by omega) hB1.size).mono ?_
  rintro e W2 ⟨A2, c2, N2, rfl, hN2, hown2, hb2⟩
  have hM2 := hM1.below hb2 hM1.lt
  have hB2 := bel_step hB1 hb2
  obtain ⟨y20, y21, y22, y23, y24, y25, y26, y27⟩ := hM2.cells8
  have hl2 := addF_len L1 ⟨2, 2, 0, m2⟩
  obtain ⟨L2, hL2⟩ : ∃ L', addF L1 ⟨2, 2, 0, m2⟩ = L' := ⟨_, rfl⟩
  rw [hL2] at hown2 hl2 hN2
  have HL2 := Lib.hid hL2
  clear hL2 hown1 hB1 hM1 hb2
  go_wp2_with (at_builtin; first
    | (refine wpList_appF1 rfl _ _ rfl rfl hown2 ⟨4, 0, m4, ⟨#[]⟩⟩ rfl (by simp) (by omega) hB2.size ?_; intro A3 c3 W3 hown3 hg3; have hB3 := own_grown hB2 hown2 hB2.size hg3; have hM3 := hM2.row hown2 hg3; obtain ⟨L3, hL3⟩ : ∃ L', L2 ++ [⟨4, 0, m4, ⟨#[]⟩⟩] = L' := ⟨_, rfl⟩; have hl3 : L3.length = L2.length + 1 := (congrArg List.length hL3).symm.trans List.length_append; rw [hL3] at hown3; have HL3 := Lib.hid hL3; obtain ⟨y30, y31, y32, y33, y34, y35, y36, y37⟩ := hM3.cells8; clear hg3 hL3 hown2 hB2 hM2))
  have hn4 := hl3
  refine (rt_at hown3 5 m5 (by omega) hB3.size).mono ?_
  rintro e W4 ⟨A4, c4, N4, rfl, hN4, hown4, hb4⟩
  have hM4 := hM3.below hb4 hM3.lt
  have hB4 := bel_step hB3 hb4
  obtain ⟨y40, y41, y42, y43, y44, y45, y46, y47⟩ := hM4.cells8
  have hl4 := addF_len L3 ⟨5, 2, 0, m5⟩
  obtain ⟨L4, hL4⟩ : ∃ L', addF L3 ⟨5, 2, 0, m5⟩ = L' := ⟨_, rfl⟩
  rw [hL4] at hown4 hl4 hN4
  have HL4 := Lib.hid hL4
  clear hL4 hown3 hB3 hM3 hb4
  go_wp2_with fail
  have hn5 := hl4
  refine (rt_at hown4 6 m6 (by omega) hB4.size).mono ?_
  rintro e W5 ⟨A5, c5, N5, rfl, hN5, hown5, hb5⟩
  have hM5 := hM4.below hb5 hM4.lt
  have hB5 := bel_step hB4 hb5
  obtain ⟨y50, y51, y52, y53, y54, y55, y56, y57⟩ := hM5.cells8
  have hl5 := addF_len L4 ⟨6, 2, 0, m6⟩
  obtain ⟨L5, hL5⟩ : ∃ L', addF L4 ⟨6, 2, 0, m6⟩ = L' := ⟨_, rfl⟩
  rw [hL5] at hown5 hl5 hN5
  have HL5 := Lib.hid hL5
  clear hL5 hown4 hB4 hM4 hb5
  go_wp2_with fail
  have hn6 := hl5
  refine (rt_at hown5 7 m7 (by omega) hB5.size).mono ?_
  rintro e W6 ⟨A6, c6, N6, rfl, hN6, hown6, hb6⟩
  have hM6 := hM5.below hb6 hM5.lt
  have hB6 := bel_step hB5 hb6
  obtain ⟨y60, y61, y62, y63, y64, y65, y66, y67⟩ := hM6.cells8
  have hl6 := addF_len L5 ⟨7, 2, 0, m7⟩
  obtain ⟨L6, hL6⟩ : ∃ L', addF L5 ⟨7, 2, 0, m7⟩ = L' := ⟨_, rfl⟩
  rw [hL6] at hown6 hl6 hN6
  have HL6 := Lib.hid hL6
  clear hL6 hown5 hB5 hM5 hb6
  go_wp2_with fail
  have hn7 := hl6
  refine (rt_at hown6 8 m8 (by omega) hB6.size).mono ?_
  rintro e W7 ⟨A7, c7, N7, rfl, hN7, hown7, hb7⟩
  have hM7 := hM6.below hb7 hM6.lt
  have hB7 := bel_step hB6 hb7
  obtain ⟨y70, y71, y72, y73, y74, y75, y76, y77⟩ := hM7.cells8
  have hl7 := addF_len L6 ⟨8, 2, 0, m8⟩
  obtain ⟨L7, hL7⟩ : ∃ L', addF L6 ⟨8, 2, 0, m8⟩ = L' := ⟨_, rfl⟩
  rw [hL7] at hown7 hl7 hN7
  have HL7 := Lib.hid hL7
  clear hL7 hown6 hB6 hM6 hb7
  go_wp2_with fail
  go_ret
  have e : L7 = R := by rw [← HR.out, ← HL7.out, ← HL6.out, ← HL5.out, ← HL4.out, ← HL3.out, ← HL2.out, ← HL1.out, ← HL0.out]
  subst e
  subst hN7
  exact ⟨A7, c7, rfl, hown7, hB7⟩
set_option maxHeartbeats 2000000 in
theorem rf110 (m2 : ByteArray) (m3 m4 : Nat) (m5 m6 m7 m8 : ByteArray) (h3 : ((m3 : Int) != 0) = true) (h4 : ((m4 : Int) != 0) = false) (w : World) (R : List Fld) (hR : (addF (addF (addF (addF ((addF ([] ++ [⟨1, 0, 1, ⟨#[]⟩⟩]) ⟨2, 2, 0, m2⟩) ++ [⟨3, 0, m3, ⟨#[]⟩⟩]) ⟨5, 2, 0, m5⟩) ⟨6, 2, 0, m6⟩) ⟨7, 2, 0, m7⟩) ⟨8, 2, 0, m8⟩) = R) :
    Calls Try.prog 31 #[.agg #[.bool true, .string m2, .int .u64 m3, .int .u64 m4, .string m5, .string m6, .string m7, .string m8]] w fun e w' => ∃ A c, e = .returned (.slice A R.length c) ∧ w'.ownsRow w.heap.size 49 4 (.slice A R.length c) R.length (flc R) ∧ Below w.heap.size w w' := by
  have HR := Lib.hid hR
  clear hR
  obtain ⟨L, hL0⟩ : ∃ L : List Fld, [] = L := ⟨_, rfl⟩
  have hl : L.length = 0 := by rw [← hL0]; rfl
  have hown : (w.alloc (Obj.cells #[.bool true, .string m2, .int .u64 m3, .int .u64 m4, .string m5, .string m6, .string m7, .string m8] 24)).ownsRow w.heap.size 49 4 (.slice none 0 0) 0 (flc L) := by rw [← hL0]; exact World.ownsRow_nil _ _ _ _
  have HL0 := Lib.hid hL0
  clear hL0
  have hB := (Below.refl w.heap.size w).alloc (Nat.le_refl _) (Obj.cells #[.bool true, .string m2, .int .u64 m3, .int .u64 m4, .string m5, .string m6, .string m7, .string m8] 24)
  have hM : BoxM (w.alloc (Obj.cells #[.bool true, .string m2, .int .u64 m3, .int .u64 m4, .string m5, .string m6, .string m7, .string m8] 24)) w.heap.size ⟨true, m2, m3, m4, m5, m6, m7, m8⟩ := World.alloc_heap_new w _
  go_enter Try.func31, Try.ntmps31
  go_wp2_with (at_builtin; first
    | (refine wpList_appF1 rfl _ _ rfl rfl hown ⟨1, 0, 1, ⟨#[]⟩⟩ rfl (by simp) (by omega) hB.size ?_; intro A1 c1 W1 hown1 hg1; have hB1 := own_grown hB hown hB.size hg1; have hM1 := hM.row hown hg1; obtain ⟨L1, hL1⟩ : ∃ L', L ++ [⟨1, 0, 1, ⟨#[]⟩⟩] = L' := ⟨_, rfl⟩; have hl1 : L1.length = L.length + 1 := (congrArg List.length hL1).symm.trans List.length_append; rw [hL1] at hown1; have HL1 := Lib.hid hL1; obtain ⟨y10, y11, y12, y13, y14, y15, y16, y17⟩ := hM1.cells8; clear hg1 hL1 hown hB hM))
  have hn2 := hl1
  refine (rt_at hown1 2 m2 (by omega) hB1.size).mono ?_
  rintro e W2 ⟨A2, c2, N2, rfl, hN2, hown2, hb2⟩
  have hM2 := hM1.below hb2 hM1.lt
  have hB2 := bel_step hB1 hb2
  obtain ⟨y20, y21, y22, y23, y24, y25, y26, y27⟩ := hM2.cells8
  have hl2 := addF_len L1 ⟨2, 2, 0, m2⟩
  obtain ⟨L2, hL2⟩ : ∃ L', addF L1 ⟨2, 2, 0, m2⟩ = L' := ⟨_, rfl⟩
  rw [hL2] at hown2 hl2 hN2
  have HL2 := Lib.hid hL2
  clear hL2 hown1 hB1 hM1 hb2
  go_wp2_with (at_builtin; first
    | (refine wpList_appF1 rfl _ _ rfl rfl hown2 ⟨3, 0, m3, ⟨#[]⟩⟩ rfl (by simp) (by omega) hB2.size ?_; intro A3 c3 W3 hown3 hg3; have hB3 := own_grown hB2 hown2 hB2.size hg3; have hM3 := hM2.row hown2 hg3; obtain ⟨L3, hL3⟩ : ∃ L', L2 ++ [⟨3, 0, m3, ⟨#[]⟩⟩] = L' := ⟨_, rfl⟩; have hl3 : L3.length = L2.length + 1 := (congrArg List.length hL3).symm.trans List.length_append; rw [hL3] at hown3; have HL3 := Lib.hid hL3; obtain ⟨y30, y31, y32, y33, y34, y35, y36, y37⟩ := hM3.cells8; clear hg3 hL3 hown2 hB2 hM2))
  have hn4 := hl3
  refine (rt_at hown3 5 m5 (by omega) hB3.size).mono ?_
  rintro e W4 ⟨A4, c4, N4, rfl, hN4, hown4, hb4⟩
  have hM4 := hM3.below hb4 hM3.lt
  have hB4 := bel_step hB3 hb4
  obtain ⟨y40, y41, y42, y43, y44, y45, y46, y47⟩ := hM4.cells8
  have hl4 := addF_len L3 ⟨5, 2, 0, m5⟩
  obtain ⟨L4, hL4⟩ : ∃ L', addF L3 ⟨5, 2, 0, m5⟩ = L' := ⟨_, rfl⟩
  rw [hL4] at hown4 hl4 hN4
  have HL4 := Lib.hid hL4
  clear hL4 hown3 hB3 hM3 hb4
  go_wp2_with fail
  have hn5 := hl4
  refine (rt_at hown4 6 m6 (by omega) hB4.size).mono ?_
  rintro e W5 ⟨A5, c5, N5, rfl, hN5, hown5, hb5⟩
  have hM5 := hM4.below hb5 hM4.lt
  have hB5 := bel_step hB4 hb5
  obtain ⟨y50, y51, y52, y53, y54, y55, y56, y57⟩ := hM5.cells8
  have hl5 := addF_len L4 ⟨6, 2, 0, m6⟩
  obtain ⟨L5, hL5⟩ : ∃ L', addF L4 ⟨6, 2, 0, m6⟩ = L' := ⟨_, rfl⟩
  rw [hL5] at hown5 hl5 hN5
  have HL5 := Lib.hid hL5
  clear hL5 hown4 hB4 hM4 hb5
  go_wp2_with fail
  have hn6 := hl5
  refine (rt_at hown5 7 m7 (by omega) hB5.size).mono ?_
  rintro e W6 ⟨A6, c6, N6, rfl, hN6, hown6, hb6⟩
  have hM6 := hM5.below hb6 hM5.lt
  have hB6 := bel_step hB5 hb6
  obtain ⟨y60, y61, y62, y63, y64, y65, y66, y67⟩ := hM6.cells8
  have hl6 := addF_len L5 ⟨7, 2, 0, m7⟩
  obtain ⟨L6, hL6⟩ : ∃ L', addF L5 ⟨7, 2, 0, m7⟩ = L' := ⟨_, rfl⟩
  rw [hL6] at hown6 hl6 hN6
  have HL6 := Lib.hid hL6
  clear hL6 hown5 hB5 hM5 hb6
  go_wp2_with fail
  have hn7 := hl6
  refine (rt_at hown6 8 m8 (by omega) hB6.size).mono ?_
  rintro e W7 ⟨A7, c7, N7, rfl, hN7, hown7, hb7⟩
  have hM7 := hM6.below hb7 hM6.lt
  have hB7 := bel_step hB6 hb7
  obtain ⟨y70, y71, y72, y73, y74, y75, y76, y77⟩ := hM7.cells8
  have hl7 := addF_len L6 ⟨8, 2, 0, m8⟩
  obtain ⟨L7, hL7⟩ : ∃ L', addF L6 ⟨8, 2, 0, m8⟩ = L' := ⟨_, rfl⟩
  rw [hL7] at hown7 hl7 hN7
  have HL7 := Lib.hid hL7
  clear hL7 hown6 hB6 hM6 hb7
  go_wp2_with fail
  go_ret
  have e : L7 = R := by rw [← HR.out, ← HL7.out, ← HL6.out, ← HL5.out, ← HL4.out, ← HL3.out, ← HL2.out, ← HL1.out, ← HL0.out]
  subst e
  subst hN7
  exact ⟨A7, c7, rfl, hown7, hB7⟩
set_option maxHeartbeats 2000000 in
theorem rf111 (m2 : ByteArray) (m3 m4 : Nat) (m5 m6 m7 m8 : ByteArray) (h3 : ((m3 : Int) != 0) = true) (h4 : ((m4 : Int) != 0) = true) (w : World) (R : List Fld) (hR : (addF (addF (addF (addF (((addF ([] ++ [⟨1, 0, 1, ⟨#[]⟩⟩]) ⟨2, 2, 0, m2⟩) ++ [⟨3, 0, m3, ⟨#[]⟩⟩]) ++ [⟨4, 0, m4, ⟨#[]⟩⟩]) ⟨5, 2, 0, m5⟩) ⟨6, 2, 0, m6⟩) ⟨7, 2, 0, m7⟩) ⟨8, 2, 0, m8⟩) = R) :
    Calls Try.prog 31 #[.agg #[.bool true, .string m2, .int .u64 m3, .int .u64 m4, .string m5, .string m6, .string m7, .string m8]] w fun e w' => ∃ A c, e = .returned (.slice A R.length c) ∧ w'.ownsRow w.heap.size 49 4 (.slice A R.length c) R.length (flc R) ∧ Below w.heap.size w w' := by
  have HR := Lib.hid hR
  clear hR
  obtain ⟨L, hL0⟩ : ∃ L : List Fld, [] = L := ⟨_, rfl⟩
  have hl : L.length = 0 := by rw [← hL0]; rfl
  have hown : (w.alloc (Obj.cells #[.bool true, .string m2, .int .u64 m3, .int .u64 m4, .string m5, .string m6, .string m7, .string m8] 24)).ownsRow w.heap.size 49 4 (.slice none 0 0) 0 (flc L) := by rw [← hL0]; exact World.ownsRow_nil _ _ _ _
  have HL0 := Lib.hid hL0
  clear hL0
  have hB := (Below.refl w.heap.size w).alloc (Nat.le_refl _) (Obj.cells #[.bool true, .string m2, .int .u64 m3, .int .u64 m4, .string m5, .string m6, .string m7, .string m8] 24)
  have hM : BoxM (w.alloc (Obj.cells #[.bool true, .string m2, .int .u64 m3, .int .u64 m4, .string m5, .string m6, .string m7, .string m8] 24)) w.heap.size ⟨true, m2, m3, m4, m5, m6, m7, m8⟩ := World.alloc_heap_new w _
  go_enter Try.func31, Try.ntmps31
  go_wp2_with (at_builtin; first
    | (refine wpList_appF1 rfl _ _ rfl rfl hown ⟨1, 0, 1, ⟨#[]⟩⟩ rfl (by simp) (by omega) hB.size ?_; intro A1 c1 W1 hown1 hg1; have hB1 := own_grown hB hown hB.size hg1; have hM1 := hM.row hown hg1; obtain ⟨L1, hL1⟩ : ∃ L', L ++ [⟨1, 0, 1, ⟨#[]⟩⟩] = L' := ⟨_, rfl⟩; have hl1 : L1.length = L.length + 1 := (congrArg List.length hL1).symm.trans List.length_append; rw [hL1] at hown1; have HL1 := Lib.hid hL1; obtain ⟨y10, y11, y12, y13, y14, y15, y16, y17⟩ := hM1.cells8; clear hg1 hL1 hown hB hM))
  have hn2 := hl1
  refine (rt_at hown1 2 m2 (by omega) hB1.size).mono ?_
  rintro e W2 ⟨A2, c2, N2, rfl, hN2, hown2, hb2⟩
  have hM2 := hM1.below hb2 hM1.lt
  have hB2 := bel_step hB1 hb2
  obtain ⟨y20, y21, y22, y23, y24, y25, y26, y27⟩ := hM2.cells8
  have hl2 := addF_len L1 ⟨2, 2, 0, m2⟩
  obtain ⟨L2, hL2⟩ : ∃ L', addF L1 ⟨2, 2, 0, m2⟩ = L' := ⟨_, rfl⟩
  rw [hL2] at hown2 hl2 hN2
  have HL2 := Lib.hid hL2
  clear hL2 hown1 hB1 hM1 hb2
  go_wp2_with (at_builtin; first
    | (refine wpList_appF1 rfl _ _ rfl rfl hown2 ⟨3, 0, m3, ⟨#[]⟩⟩ rfl (by simp) (by omega) hB2.size ?_; intro A3 c3 W3 hown3 hg3; have hB3 := own_grown hB2 hown2 hB2.size hg3; have hM3 := hM2.row hown2 hg3; obtain ⟨L3, hL3⟩ : ∃ L', L2 ++ [⟨3, 0, m3, ⟨#[]⟩⟩] = L' := ⟨_, rfl⟩; have hl3 : L3.length = L2.length + 1 := (congrArg List.length hL3).symm.trans List.length_append; rw [hL3] at hown3; have HL3 := Lib.hid hL3; obtain ⟨y30, y31, y32, y33, y34, y35, y36, y37⟩ := hM3.cells8; clear hg3 hL3 hown2 hB2 hM2)
    | (refine wpList_appF1 rfl _ _ rfl rfl hown3 ⟨4, 0, m4, ⟨#[]⟩⟩ rfl (by simp) (by omega) hB3.size ?_; intro A4 c4 W4 hown4 hg4; have hB4 := own_grown hB3 hown3 hB3.size hg4; have hM4 := hM3.row hown3 hg4; obtain ⟨L4, hL4⟩ : ∃ L', L3 ++ [⟨4, 0, m4, ⟨#[]⟩⟩] = L' := ⟨_, rfl⟩; have hl4 : L4.length = L3.length + 1 := (congrArg List.length hL4).symm.trans List.length_append; rw [hL4] at hown4; have HL4 := Lib.hid hL4; obtain ⟨y40, y41, y42, y43, y44, y45, y46, y47⟩ := hM4.cells8; clear hg4 hL4 hown3 hB3 hM3))
  have hn5 := hl4
  refine (rt_at hown4 5 m5 (by omega) hB4.size).mono ?_
  rintro e W5 ⟨A5, c5, N5, rfl, hN5, hown5, hb5⟩
  have hM5 := hM4.below hb5 hM4.lt
  have hB5 := bel_step hB4 hb5
  obtain ⟨y50, y51, y52, y53, y54, y55, y56, y57⟩ := hM5.cells8
  have hl5 := addF_len L4 ⟨5, 2, 0, m5⟩
  obtain ⟨L5, hL5⟩ : ∃ L', addF L4 ⟨5, 2, 0, m5⟩ = L' := ⟨_, rfl⟩
  rw [hL5] at hown5 hl5 hN5
  have HL5 := Lib.hid hL5
  clear hL5 hown4 hB4 hM4 hb5
  go_wp2_with fail
  have hn6 := hl5
  refine (rt_at hown5 6 m6 (by omega) hB5.size).mono ?_
  rintro e W6 ⟨A6, c6, N6, rfl, hN6, hown6, hb6⟩
  have hM6 := hM5.below hb6 hM5.lt
  have hB6 := bel_step hB5 hb6
  obtain ⟨y60, y61, y62, y63, y64, y65, y66, y67⟩ := hM6.cells8
  have hl6 := addF_len L5 ⟨6, 2, 0, m6⟩
  obtain ⟨L6, hL6⟩ : ∃ L', addF L5 ⟨6, 2, 0, m6⟩ = L' := ⟨_, rfl⟩
  rw [hL6] at hown6 hl6 hN6
  have HL6 := Lib.hid hL6
  clear hL6 hown5 hB5 hM5 hb6
  go_wp2_with fail
  have hn7 := hl6
  refine (rt_at hown6 7 m7 (by omega) hB6.size).mono ?_
  rintro e W7 ⟨A7, c7, N7, rfl, hN7, hown7, hb7⟩
  have hM7 := hM6.below hb7 hM6.lt
  have hB7 := bel_step hB6 hb7
  obtain ⟨y70, y71, y72, y73, y74, y75, y76, y77⟩ := hM7.cells8
  have hl7 := addF_len L6 ⟨7, 2, 0, m7⟩
  obtain ⟨L7, hL7⟩ : ∃ L', addF L6 ⟨7, 2, 0, m7⟩ = L' := ⟨_, rfl⟩
  rw [hL7] at hown7 hl7 hN7
  have HL7 := Lib.hid hL7
  clear hL7 hown6 hB6 hM6 hb7
  go_wp2_with fail
  have hn8 := hl7
  refine (rt_at hown7 8 m8 (by omega) hB7.size).mono ?_
  rintro e W8 ⟨A8, c8, N8, rfl, hN8, hown8, hb8⟩
  have hM8 := hM7.below hb8 hM7.lt
  have hB8 := bel_step hB7 hb8
  obtain ⟨y80, y81, y82, y83, y84, y85, y86, y87⟩ := hM8.cells8
  have hl8 := addF_len L7 ⟨8, 2, 0, m8⟩
  obtain ⟨L8, hL8⟩ : ∃ L', addF L7 ⟨8, 2, 0, m8⟩ = L' := ⟨_, rfl⟩
  rw [hL8] at hown8 hl8 hN8
  have HL8 := Lib.hid hL8
  clear hL8 hown7 hB7 hM7 hb8
  go_wp2_with fail
  go_ret
  have e : L8 = R := by rw [← HR.out, ← HL8.out, ← HL7.out, ← HL6.out, ← HL5.out, ← HL4.out, ← HL3.out, ← HL2.out, ← HL1.out, ← HL0.out]
  subst e
  subst hN8
  exact ⟨A8, c8, rfl, hown8, hB8⟩
theorem rfields_any (m : MM) (w : World) :
    Calls Try.prog 31 #[.agg m.cells] w fun e w' => ∃ A c, e = .returned (.slice A (mfields m).length c) ∧ w'.ownsRow w.heap.size 49 4 (.slice A (mfields m).length c) (mfields m).length (flc (mfields m)) ∧ Below w.heap.size w w' := by
  have hR := (mfields_fold m).symm
  generalize mfields m = R at *
  obtain ⟨m1, m2, m3, m4, m5, m6, m7, m8⟩ := m
  simp only [mall, List.foldl_cons, List.foldl_nil] at hR
  have hE : (ByteArray.mk #[]).toList = [] := by decide +kernel
  have e0 : addF [] ⟨1, 0, 0, ⟨#[]⟩⟩ = [] := by unfold addF; simp [fhas, hE]
  have e1 : addF [] ⟨1, 0, 1, ⟨#[]⟩⟩ = [] ++ [⟨1, 0, 1, ⟨#[]⟩⟩] := by unfold addF; simp [fhas]
  have e3 : ∀ (L : List Fld) (k : Int) (n : Nat), ((n : Int) != 0) = false → addF L ⟨k, 0, n, ⟨#[]⟩⟩ = L := by intro L k n h; unfold addF fhas; rw [h]; simp [hE]
  have e4 : ∀ (L : List Fld) (k : Int) (n : Nat), ((n : Int) != 0) = true → addF L ⟨k, 0, n, ⟨#[]⟩⟩ = L ++ [⟨k, 0, n, ⟨#[]⟩⟩] := by intro L k n h; unfold addF fhas; rw [h]; simp
  cases m1 <;> cases h3 : ((m3 : Int) != 0) <;> cases h4 : ((m4 : Int) != 0)
  all_goals simp only [Bool.false_eq_true, if_false, if_true, e0, e1] at hR
  · rw [e3 _ _ _ h3, e3 _ _ _ h4] at hR; exact rf000 m2 m3 m4 m5 m6 m7 m8 h3 h4 w R hR
  · rw [e3 _ _ _ h3, e4 _ _ _ h4] at hR; exact rf001 m2 m3 m4 m5 m6 m7 m8 h3 h4 w R hR
  · rw [e4 _ _ _ h3, e3 _ _ _ h4] at hR; exact rf010 m2 m3 m4 m5 m6 m7 m8 h3 h4 w R hR
  · rw [e4 _ _ _ h3, e4 _ _ _ h4] at hR; exact rf011 m2 m3 m4 m5 m6 m7 m8 h3 h4 w R hR
  · rw [e3 _ _ _ h3, e3 _ _ _ h4] at hR; exact rf100 m2 m3 m4 m5 m6 m7 m8 h3 h4 w R hR
  · rw [e3 _ _ _ h3, e4 _ _ _ h4] at hR; exact rf101 m2 m3 m4 m5 m6 m7 m8 h3 h4 w R hR
  · rw [e4 _ _ _ h3, e3 _ _ _ h4] at hR; exact rf110 m2 m3 m4 m5 m6 m7 m8 h3 h4 w R hR
  · rw [e4 _ _ _ h3, e4 _ _ _ h4] at hR; exact rf111 m2 m3 m4 m5 m6 m7 m8 h3 h4 w R hR
end Go.Proofs.Ytkanhggmhjldmaa

/- WALK: the reference's Put and Joined of layer 6 -/
namespace Go.Proofs.Ytkanhggmhjldmaa
open Go.RowKit Plain

theorem rmput_any (m : MM) (hm : MOk m) (w : World) : Calls Try.prog 13 #[.agg m.cells] w (PutsPost (mfields m) w) := by
  have hlen := mfields_len m
  have hok := mfields_ok hm
  obtain ⟨m1, m2, m3, m4, m5, m6, m7, m8⟩ := m
  unfold MM.cells
  go_enter Try.func13, Try.ntmps13
  go_wp2_with fail
  refine (rfields_any ⟨m1, m2, m3, m4, m5, m6, m7, m8⟩ _).mono ?_
  rintro e w1 ⟨A, c, rfl, hown, hB⟩
  go_wp2_with fail
  refine (rputs_any _ A c (by omega) hok w1 (Rd.of_own hown)).mono ?_
  rintro e w2 ⟨A2, c2, rfl, ho2, hB2⟩
  go_wp2_with fail
  go_ret2
  have hB0 : Below w.heap.size w w1 := ((Below.refl _ w).alloc (Nat.le_refl _) _).trans (hB.mono (by simp))
  exact ⟨A2, c2, rfl, own_base ho2 hB0.size, bel_step hB0 hB2⟩
theorem later_any (a b : ByteArray) (w : World) : Calls Try.prog 33 #[.string a, .string b] w fun e w' => e = .returned (.string (mpick a b)) ∧ w = w' := by
  unfold mpick
  cases h : b.toList.isEmpty
  all_goals go_enter Try.func33, Try.ntmps33
  all_goals go_wp2
  all_goals go_ret
  all_goals exact ⟨rfl, rfl⟩
theorem number6_any (a b : Nat) (w : World) : Calls Try.prog 34 #[.int .u64 a, .int .u64 b] w fun e w' => e = .returned (.int .u64 (npick a b : Nat)) ∧ w = w' := by
  unfold npick
  by_cases h : b = 0
  · subst h
    go_enter Try.func34, Try.ntmps34
    go_wp2
    go_ret
    exact ⟨rfl, rfl⟩
  · have hb : ((b : Int) != 0) = true := by simp; omega
    rw [if_neg h]
    clear h
    go_enter Try.func34, Try.ntmps34
    go_wp2
    go_ret
    exact ⟨rfl, rfl⟩
theorem grown_set (W : World) (R i : Nat) (v : Value) : W.grownBy (W.setCell ⟨R, i, none⟩ v) (some R) := by
  have h := (Below.refl 0 W).setCell (p := ⟨R, i, none⟩) (Nat.zero_le _) v
  exact ⟨h.os, h.tape, h.output, h.size, fun k _ hne => heap_setCell_other _ _ k _ (fun e => hne (by rw [e]))⟩
def besides (R : Nat) : Rel := ⟨fun w w' => w.grownBy w' (some R), fun w => World.grownBy.refl w _, fun h k => h.trans k⟩
set_option maxRecDepth 100000 in
set_option maxHeartbeats 4000000 in
theorem rmjoined_any (a b : MM) (w : World) : Calls Try.prog 15 #[.agg a.cells, .agg b.cells] w fun e w' => e = .returned (.agg (mjoin a b).cells) ∧ Below w.heap.size w w' := by
  obtain ⟨a1, a2, a3, a4, a5, a6, a7, a8⟩ := a
  obtain ⟨b1, b2, b3, b4, b5, b6, b7, b8⟩ := b
  unfold mjoin MM.cells
  cases a1
  all_goals go_enter Try.func15, Try.ntmps15
  all_goals go_wp2_with fail
  · generalize hW0 : ((w.alloc (Obj.cells #[.bool false, .string a2, .int .u64 a3, .int .u64 a4, .string a5, .string a6, .string a7, .string a8] 24)).alloc (Obj.cells #[.bool b1, .string b2, .int .u64 b3, .int .u64 b4, .string b5, .string b6, .string b7, .string b8] 24)).alloc (Obj.cells #[.bool false, .string ⟨#[]⟩, .int .u64 0, .int .u64 0, .string ⟨#[]⟩, .string ⟨#[]⟩, .string ⟨#[]⟩, .string ⟨#[]⟩] 24) = W0
    have hA : W0.heap[w.heap.size]? = some (.cells #[.bool false, .string a2, .int .u64 a3, .int .u64 a4, .string a5, .string a6, .string a7, .string a8] 24 (0, 0)) := by rw [← hW0, Below.heap_alloc _ _ _ (by simp; omega), Below.heap_alloc _ _ _ (by simp)]; exact World.alloc_heap_new w _
    have hBb : W0.heap[w.heap.size + 1]? = some (.cells #[.bool b1, .string b2, .int .u64 b3, .int .u64 b4, .string b5, .string b6, .string b7, .string b8] 24 (0, 0)) := by rw [← hW0, Below.heap_alloc _ _ _ (by simp)]; have := World.alloc_heap_new (w.alloc (Obj.cells #[.bool false, .string a2, .int .u64 a3, .int .u64 a4, .string a5, .string a6, .string a7, .string a8] 24)) (Obj.cells #[.bool b1, .string b2, .int .u64 b3, .int .u64 b4, .string b5, .string b6, .string b7, .string b8] 24); rw [World.size_alloc] at this; exact this
    have hC : W0.heap[w.heap.size + 1 + 1]? = some (.cells #[.bool false, .string ⟨#[]⟩, .int .u64 0, .int .u64 0, .string ⟨#[]⟩, .string ⟨#[]⟩, .string ⟨#[]⟩, .string ⟨#[]⟩] 24 (0, 0)) := by rw [← hW0]; have := World.alloc_heap_new ((w.alloc (Obj.cells #[.bool false, .string a2, .int .u64 a3, .int .u64 a4, .string a5, .string a6, .string a7, .string a8] 24)).alloc (Obj.cells #[.bool b1, .string b2, .int .u64 b3, .int .u64 b4, .string b5, .string b6, .string b7, .string b8] 24)) (Obj.cells #[.bool false, .string ⟨#[]⟩, .int .u64 0, .int .u64 0, .string ⟨#[]⟩, .string ⟨#[]⟩, .string ⟨#[]⟩, .string ⟨#[]⟩] 24); simp only [World.size_alloc] at this; exact this
    have hW : Below w.heap.size w W0 := by rw [← hW0]; exact ((((Below.refl _ w).alloc (Nat.le_refl _) _).alloc (by simp) _).alloc (by simp; omega) _)
    have hZ : W0.heap.size = w.heap.size + 3 := by rw [← hW0]; simp
    clear hW0
    have ca0 : ∀ u, W0.drew.grownBy u (some (w.heap.size + 1 + 1)) → u.cell? ⟨w.heap.size, 0, none⟩ = some (.bool false) := fun u hu => by have := (hu.block w.heap.size (by show _ < W0.heap.size; omega) (fun e => by have := Option.some.inj e; omega)).trans hA; simp [World.cell?, this]
    have ca1 : ∀ u, W0.drew.grownBy u (some (w.heap.size + 1 + 1)) → u.cell? ⟨w.heap.size, 1, none⟩ = some (.string a2) := fun u hu => by have := (hu.block w.heap.size (by show _ < W0.heap.size; omega) (fun e => by have := Option.some.inj e; omega)).trans hA; simp [World.cell?, this]
    have ca2 : ∀ u, W0.drew.grownBy u (some (w.heap.size + 1 + 1)) → u.cell? ⟨w.heap.size, 2, none⟩ = some (.int .u64 a3) := fun u hu => by have := (hu.block w.heap.size (by show _ < W0.heap.size; omega) (fun e => by have := Option.some.inj e; omega)).trans hA; simp [World.cell?, this]
    have ca3 : ∀ u, W0.drew.grownBy u (some (w.heap.size + 1 + 1)) → u.cell? ⟨w.heap.size, 3, none⟩ = some (.int .u64 a4) := fun u hu => by have := (hu.block w.heap.size (by show _ < W0.heap.size; omega) (fun e => by have := Option.some.inj e; omega)).trans hA; simp [World.cell?, this]
    have ca4 : ∀ u, W0.drew.grownBy u (some (w.heap.size + 1 + 1)) → u.cell? ⟨w.heap.size, 4, none⟩ = some (.string a5) := fun u hu => by have := (hu.block w.heap.size (by show _ < W0.heap.size; omega) (fun e => by have := Option.some.inj e; omega)).trans hA; simp [World.cell?, this]
    have ca5 : ∀ u, W0.drew.grownBy u (some (w.heap.size + 1 + 1)) → u.cell? ⟨w.heap.size, 5, none⟩ = some (.string a6) := fun u hu => by have := (hu.block w.heap.size (by show _ < W0.heap.size; omega) (fun e => by have := Option.some.inj e; omega)).trans hA; simp [World.cell?, this]
    have ca6 : ∀ u, W0.drew.grownBy u (some (w.heap.size + 1 + 1)) → u.cell? ⟨w.heap.size, 6, none⟩ = some (.string a7) := fun u hu => by have := (hu.block w.heap.size (by show _ < W0.heap.size; omega) (fun e => by have := Option.some.inj e; omega)).trans hA; simp [World.cell?, this]
    have ca7 : ∀ u, W0.drew.grownBy u (some (w.heap.size + 1 + 1)) → u.cell? ⟨w.heap.size, 7, none⟩ = some (.string a8) := fun u hu => by have := (hu.block w.heap.size (by show _ < W0.heap.size; omega) (fun e => by have := Option.some.inj e; omega)).trans hA; simp [World.cell?, this]
    have cb0 : ∀ u, W0.drew.grownBy u (some (w.heap.size + 1 + 1)) → u.cell? ⟨w.heap.size + 1, 0, none⟩ = some (.bool b1) := fun u hu => by have := (hu.block (w.heap.size + 1) (by show _ < W0.heap.size; omega) (fun e => by have := Option.some.inj e; omega)).trans hBb; simp [World.cell?, this]
    have cb1 : ∀ u, W0.drew.grownBy u (some (w.heap.size + 1 + 1)) → u.cell? ⟨w.heap.size + 1, 1, none⟩ = some (.string b2) := fun u hu => by have := (hu.block (w.heap.size + 1) (by show _ < W0.heap.size; omega) (fun e => by have := Option.some.inj e; omega)).trans hBb; simp [World.cell?, this]
    have cb2 : ∀ u, W0.drew.grownBy u (some (w.heap.size + 1 + 1)) → u.cell? ⟨w.heap.size + 1, 2, none⟩ = some (.int .u64 b3) := fun u hu => by have := (hu.block (w.heap.size + 1) (by show _ < W0.heap.size; omega) (fun e => by have := Option.some.inj e; omega)).trans hBb; simp [World.cell?, this]
    have cb3 : ∀ u, W0.drew.grownBy u (some (w.heap.size + 1 + 1)) → u.cell? ⟨w.heap.size + 1, 3, none⟩ = some (.int .u64 b4) := fun u hu => by have := (hu.block (w.heap.size + 1) (by show _ < W0.heap.size; omega) (fun e => by have := Option.some.inj e; omega)).trans hBb; simp [World.cell?, this]
    have cb4 : ∀ u, W0.drew.grownBy u (some (w.heap.size + 1 + 1)) → u.cell? ⟨w.heap.size + 1, 4, none⟩ = some (.string b5) := fun u hu => by have := (hu.block (w.heap.size + 1) (by show _ < W0.heap.size; omega) (fun e => by have := Option.some.inj e; omega)).trans hBb; simp [World.cell?, this]
    have cb5 : ∀ u, W0.drew.grownBy u (some (w.heap.size + 1 + 1)) → u.cell? ⟨w.heap.size + 1, 5, none⟩ = some (.string b6) := fun u hu => by have := (hu.block (w.heap.size + 1) (by show _ < W0.heap.size; omega) (fun e => by have := Option.some.inj e; omega)).trans hBb; simp [World.cell?, this]
    have cb6 : ∀ u, W0.drew.grownBy u (some (w.heap.size + 1 + 1)) → u.cell? ⟨w.heap.size + 1, 6, none⟩ = some (.string b7) := fun u hu => by have := (hu.block (w.heap.size + 1) (by show _ < W0.heap.size; omega) (fun e => by have := Option.some.inj e; omega)).trans hBb; simp [World.cell?, this]
    have cb7 : ∀ u, W0.drew.grownBy u (some (w.heap.size + 1 + 1)) → u.cell? ⟨w.heap.size + 1, 7, none⟩ = some (.string b8) := fun u hu => by have := (hu.block (w.heap.size + 1) (by show _ < W0.heap.size; omega) (fun e => by have := Option.some.inj e; omega)).trans hBb; simp [World.cell?, this]
    have cc0 : W0.drew.cell? ⟨w.heap.size + 1 + 1, 0, none⟩ = some (.bool false) := by have : W0.drew.heap[w.heap.size + 1 + 1]? = _ := hC; simp [World.cell?, this]
    have cc1 : W0.drew.cell? ⟨w.heap.size + 1 + 1, 1, none⟩ = some (.string ⟨#[]⟩) := by have : W0.drew.heap[w.heap.size + 1 + 1]? = _ := hC; simp [World.cell?, this]
    have cc2 : W0.drew.cell? ⟨w.heap.size + 1 + 1, 2, none⟩ = some (.int .u64 0) := by have : W0.drew.heap[w.heap.size + 1 + 1]? = _ := hC; simp [World.cell?, this]
    have cc3 : W0.drew.cell? ⟨w.heap.size + 1 + 1, 3, none⟩ = some (.int .u64 0) := by have : W0.drew.heap[w.heap.size + 1 + 1]? = _ := hC; simp [World.cell?, this]
    have cc4 : W0.drew.cell? ⟨w.heap.size + 1 + 1, 4, none⟩ = some (.string ⟨#[]⟩) := by have : W0.drew.heap[w.heap.size + 1 + 1]? = _ := hC; simp [World.cell?, this]
    have cc5 : W0.drew.cell? ⟨w.heap.size + 1 + 1, 5, none⟩ = some (.string ⟨#[]⟩) := by have : W0.drew.heap[w.heap.size + 1 + 1]? = _ := hC; simp [World.cell?, this]
    have cc6 : W0.drew.cell? ⟨w.heap.size + 1 + 1, 6, none⟩ = some (.string ⟨#[]⟩) := by have : W0.drew.heap[w.heap.size + 1 + 1]? = _ := hC; simp [World.cell?, this]
    have cc7 : W0.drew.cell? ⟨w.heap.size + 1 + 1, 7, none⟩ = some (.string ⟨#[]⟩) := by have : W0.drew.heap[w.heap.size + 1 + 1]? = _ := hC; simp [World.cell?, this]
    have cf0 : W0.drew.frozen? ⟨w.heap.size + 1 + 1, 0, none⟩ = false := by have : W0.drew.heap[w.heap.size + 1 + 1]? = _ := hC; simp [World.frozen?, this]
    have cf1 : W0.drew.frozen? ⟨w.heap.size + 1 + 1, 1, none⟩ = false := by have : W0.drew.heap[w.heap.size + 1 + 1]? = _ := hC; simp [World.frozen?, this]
    have cf2 : W0.drew.frozen? ⟨w.heap.size + 1 + 1, 2, none⟩ = false := by have : W0.drew.heap[w.heap.size + 1 + 1]? = _ := hC; simp [World.frozen?, this]
    have cf3 : W0.drew.frozen? ⟨w.heap.size + 1 + 1, 3, none⟩ = false := by have : W0.drew.heap[w.heap.size + 1 + 1]? = _ := hC; simp [World.frozen?, this]
    have cf4 : W0.drew.frozen? ⟨w.heap.size + 1 + 1, 4, none⟩ = false := by have : W0.drew.heap[w.heap.size + 1 + 1]? = _ := hC; simp [World.frozen?, this]
    have cf5 : W0.drew.frozen? ⟨w.heap.size + 1 + 1, 5, none⟩ = false := by have : W0.drew.heap[w.heap.size + 1 + 1]? = _ := hC; simp [World.frozen?, this]
    have cf6 : W0.drew.frozen? ⟨w.heap.size + 1 + 1, 6, none⟩ = false := by have : W0.drew.heap[w.heap.size + 1 + 1]? = _ := hC; simp [World.frozen?, this]
    have cf7 : W0.drew.frozen? ⟨w.heap.size + 1 + 1, 7, none⟩ = false := by have : W0.drew.heap[w.heap.size + 1 + 1]? = _ := hC; simp [World.frozen?, this]
    refine wp_region_LG (besides (w.heap.size + 1 + 1)) 43 [0, 1, 2, 3, 4, 5, 6, 7, 8, 9, 11, 12, 13, 14, 16, 17, 18, 19, 21, 22, 23, 24, 26, 27, 28, 29, 31, 32, 33, 34, 36, 37, 38, 39, 10, 15, 20, 25, 30, 35, 40, 41, 42] rfl (by decide) (by decide) (by kernel_rfl) ?_
    simp only [List.filterMap_cons, List.filterMap_nil, List.getElem?_cons_zero, List.getElem?_cons_succ, Option.map_some]
    have hW1 : Below w.heap.size w W0.drew := hW.drew
    have hZ1 : W0.drew.heap.size = w.heap.size + 3 := hZ
    have hA1 : W0.drew.heap[w.heap.size + 1 + 1]? = _ := hC
    clear hW hZ hA hBb hC
    generalize W0.drew = W1 at *
    iterate 34 (first
    | (refine wpL_takeG _ (v := ?_) (by kernel_rfl) (by kernel_rfl) (by kernel_rfl) (fun _ _ _ h => h) (by rfl) (fun u hu => ?_) ?_
       rotate_left
       focus
         replace hu : W1.grownBy u (some (w.heap.size + 1 + 1)) := hu
         go_simp
         try with_reducible rfl
       simp only [Act.put, List.setIfInBounds_toArray, List.set_cons_zero, List.set_cons_succ])
    | (refine wpL_passG _ (by kernel_rfl) (by kernel_rfl) (by kernel_rfl) (fun _ _ _ h => h) (by rfl) ?_; simp only [Act.put, List.setIfInBounds_toArray, List.set_cons_zero, List.set_cons_succ]))
    iterate 7 (first
    | (refine wpL_doG _ (by kernel_rfl) (by rfl) (fun K hK => ?_); go_simp; go_at_call 33; refine (later_any _ _ _).mono ?_; rintro e w1 ⟨rfl, rfl⟩; refine hK _ _ ((besides _).rf _) ?_; clear hK K)
    | (refine wpL_doG _ (by kernel_rfl) (by rfl) (fun K hK => ?_); go_simp; go_at_call 34; refine (number6_any _ _ _).mono ?_; rintro e w1 ⟨rfl, rfl⟩; refine hK _ _ ((besides _).rf _) ?_; clear hK K))
    iterate 1 (first
    | (refine wpL_takeG _ (v := ?_) (by kernel_rfl) (by kernel_rfl) (by kernel_rfl) (fun _ _ _ h => h) (by rfl) (fun u hu => ?_) ?_
       rotate_left
       focus
         replace hu : W1.grownBy u (some (w.heap.size + 1 + 1)) := hu
         go_simp
         try with_reducible rfl
       simp only [Act.put, List.setIfInBounds_toArray, List.set_cons_zero, List.set_cons_succ]))
    refine wpL_doG _ (by kernel_rfl) (by rfl) (fun K hK => ?_)
    go_simp
    refine hK _ _ ?_ ?_
    · exact ((((((((grown_set W1 _ 0 _).trans (grown_set _ _ 1 _)).trans (grown_set _ _ 2 _)).trans (grown_set _ _ 3 _)).trans (grown_set _ _ 4 _)).trans (grown_set _ _ 5 _)).trans (grown_set _ _ 6 _)).trans (grown_set _ _ 7 _))
    · refine wpL_doneG _ (by kernel_rfl) ?_
      clear hK K
      go_wp2_with fail
      (try simp only [Exit.inBlock, Exit.then])
      refine bodyPost_ret (v := .agg #[.bool b1, .string (mpick a2 b2), .int .u64 (npick a3 b3), .int .u64 (npick a4 b4), .string (mpick a5 b5), .string (mpick a6 b6), .string (mpick a7 b7), .string (mpick a8 b8)]) ?_ rfl ⟨rfl, ?_⟩
      · rw [results_cell rfl]; go_simp
      · exact (((((((hW1.setCell (by show w.heap.size ≤ w.heap.size + 1 + 1; omega) _).setCell (by show w.heap.size ≤ w.heap.size + 1 + 1; omega) _).setCell (by show w.heap.size ≤ w.heap.size + 1 + 1; omega) _).setCell (by show w.heap.size ≤ w.heap.size + 1 + 1; omega) _).setCell (by show w.heap.size ≤ w.heap.size + 1 + 1; omega) _).setCell (by show w.heap.size ≤ w.heap.size + 1 + 1; omega) _).setCell (by show w.heap.size ≤ w.heap.size + 1 + 1; omega) _).setCell (by show w.heap.size ≤ w.heap.size + 1 + 1; omega) _
  · generalize hW0 : ((w.alloc (Obj.cells #[.bool true, .string a2, .int .u64 a3, .int .u64 a4, .string a5, .string a6, .string a7, .string a8] 24)).alloc (Obj.cells #[.bool b1, .string b2, .int .u64 b3, .int .u64 b4, .string b5, .string b6, .string b7, .string b8] 24)).alloc (Obj.cells #[.bool false, .string ⟨#[]⟩, .int .u64 0, .int .u64 0, .string ⟨#[]⟩, .string ⟨#[]⟩, .string ⟨#[]⟩, .string ⟨#[]⟩] 24) = W0
    have hA : W0.heap[w.heap.size]? = some (.cells #[.bool true, .string a2, .int .u64 a3, .int .u64 a4, .string a5, .string a6, .string a7, .string a8] 24 (0, 0)) := by rw [← hW0, Below.heap_alloc _ _ _ (by simp; omega), Below.heap_alloc _ _ _ (by simp)]; exact World.alloc_heap_new w _
    have hBb : W0.heap[w.heap.size + 1]? = some (.cells #[.bool b1, .string b2, .int .u64 b3, .int .u64 b4, .string b5, .string b6, .string b7, .string b8] 24 (0, 0)) := by rw [← hW0, Below.heap_alloc _ _ _ (by simp)]; have := World.alloc_heap_new (w.alloc (Obj.cells #[.bool true, .string a2, .int .u64 a3, .int .u64 a4, .string a5, .string a6, .string a7, .string a8] 24)) (Obj.cells #[.bool b1, .string b2, .int .u64 b3, .int .u64 b4, .string b5, .string b6, .string b7, .string b8] 24); rw [World.size_alloc] at this; exact this
    have hC : W0.heap[w.heap.size + 1 + 1]? = some (.cells #[.bool false, .string ⟨#[]⟩, .int .u64 0, .int .u64 0, .string ⟨#[]⟩, .string ⟨#[]⟩, .string ⟨#[]⟩, .string ⟨#[]⟩] 24 (0, 0)) := by rw [← hW0]; have := World.alloc_heap_new ((w.alloc (Obj.cells #[.bool true, .string a2, .int .u64 a3, .int .u64 a4, .string a5, .string a6, .string a7, .string a8] 24)).alloc (Obj.cells #[.bool b1, .string b2, .int .u64 b3, .int .u64 b4, .string b5, .string b6, .string b7, .string b8] 24)) (Obj.cells #[.bool false, .string ⟨#[]⟩, .int .u64 0, .int .u64 0, .string ⟨#[]⟩, .string ⟨#[]⟩, .string ⟨#[]⟩, .string ⟨#[]⟩] 24); simp only [World.size_alloc] at this; exact this
    have hW : Below w.heap.size w W0 := by rw [← hW0]; exact ((((Below.refl _ w).alloc (Nat.le_refl _) _).alloc (by simp) _).alloc (by simp; omega) _)
    have hZ : W0.heap.size = w.heap.size + 3 := by rw [← hW0]; simp
    clear hW0
    have ca0 : ∀ u, W0.drew.grownBy u (some (w.heap.size + 1 + 1)) → u.cell? ⟨w.heap.size, 0, none⟩ = some (.bool true) := fun u hu => by have := (hu.block w.heap.size (by show _ < W0.heap.size; omega) (fun e => by have := Option.some.inj e; omega)).trans hA; simp [World.cell?, this]
    have ca1 : ∀ u, W0.drew.grownBy u (some (w.heap.size + 1 + 1)) → u.cell? ⟨w.heap.size, 1, none⟩ = some (.string a2) := fun u hu => by have := (hu.block w.heap.size (by show _ < W0.heap.size; omega) (fun e => by have := Option.some.inj e; omega)).trans hA; simp [World.cell?, this]
    have ca2 : ∀ u, W0.drew.grownBy u (some (w.heap.size + 1 + 1)) → u.cell? ⟨w.heap.size, 2, none⟩ = some (.int .u64 a3) := fun u hu => by have := (hu.block w.heap.size (by show _ < W0.heap.size; omega) (fun e => by have := Option.some.inj e; omega)).trans hA; simp [World.cell?, this]
    have ca3 : ∀ u, W0.drew.grownBy u (some (w.heap.size + 1 + 1)) → u.cell? ⟨w.heap.size, 3, none⟩ = some (.int .u64 a4) := fun u hu => by have := (hu.block w.heap.size (by show _ < W0.heap.size; omega) (fun e => by have := Option.some.inj e; omega)).trans hA; simp [World.cell?, this]
    have ca4 : ∀ u, W0.drew.grownBy u (some (w.heap.size + 1 + 1)) → u.cell? ⟨w.heap.size, 4, none⟩ = some (.string a5) := fun u hu => by have := (hu.block w.heap.size (by show _ < W0.heap.size; omega) (fun e => by have := Option.some.inj e; omega)).trans hA; simp [World.cell?, this]
    have ca5 : ∀ u, W0.drew.grownBy u (some (w.heap.size + 1 + 1)) → u.cell? ⟨w.heap.size, 5, none⟩ = some (.string a6) := fun u hu => by have := (hu.block w.heap.size (by show _ < W0.heap.size; omega) (fun e => by have := Option.some.inj e; omega)).trans hA; simp [World.cell?, this]
    have ca6 : ∀ u, W0.drew.grownBy u (some (w.heap.size + 1 + 1)) → u.cell? ⟨w.heap.size, 6, none⟩ = some (.string a7) := fun u hu => by have := (hu.block w.heap.size (by show _ < W0.heap.size; omega) (fun e => by have := Option.some.inj e; omega)).trans hA; simp [World.cell?, this]
    have ca7 : ∀ u, W0.drew.grownBy u (some (w.heap.size + 1 + 1)) → u.cell? ⟨w.heap.size, 7, none⟩ = some (.string a8) := fun u hu => by have := (hu.block w.heap.size (by show _ < W0.heap.size; omega) (fun e => by have := Option.some.inj e; omega)).trans hA; simp [World.cell?, this]
    have cb0 : ∀ u, W0.drew.grownBy u (some (w.heap.size + 1 + 1)) → u.cell? ⟨w.heap.size + 1, 0, none⟩ = some (.bool b1) := fun u hu => by have := (hu.block (w.heap.size + 1) (by show _ < W0.heap.size; omega) (fun e => by have := Option.some.inj e; omega)).trans hBb; simp [World.cell?, this]
    have cb1 : ∀ u, W0.drew.grownBy u (some (w.heap.size + 1 + 1)) → u.cell? ⟨w.heap.size + 1, 1, none⟩ = some (.string b2) := fun u hu => by have := (hu.block (w.heap.size + 1) (by show _ < W0.heap.size; omega) (fun e => by have := Option.some.inj e; omega)).trans hBb; simp [World.cell?, this]
    have cb2 : ∀ u, W0.drew.grownBy u (some (w.heap.size + 1 + 1)) → u.cell? ⟨w.heap.size + 1, 2, none⟩ = some (.int .u64 b3) := fun u hu => by have := (hu.block (w.heap.size + 1) (by show _ < W0.heap.size; omega) (fun e => by have := Option.some.inj e; omega)).trans hBb; simp [World.cell?, this]
    have cb3 : ∀ u, W0.drew.grownBy u (some (w.heap.size + 1 + 1)) → u.cell? ⟨w.heap.size + 1, 3, none⟩ = some (.int .u64 b4) := fun u hu => by have := (hu.block (w.heap.size + 1) (by show _ < W0.heap.size; omega) (fun e => by have := Option.some.inj e; omega)).trans hBb; simp [World.cell?, this]
    have cb4 : ∀ u, W0.drew.grownBy u (some (w.heap.size + 1 + 1)) → u.cell? ⟨w.heap.size + 1, 4, none⟩ = some (.string b5) := fun u hu => by have := (hu.block (w.heap.size + 1) (by show _ < W0.heap.size; omega) (fun e => by have := Option.some.inj e; omega)).trans hBb; simp [World.cell?, this]
    have cb5 : ∀ u, W0.drew.grownBy u (some (w.heap.size + 1 + 1)) → u.cell? ⟨w.heap.size + 1, 5, none⟩ = some (.string b6) := fun u hu => by have := (hu.block (w.heap.size + 1) (by show _ < W0.heap.size; omega) (fun e => by have := Option.some.inj e; omega)).trans hBb; simp [World.cell?, this]
    have cb6 : ∀ u, W0.drew.grownBy u (some (w.heap.size + 1 + 1)) → u.cell? ⟨w.heap.size + 1, 6, none⟩ = some (.string b7) := fun u hu => by have := (hu.block (w.heap.size + 1) (by show _ < W0.heap.size; omega) (fun e => by have := Option.some.inj e; omega)).trans hBb; simp [World.cell?, this]
    have cb7 : ∀ u, W0.drew.grownBy u (some (w.heap.size + 1 + 1)) → u.cell? ⟨w.heap.size + 1, 7, none⟩ = some (.string b8) := fun u hu => by have := (hu.block (w.heap.size + 1) (by show _ < W0.heap.size; omega) (fun e => by have := Option.some.inj e; omega)).trans hBb; simp [World.cell?, this]
    have cc0 : W0.drew.cell? ⟨w.heap.size + 1 + 1, 0, none⟩ = some (.bool false) := by have : W0.drew.heap[w.heap.size + 1 + 1]? = _ := hC; simp [World.cell?, this]
    have cc1 : W0.drew.cell? ⟨w.heap.size + 1 + 1, 1, none⟩ = some (.string ⟨#[]⟩) := by have : W0.drew.heap[w.heap.size + 1 + 1]? = _ := hC; simp [World.cell?, this]
    have cc2 : W0.drew.cell? ⟨w.heap.size + 1 + 1, 2, none⟩ = some (.int .u64 0) := by have : W0.drew.heap[w.heap.size + 1 + 1]? = _ := hC; simp [World.cell?, this]
    have cc3 : W0.drew.cell? ⟨w.heap.size + 1 + 1, 3, none⟩ = some (.int .u64 0) := by have : W0.drew.heap[w.heap.size + 1 + 1]? = _ := hC; simp [World.cell?, this]
    have cc4 : W0.drew.cell? ⟨w.heap.size + 1 + 1, 4, none⟩ = some (.string ⟨#[]⟩) := by have : W0.drew.heap[w.heap.size + 1 + 1]? = _ := hC; simp [World.cell?, this]
    have cc5 : W0.drew.cell? ⟨w.heap.size + 1 + 1, 5, none⟩ = some (.string ⟨#[]⟩) := by have : W0.drew.heap[w.heap.size + 1 + 1]? = _ := hC; simp [World.cell?, this]
    have cc6 : W0.drew.cell? ⟨w.heap.size + 1 + 1, 6, none⟩ = some (.string ⟨#[]⟩) := by have : W0.drew.heap[w.heap.size + 1 + 1]? = _ := hC; simp [World.cell?, this]
    have cc7 : W0.drew.cell? ⟨w.heap.size + 1 + 1, 7, none⟩ = some (.string ⟨#[]⟩) := by have : W0.drew.heap[w.heap.size + 1 + 1]? = _ := hC; simp [World.cell?, this]
    have cf0 : W0.drew.frozen? ⟨w.heap.size + 1 + 1, 0, none⟩ = false := by have : W0.drew.heap[w.heap.size + 1 + 1]? = _ := hC; simp [World.frozen?, this]
    have cf1 : W0.drew.frozen? ⟨w.heap.size + 1 + 1, 1, none⟩ = false := by have : W0.drew.heap[w.heap.size + 1 + 1]? = _ := hC; simp [World.frozen?, this]
    have cf2 : W0.drew.frozen? ⟨w.heap.size + 1 + 1, 2, none⟩ = false := by have : W0.drew.heap[w.heap.size + 1 + 1]? = _ := hC; simp [World.frozen?, this]
    have cf3 : W0.drew.frozen? ⟨w.heap.size + 1 + 1, 3, none⟩ = false := by have : W0.drew.heap[w.heap.size + 1 + 1]? = _ := hC; simp [World.frozen?, this]
    have cf4 : W0.drew.frozen? ⟨w.heap.size + 1 + 1, 4, none⟩ = false := by have : W0.drew.heap[w.heap.size + 1 + 1]? = _ := hC; simp [World.frozen?, this]
    have cf5 : W0.drew.frozen? ⟨w.heap.size + 1 + 1, 5, none⟩ = false := by have : W0.drew.heap[w.heap.size + 1 + 1]? = _ := hC; simp [World.frozen?, this]
    have cf6 : W0.drew.frozen? ⟨w.heap.size + 1 + 1, 6, none⟩ = false := by have : W0.drew.heap[w.heap.size + 1 + 1]? = _ := hC; simp [World.frozen?, this]
    have cf7 : W0.drew.frozen? ⟨w.heap.size + 1 + 1, 7, none⟩ = false := by have : W0.drew.heap[w.heap.size + 1 + 1]? = _ := hC; simp [World.frozen?, this]
    refine wp_region_LG (besides (w.heap.size + 1 + 1)) 43 [0, 1, 2, 3, 4, 5, 6, 7, 8, 9, 11, 12, 13, 14, 16, 17, 18, 19, 21, 22, 23, 24, 26, 27, 28, 29, 31, 32, 33, 34, 36, 37, 38, 39, 10, 15, 20, 25, 30, 35, 40, 41, 42] rfl (by decide) (by decide) (by kernel_rfl) ?_
    simp only [List.filterMap_cons, List.filterMap_nil, List.getElem?_cons_zero, List.getElem?_cons_succ, Option.map_some]
    have hW1 : Below w.heap.size w W0.drew := hW.drew
    have hZ1 : W0.drew.heap.size = w.heap.size + 3 := hZ
    have hA1 : W0.drew.heap[w.heap.size + 1 + 1]? = _ := hC
    clear hW hZ hA hBb hC
    generalize W0.drew = W1 at *
    iterate 34 (first
    | (refine wpL_takeG _ (v := ?_) (by kernel_rfl) (by kernel_rfl) (by kernel_rfl) (fun _ _ _ h => h) (by rfl) (fun u hu => ?_) ?_
       rotate_left
       focus
         replace hu : W1.grownBy u (some (w.heap.size + 1 + 1)) := hu
         go_simp
         try with_reducible rfl
       simp only [Act.put, List.setIfInBounds_toArray, List.set_cons_zero, List.set_cons_succ])
    | (refine wpL_passG _ (by kernel_rfl) (by kernel_rfl) (by kernel_rfl) (fun _ _ _ h => h) (by rfl) ?_; simp only [Act.put, List.setIfInBounds_toArray, List.set_cons_zero, List.set_cons_succ]))
    iterate 7 (first
    | (refine wpL_doG _ (by kernel_rfl) (by rfl) (fun K hK => ?_); go_simp; go_at_call 33; refine (later_any _ _ _).mono ?_; rintro e w1 ⟨rfl, rfl⟩; refine hK _ _ ((besides _).rf _) ?_; clear hK K)
    | (refine wpL_doG _ (by kernel_rfl) (by rfl) (fun K hK => ?_); go_simp; go_at_call 34; refine (number6_any _ _ _).mono ?_; rintro e w1 ⟨rfl, rfl⟩; refine hK _ _ ((besides _).rf _) ?_; clear hK K))
    iterate 1 (first
    | (refine wpL_takeG _ (v := ?_) (by kernel_rfl) (by kernel_rfl) (by kernel_rfl) (fun _ _ _ h => h) (by rfl) (fun u hu => ?_) ?_
       rotate_left
       focus
         replace hu : W1.grownBy u (some (w.heap.size + 1 + 1)) := hu
         go_simp
         try with_reducible rfl
       simp only [Act.put, List.setIfInBounds_toArray, List.set_cons_zero, List.set_cons_succ]))
    refine wpL_doG _ (by kernel_rfl) (by rfl) (fun K hK => ?_)
    go_simp
    refine hK _ _ ?_ ?_
    · exact ((((((((grown_set W1 _ 0 _).trans (grown_set _ _ 1 _)).trans (grown_set _ _ 2 _)).trans (grown_set _ _ 3 _)).trans (grown_set _ _ 4 _)).trans (grown_set _ _ 5 _)).trans (grown_set _ _ 6 _)).trans (grown_set _ _ 7 _))
    · refine wpL_doneG _ (by kernel_rfl) ?_
      clear hK K
      go_wp2_with fail
      (try simp only [Exit.inBlock, Exit.then])
      refine bodyPost_ret (v := .agg #[.bool true, .string (mpick a2 b2), .int .u64 (npick a3 b3), .int .u64 (npick a4 b4), .string (mpick a5 b5), .string (mpick a6 b6), .string (mpick a7 b7), .string (mpick a8 b8)]) ?_ rfl ⟨rfl, ?_⟩
      · rw [results_cell rfl]; go_simp
      · exact (((((((hW1.setCell (by show w.heap.size ≤ w.heap.size + 1 + 1; omega) _).setCell (by show w.heap.size ≤ w.heap.size + 1 + 1; omega) _).setCell (by show w.heap.size ≤ w.heap.size + 1 + 1; omega) _).setCell (by show w.heap.size ≤ w.heap.size + 1 + 1; omega) _).setCell (by show w.heap.size ≤ w.heap.size + 1 + 1; omega) _).setCell (by show w.heap.size ≤ w.heap.size + 1 + 1; omega) _).setCell (by show w.heap.size ≤ w.heap.size + 1 + 1; omega) _).setCell (by show w.heap.size ≤ w.heap.size + 1 + 1; omega) _
end Go.Proofs.Ytkanhggmhjldmaa

/- WALK: meta.Of -/
namespace Go.Proofs.Ytkanhggmhjldmaa
open Go.RowKit Plain

theorem below_set8 {B R : Nat} {w W : World} (h : Below B w W) (hB : B ≤ R) (v0 v1 v2 v3 v4 v5 v6 v7 : Value) :
    Below B w ((((((((W.setCell ⟨R, 0, none⟩ v0).setCell ⟨R, 1, none⟩ v1).setCell ⟨R, 2, none⟩ v2).setCell ⟨R, 3, none⟩ v3).setCell ⟨R, 4, none⟩ v4).setCell ⟨R, 5, none⟩ v5).setCell ⟨R, 6, none⟩ v6).setCell ⟨R, 7, none⟩ v7) :=
  (((((((h.setCell (p := ⟨R, 0, none⟩) hB _).setCell (p := ⟨R, 1, none⟩) hB _).setCell (p := ⟨R, 2, none⟩) hB _).setCell (p := ⟨R, 3, none⟩) hB _).setCell (p := ⟨R, 4, none⟩) hB _).setCell (p := ⟨R, 5, none⟩) hB _).setCell (p := ⟨R, 6, none⟩) hB _).setCell (p := ⟨R, 7, none⟩) hB _
theorem BoxM.zero {W : World} {B : Nat} (h : BoxM W B mzero) :
    (W.cell? ⟨B, 0, none⟩ = some (.bool false) ∧ W.cell? ⟨B, 1, none⟩ = some (.string ⟨#[]⟩) ∧ W.cell? ⟨B, 2, none⟩ = some (.int .u64 0) ∧ W.cell? ⟨B, 3, none⟩ = some (.int .u64 0) ∧
    W.cell? ⟨B, 4, none⟩ = some (.string ⟨#[]⟩) ∧ W.cell? ⟨B, 5, none⟩ = some (.string ⟨#[]⟩) ∧ W.cell? ⟨B, 6, none⟩ = some (.string ⟨#[]⟩) ∧ W.cell? ⟨B, 7, none⟩ = some (.string ⟨#[]⟩)) ∧
    W.frozen? ⟨B, 0, none⟩ = false ∧ W.frozen? ⟨B, 1, none⟩ = false ∧ W.frozen? ⟨B, 2, none⟩ = false ∧ W.frozen? ⟨B, 3, none⟩ = false ∧ W.frozen? ⟨B, 4, none⟩ = false ∧ W.frozen? ⟨B, 5, none⟩ = false ∧ W.frozen? ⟨B, 6, none⟩ = false ∧ W.frozen? ⟨B, 7, none⟩ = false := by
  have hz : ∀ i, W.frozen? ⟨B, i, none⟩ = false := fun i => by simp [World.frozen?, show W.heap[B]? = _ from h]
  exact ⟨⟨h.cell 0, h.cell 1, h.cell 2, h.cell 3, h.cell 4, h.cell 5, h.cell 6, h.cell 7⟩, hz 0, hz 1, hz 2, hz 3, hz 4, hz 5, hz 6, hz 7⟩
theorem rd_less {w w' : World} {B M : Nat} {A : Option Addr} {xs : List Value} (h : Rd w B A xs) (hB : B ≤ M) (hM : B ≤ w.heap.size) (hg : w.grownBy w' (some M)) : Rd w' B A xs := by
  rcases h with h | ⟨b, off, rfl, hb, hc⟩
  · exact .inl h
  · refine .inr ⟨b, off, rfl, hb, fun i hi => ?_⟩
    rw [← hc i hi]
    have := hg.block b (by omega) (fun e => by have := Option.some.inj e; omega)
    simp [World.cell?, this]
set_option maxRecDepth 100000 in
set_option maxHeartbeats 4000000 in
theorem mof_any (b : List UInt8) (A : Option Addr) (n c : Nat) (hn : b.length = n) (hnc : n ≤ c) (hcm : c ≤ 9223372036854775807) (w : World) (hr0 : Rd w w.heap.size A (bcl b)) :
    Calls Try.prog 28 #[.slice A n c] w fun e w' => e = .returned (.tuple #[.agg (mof b).1.cells, .int .i64 (mof b).2]) ∧ Below w.heap.size w w' := by
  have hof := fun (W : World) (hB : Below w.heap.size w W) => of_any b A n c hn hnc hcm W ((hr0.below hB (Nat.le_refl _)).more hB.size)
  have hin := wof_in b
  have hlen := wof_out b
  obtain ⟨q, hq⟩ : ∃ q, mof b = q := ⟨_, rfl⟩
  rw [hq]
  unfold mof at hq
  unfold OfPost at hof
  obtain ⟨r, hr⟩ : ∃ r, wof b = r := ⟨_, rfl⟩
  rw [hr] at hof hin hlen hq
  obtain ⟨l, er⟩ := r
  simp only at hof hin hlen hq
  have HIN := Lib.hid hin
  clear hr hin hn hnc hcm hr0
  by_cases h0 : er = 0
  · subst h0
    rw [if_pos rfl] at hq
    have HQ := Lib.hid hq
    clear hq
    go_enter Try.func28, Try.ntmps28
    go_wp2_with fail
    have hE0 := (Below.refl w.heap.size w).alloc (Nat.le_refl _) (Obj.cells mzero.cells 24)
    have hMr0 : BoxM (w.alloc (Obj.cells mzero.cells 24)) w.heap.size mzero := World.alloc_heap_new w _
    refine (hof _ hE0).mono ?_
    rintro e w1 ⟨B1, d1, rfl, ho1, hB1⟩
    have hMr1 := hMr0.below hB1 hMr0.lt
    have hW1 := bel_step hE0 hB1
    have hs1 : w.heap.size + 1 ≤ w1.heap.size := by have := hB1.size; simp at this; omega
    clear hof hE0 hMr0 hB1
    go_wp2_with fail
    have hE2 := (Below.refl w1.heap.size w1).alloc (Nat.le_refl _) (Obj.cells mzero.cells 24)
    have hMo0 : BoxM (w1.alloc (Obj.cells mzero.cells 24)) w1.heap.size mzero := World.alloc_heap_new w1 _
    refine (parts_any _ _).mono ?_
    rintro e w2 ⟨rfl, hrow, hX, hZ, hB2⟩
    simp only [World.size_alloc] at hrow hX hZ hB2 ⊢
    have hMo2 := hMo0.below hB2 (by omega)
    have hE3 := hE2.trans (hB2.mono (by omega))
    have hMr2 := hMr1.below hE3 hMr1.lt
    have hr2 := (Rd.of_own ho1).below hE3 (Nat.le_refl _)
    have hW2 := bel_step hW1 hE3
    clear hE2 hMo0 hB2 hE3 hMr1 ho1 hW1
    go_wp2_with fail
    go_loopw [24] (fun i wr => ∃ (j : Nat) (m : MM), i = .int .i64 j ∧ j ≤ l.length ∧ mrun m (l.drop j) = q ∧ BoxM wr w1.heap.size m ∧ w2.grownBy wr (some w1.heap.size)) (fun i _ => l.length - (intOf i).toNat)
    case atStart => exact ⟨0, _, rfl, Nat.zero_le _, HQ.out, hMo2, World.grownBy.refl _ _⟩
    case round =>
      clear hMo2
      obtain ⟨j, m, rfl, hj, hm, hM2, hg⟩ := hrel
      have hgs := hg.size
      have HM := Lib.hid hm
      clear hm
      by_cases hlt : j < l.length
      · obtain ⟨f, hf⟩ : ∃ f, l[j]? = some f := ⟨_, List.getElem?_eq_getElem hlt⟩
        have hfi := HIN.out f (List.mem_of_getElem? hf)
        have hm := HM.out
        rw [drop_cons hf, mrun] at hm
        obtain ⟨b1, o1, rfl, hb1, g0, g1, g2, g3⟩ := fld_at (rd_less hr2 (Nat.le_refl _) (by omega) hg) hf
        have HMM := Lib.hid hm
        clear hm HM
        by_cases h8 : 8 < f.num
        · have hd8 : decide ((8 : Int) < f.num) = true := decide_eq_true h8
          have HN : Hid (mrun m (l.drop (j + 1)) = q) := Lib.hid (by have := HMM.out; rwa [if_pos h8] at this)
          obtain ⟨fn, fk, fv, ft⟩ := f
          simp only at g0 g1 g2 g3 hd8
          clear HMM h8 hf hfi
          go_wp2_with fail
          go_roundw
          case rel => exact ⟨j + 1, m, by go_num, by omega, HN.out, hM2.below ((Below.refl _ wr).alloc (Nat.le_refl _) _) hM2.lt, hg.trans (grown_below ((Below.refl _ wr).alloc (Nat.le_refl _) _))⟩
          case measure => simp [intOf]; omega
        · have hd8 : decide ((8 : Int) < f.num) = false := decide_eq_false h8
          obtain ⟨i, hi⟩ := Int.eq_ofNat_of_zero_le (show 0 ≤ f.num - 1 by have := hfi.1; omega)
          have hi8 : i < 8 := by omega
          have hfn : f.num = i + 1 := by omega
          obtain ⟨p, hp, hpb, hpk, hcf, htake, herr⟩ := takes2_any i hi8 (w1.heap.size + 1) f hfn
          obtain ⟨q0, q1, q2, q3⟩ := prt_cell ((hg.block _ (by omega) (fun e => by have := Option.some.inj e; omega)).trans hrow) hp
          have hbx := bxs_other hX (by intro x hx; obtain ⟨k, _, rfl⟩ := List.mem_map.1 hx; simp; omega) hg (p.box, i) (by rw [hpb]; exact List.mem_map.2 ⟨i, by simpa using hi8, rfl⟩)
          have hm2 := HMM.out
          rw [if_neg h8] at hm2
          obtain ⟨fn, fk, fv, ft⟩ := f
          obtain ⟨pn, pk, pt, pa, pb⟩ := p
          simp only at hfn g0 g1 g2 g3 hpb hpk hcf htake herr q0 q1 q2 q3 hbx hd8
          subst hpb
          have hw2 : IntKind.i64.wrap (fn - 1) = (i : Int) := by rw [show fn - 1 = (i : Int) by omega]; exact wrap_small i (by omega)
          have HFN := Lib.hid hfn
          have HPK := Lib.hid hpk
          have HM2 := Lib.hid hm2
          have HBM := Lib.hid hM2
          have hi8' : (i : Int) < 8 := by omega
          have hF := BoxF.new wr fn fk fv ft
          have hrl : w1.heap.size + 1 + 16 < wr.heap.size := by omega
          have hMr3 : BoxM wr w.heap.size mzero := (hg.block _ (by omega) (fun e => by have := Option.some.inj e; omega)).trans hMr2
          have hWr := below_of_grown hW2 hg (by omega) (Nat.le_refl _)
          by_cases hk : fk = pk
          · have hkb : (fk != pk) = false := by simpa using hk
            have HK := Lib.hid hk
            clear hfn hi hf hp hpk hm2 h8 HMM hfi hM2 hk
            go_wp2_with fail
            have hA1 : Below wr.heap.size wr ((wr.alloc (Obj.cells #[.int .i64 fn, .int .i64 fk, .int .u64 fv, .string ft] 49)).alloc (Obj.cells #[.int .i64 pn, .int .i64 pk, .func (.func pt) #[] #[.pointer (some ⟨w1.heap.size + 1 + 2 * i, 0, none⟩)], .func (.func pa) #[] #[.pointer (some ⟨w1.heap.size + 1 + 2 * i, 0, none⟩)]] 66)) :=
              ((Below.refl _ wr).alloc (Nat.le_refl _) _).alloc (by simp) _
            generalize hWp : (wr.alloc (Obj.cells #[.int .i64 fn, .int .i64 fk, .int .u64 fv, .string ft] 49)).alloc (Obj.cells #[.int .i64 pn, .int .i64 pk, .func (.func pt) #[] #[.pointer (some ⟨w1.heap.size + 1 + 2 * i, 0, none⟩)], .func (.func pa) #[] #[.pointer (some ⟨w1.heap.size + 1 + 2 * i, 0, none⟩)]] 66) = Wp at *
            have hbp := (hA1.cell hbx.2).trans hbx.1
            have hMp := HBM.out.below hA1 HBM.out.lt
            by_cases he : fn = 1 ∧ 1 < fv
            · have hMr4 := hMr3.below hA1 hMr3.lt
              have hq : q = (mzero, 5) := by
                have e : merr ⟨fn, fk, fv, ft⟩ = 5 := by unfold merr; rw [if_pos (HK.out.trans HPK.out), if_pos he]
                have hm2 := HM2.out
                rw [e, if_neg (by decide)] at hm2
                exact hm2.symm
              have HQ5 := Lib.hid hq
              have hcall := herr he w1.heap.size m Wp hbp hMp
              have hWp2 := hWr.trans (hA1.mono (by omega))
              have hbig : w.heap.size < Wp.heap.size := hMr4.lt
              clear hWp hA1 htake herr hq he hMr3 hbp hMp hWr
              refine hcall.mono ?_
              rintro e w3 ⟨rfl, hB3⟩
              obtain ⟨⟨y0, y1, y2, y3, y4, y5, y6, y7⟩, z0, z1, z2, z3, z4, z5, z6, z7⟩ := (hMr4.below hB3 hMr4.lt).zero
              have hW3 := bel_step hWp2 hB3
              clear hMr4 hcall hB3 hWp2
              go_wp2_with fail
              (try simp only [Exit.inBlock, Exit.then])
              refine bodyPost_ret (v := .tuple #[.agg mzero.cells, .int .i64 5]) ?_ rfl ⟨by rw [HQ5.out], ?_⟩
              · rw [results_cell_tmp rfl]; go_simp; rfl
              · exact below_set8 hW3 (Nat.le_refl _) _ _ _ _ _ _ _ _
            · have hm3 : mrun (mset2 m ⟨fn, fk, fv, ft⟩) (l.drop (j + 1)) = q := by
                have e : merr ⟨fn, fk, fv, ft⟩ = 0 := by unfold merr; rw [if_pos (HK.out.trans HPK.out), if_neg he]
                have hm2 := HM2.out
                rwa [e, if_pos rfl] at hm2
              have HM3 := Lib.hid hm3
              have hcall := htake he w1.heap.size m Wp hbp hMp
              have hg2 := hg.trans (grown_below hA1)
              clear hWp hA1 htake herr hm3 he hMr3 hbp hMp hWr
              refine hcall.mono ?_
              rintro e w3 ⟨rfl, hM3, hg3⟩
              have hg4 := hg2.trans hg3
              clear hcall hg3 hg2
              go_wp2_with fail
              go_roundw
              case rel => exact ⟨j + 1, _, by go_num, by omega, HM3.out, hM3, hg4⟩
              case measure => simp [intOf]; omega
          · have hkb : (fk != pk) = true := by simpa using hk
            obtain ⟨⟨y0, y1, y2, y3, y4, y5, y6, y7⟩, z0, z1, z2, z3, z4, z5, z6, z7⟩ := hMr3.zero
            have hrl2 : w.heap.size < wr.heap.size := by omega
            have hq : q = (mzero, 4) := by
              have e : merr ⟨fn, fk, fv, ft⟩ = 4 := by unfold merr; rw [if_neg (fun h => hk (h.trans hpk.symm))]
              rw [e, if_neg (by decide)] at hm2
              exact hm2.symm
            have HQ4 := Lib.hid hq
            clear hfn hi hf hp hpk hm2 h8 HMM hfi hM2 hk hMr3 hq HQ
            go_wp2_with fail
            (try simp only [Exit.inBlock, Exit.then])
            refine bodyPost_ret (v := .tuple #[.agg mzero.cells, .int .i64 4]) ?_ rfl ⟨by rw [HQ4.out], ?_⟩
            · rw [results_cell_tmp rfl]; go_simp; rfl
            · exact ((below_set8 hWr (Nat.le_refl _) _ _ _ _ _ _ _ _).alloc (by simp; omega) _).alloc (by simp; omega) _
      · rw [List.drop_eq_nil_of_le (by omega)] at HM
        have hq : q = (m, 0) := HM.out.symm
        subst hq
        have hW3 := below_of_grown hW2 hg (by omega) (Nat.le_refl _)
        have hMr3 : BoxM wr w.heap.size mzero := (hg.block _ (by omega) (fun e => by have := Option.some.inj e; omega)).trans hMr2
        obtain ⟨⟨y0, y1, y2, y3, y4, y5, y6, y7⟩, z0, z1, z2, z3, z4, z5, z6, z7⟩ := hMr3.zero
        obtain ⟨m1, m2, m3, m4, m5, m6, m7, m8⟩ := m
        obtain ⟨x0, x1, x2, x3, x4, x5, x6, x7⟩ := hM2.cells8
        clear hM2 hMr3 hMr2 hX hrow HM HQ HIN hg
        go_wp2_with fail
        (try simp only [Exit.inBlock, Exit.then])
        refine bodyPost_ret (v := .tuple #[.agg #[.bool m1, .string m2, .int .u64 m3, .int .u64 m4, .string m5, .string m6, .string m7, .string m8], .int .i64 0]) ?_ rfl ⟨rfl, ?_⟩
        · rw [results_cell_tmp rfl]; go_simp
        · exact below_set8 hW3 (Nat.le_refl _) _ _ _ _ _ _ _ _
  · rw [if_neg h0] at hq
    have HQ := Lib.hid hq
    have hbe : ((er : Int) != 0) = true := by simp; omega
    clear hq h0
    go_enter Try.func28, Try.ntmps28
    go_wp2_with fail
    have hE0 := (Below.refl w.heap.size w).alloc (Nat.le_refl _) (Obj.cells mzero.cells 24)
    have hMr0 : BoxM (w.alloc (Obj.cells mzero.cells 24)) w.heap.size mzero := World.alloc_heap_new w _
    refine (hof _ hE0).mono ?_
    rintro e w1 ⟨B1, d1, rfl, ho1, hB1⟩
    have hMr1 := hMr0.below hB1 hMr0.lt
    have hW1 := bel_step hE0 hB1
    obtain ⟨⟨y0, y1, y2, y3, y4, y5, y6, y7⟩, z0, z1, z2, z3, z4, z5, z6, z7⟩ := hMr1.zero
    clear hof hE0 hMr0 hB1 ho1 hMr1
    go_wp2_with fail
    (try simp only [Exit.inBlock, Exit.then])
    refine bodyPost_ret (v := .tuple #[.agg mzero.cells, .int .i64 er]) ?_ rfl ⟨by rw [← HQ.out], ?_⟩
    · rw [results_cell_tmp rfl]; go_simp; rfl
    · exact below_set8 hW1 (Nat.le_refl _) _ _ _ _ _ _ _ _
end Go.Proofs.Ytkanhggmhjldmaa
