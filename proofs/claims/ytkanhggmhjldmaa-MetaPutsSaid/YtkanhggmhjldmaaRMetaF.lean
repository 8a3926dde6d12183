/- WALK: the reference's fields and Put of layer 6 -/
import Derived.Test.YtkanhggmhjldmaaRMeta
namespace Go.Proofs.Ytkanhggmhjldmaa
open Go.RowKit Plain

theorem BoxM.row {W W' : World} {B : Nat} {m : MM} (h : BoxM W B m) {base n c : Nat} {A : Option Addr} {xs : List Value}
    (hr : W.ownsRow base 49 4 (.slice A n c) n xs) (hg : W.grownBy W' (Value.slice A n c).ownBlock) : BoxM W' B m := by
  refine (hg.block B h.lt ?_).trans h
  rcases hr.2 with ⟨hv, _⟩ | ⟨g, cap, cur, hv, _, hgb, _⟩
  · rw [hv]; simp [Value.ownBlock]
  · rw [hv]
    intro e'
    obtain rfl : B = g := by simpa [Value.ownBlock] using e'
    have := (show W.heap[B]? = _ from h).symm.trans hgb
    simp at this
theorem BoxM.cells8 {W : World} {B : Nat} {m1 : Bool} {m2 : ByteArray} {m3 m4 : Nat} {m5 m6 m7 m8 : ByteArray} (h : BoxM W B ⟨m1, m2, m3, m4, m5, m6, m7, m8⟩) :
    W.cell? ⟨B, 0, none⟩ = some (.bool m1) ∧ W.cell? ⟨B, 1, none⟩ = some (.string m2) ∧ W.cell? ⟨B, 2, none⟩ = some (.int .u64 m3) ∧ W.cell? ⟨B, 3, none⟩ = some (.int .u64 m4) ∧ W.cell? ⟨B, 4, none⟩ = some (.string m5) ∧ W.cell? ⟨B, 5, none⟩ = some (.string m6) ∧ W.cell? ⟨B, 6, none⟩ = some (.string m7) ∧ W.cell? ⟨B, 7, none⟩ = some (.string m8) :=
  ⟨h.cell 0, h.cell 1, h.cell 2, h.cell 3, h.cell 4, h.cell 5, h.cell 6, h.cell 7⟩
theorem rt_at {w : World} {A : Option Addr} {N c : Nat} {L : List Fld} {base : Nat} (hown : w.ownsRow base 49 4 (.slice A N c) N (flc L)) (num : Int) (s : ByteArray) (hL : L.length ≤ 1000) (hb : base ≤ w.heap.size) :
    Calls Try.prog 44 #[.slice A N c, .int .i64 num, .string s] w fun e w' => ∃ A' c' N', e = .returned (.slice A' N' c') ∧ (addF L ⟨num, 2, 0, s⟩).length = N' ∧
      w'.ownsRow base 49 4 (.slice A' N' c') N' (flc (addF L ⟨num, 2, 0, s⟩)) ∧ Below w.heap.size w w' := by
  have e : N = L.length := by
    have := hown.1
    rw [flc_len] at this
    omega
  subst e
  refine (rtext_any A c L num s hL base w hb hown).mono ?_
  rintro e w' ⟨A', c', rfl, h, hB⟩
  exact ⟨A', c', _, rfl, rfl, h, hB⟩
set_option maxHeartbeats 2000000 in
theorem rf000 (m2 : ByteArray) (m3 m4 : Nat) (m5 m6 m7 m8 : ByteArray) (h3 : ((m3 : Int) != 0) = false) (h4 : ((m4 : Int) != 0) = false) (w : World) (R : List Fld) (hR : (addF (addF (addF (addF (addF [] ⟨2, 2, 0, m2⟩) ⟨5, 2, 0, m5⟩) ⟨6, 2, 0, m6⟩) ⟨7, 2, 0, m7⟩) ⟨8, 2, 0, m8⟩) = R) :
    Calls Try.prog 31 #[.agg #[.bool false, .string m2, .int .u64 m3, .int .u64 m4, .string m5, .string m6, .string m7, .string m8]] w fun e w' => ∃ A c, e = .returned (.slice A R.length c) ∧ w'.ownsRow w.heap.size 49 4 (.slice A R.length c) R.length (flc R) ∧ Below w.heap.size w w' := by
  have HR := Lib.hid hR
  clear hR
  obtain ⟨L, hL0⟩ : ∃ L : List Fld, [] = L := ⟨_, rfl⟩
  have hl : L.length = 0 := by rw [← hL0]; rfl
  have hown : (w.alloc (Obj.cells #[.bool false, .string m2, .int .u64 m3, .int .u64 m4, .string m5, .string m6, .string m7, .string m8] 24)).ownsRow w.heap.size 49 4 (.slice none 0 0) 0 (flc L) := by rw [← hL0]; exact World.ownsRow_nil _ _ _ _
  have HL0 := Lib.hid hL0
  clear hL0
  have hB := (Below.refl w.heap.size w).alloc (Nat.le_refl _) (Obj.cells #[.bool false, .string m2, .int .u64 m3, .int .u64 m4, .string m5, .string m6, .string m7, .string m8] 24)
  have hM : BoxM (w.alloc (Obj.cells #[.bool false, .string m2, .int .u64 m3, .int .u64 m4, .string m5, .string m6, .string m7, .string m8] 24)) w.heap.size ⟨false, m2, m3, m4, m5, m6, m7, m8⟩ := World.alloc_heap_new w _
  go_enter Try.func31, Try.ntmps31
  go_wp2_with fail
  have hn1 := hl
  refine (rt_at hown 2 m2 (by omega) hB.size).mono ?_
  rintro e W1 ⟨A1, c1, N1, rfl, hN1, hown1, hb1⟩
  have hM1 := hM.below hb1 hM.lt
  have hB1 := bel_step hB hb1
  obtain ⟨y10, y11, y12, y13, y14, y15, y16, y17⟩ := hM1.cells8
  have hl1 := addF_len L ⟨2, 2, 0, m2⟩
  obtain ⟨L1, hL1⟩ : ∃ L', addF L ⟨2, 2, 0, m2⟩ = L' := ⟨_, rfl⟩
  rw [hL1] at hown1 hl1 hN1
  have HL1 := Lib.hid hL1
  clear hL1 hown hB hM hb1
  go_wp2_with fail
  have hn2 := hl1
  refine (rt_at hown1 5 m5 (by omega) hB1.size).mono ?_
  rintro e W2 ⟨A2, c2, N2, rfl, hN2, hown2, hb2⟩
  have hM2 := hM1.below hb2 hM1.lt
  have hB2 := bel_step hB1 hb2
  obtain ⟨y20, y21, y22, y23, y24, y25, y26, y27⟩ := hM2.cells8
  have hl2 := addF_len L1 ⟨5, 2, 0, m5⟩
  obtain ⟨L2, hL2⟩ : ∃ L', addF L1 ⟨5, 2, 0, m5⟩ = L' := ⟨_, rfl⟩
  rw [hL2] at hown2 hl2 hN2
  have HL2 := Lib.hid hL2
  clear hL2 hown1 hB1 hM1 hb2
  go_wp2_with fail
  have hn3 := hl2
  refine (rt_at hown2 6 m6 (by omega) hB2.size).mono ?_
  rintro e W3 ⟨A3, c3, N3, rfl, hN3, hown3, hb3⟩
  have hM3 := hM2.below hb3 hM2.lt
  have hB3 := bel_step hB2 hb3
  obtain ⟨y30, y31, y32, y33, y34, y35, y36, y37⟩ := hM3.cells8
  have hl3 := addF_len L2 ⟨6, 2, 0, m6⟩
  obtain ⟨L3, hL3⟩ : ∃ L', addF L2 ⟨6, 2, 0, m6⟩ = L' := ⟨_, rfl⟩
  rw [hL3] at hown3 hl3 hN3
  have HL3 := Lib.hid hL3
  clear hL3 hown2 hB2 hM2 hb3
  go_wp2_with fail
  have hn4 := hl3
  refine (rt_at hown3 7 m7 (by omega) hB3.size).mono ?_
  rintro e W4 ⟨A4, c4, N4, rfl, hN4, hown4, hb4⟩
  have hM4 := hM3.below hb4 hM3.lt
  have hB4 := bel_step hB3 hb4
  obtain ⟨y40, y41, y42, y43, y44, y45, y46, y47⟩ := hM4.cells8
  have hl4 := addF_len L3 ⟨7, 2, 0, m7⟩
  obtain ⟨L4, hL4⟩ : ∃ L', addF L3 ⟨7, 2, 0, m7⟩ = L' := ⟨_, rfl⟩
  rw [hL4] at hown4 hl4 hN4
  have HL4 := Lib.hid hL4
  clear hL4 hown3 hB3 hM3 hb4
  go_wp2_with fail
  have hn5 := hl4
  refine (rt_at hown4 8 m8 (by omega) hB4.size).mono ?_
  rintro e W5 ⟨A5, c5, N5, rfl, hN5, hown5, hb5⟩
  have hM5 := hM4.below hb5 hM4.lt
  have hB5 := bel_step hB4 hb5
  obtain ⟨y50, y51, y52, y53, y54, y55, y56, y57⟩ := hM5.cells8
  have hl5 := addF_len L4 ⟨8, 2, 0, m8⟩
  obtain ⟨L5, hL5⟩ : ∃ L', addF L4 ⟨8, 2, 0, m8⟩ = L' := ⟨_, rfl⟩
  rw [hL5] at hown5 hl5 hN5
  have HL5 := Lib.hid hL5
  clear hL5 hown4 hB4 hM4 hb5
  go_wp2_with fail
  go_ret
  have e : L5 = R := by rw [← HR.out, ← HL5.out, ← HL4.out, ← HL3.out, ← HL2.out, ← HL1.out, ← HL0.out]
  subst e
  subst hN5
  exact ⟨A5, c5, rfl, hown5, hB5⟩
set_option maxHeartbeats 2000000 in
theorem rf001 (m2 : ByteArray) (m3 m4 : Nat) (m5 m6 m7 m8 : ByteArray) (h3 : ((m3 : Int) != 0) = false) (h4 : ((m4 : Int) != 0) = true) (w : World) (R : List Fld) (hR : (addF (addF (addF (addF ((addF [] ⟨2, 2, 0, m2⟩) ++ [⟨4, 0, m4, ⟨#[]⟩⟩]) ⟨5, 2, 0, m5⟩) ⟨6, 2, 0, m6⟩) ⟨7, 2, 0, m7⟩) ⟨8, 2, 0, m8⟩) = R) :
    Calls Try.prog 31 #[.agg #[.bool false, .string m2, .int .u64 m3, .int .u64 m4, .string m5, .string m6, .string m7, .string m8]] w fun e w' => ∃ A c, e = .returned (.slice A R.length c) ∧ w'.ownsRow w.heap.size 49 4 (.slice A R.length c) R.length (flc R) ∧ Below w.heap.size w w' := by
  have HR := Lib.hid hR
  clear hR
  obtain ⟨L, hL0⟩ : ∃ L : List Fld, [] = L := ⟨_, rfl⟩
  have hl : L.length = 0 := by rw [← hL0]; rfl
  have hown : (w.alloc (Obj.cells #[.bool false, .string m2, .int .u64 m3, .int .u64 m4, .string m5, .string m6, .string m7, .string m8] 24)).ownsRow w.heap.size 49 4 (.slice none 0 0) 0 (flc L) := by rw [← hL0]; exact World.ownsRow_nil _ _ _ _
  have HL0 := Lib.hid hL0
  clear hL0
  have hB := (Below.refl w.heap.size w).alloc (Nat.le_refl _) (Obj.cells #[.bool false, .string m2, .int .u64 m3, .int .u64 m4, .string m5, .string m6, .string m7, .string m8] 24)
  have hM : BoxM (w.alloc (Obj.cells #[.bool false, .string m2, .int .u64 m3, .int .u64 m4, .string m5, .string m6, .string m7, .string m8] 24)) w.heap.size ⟨false, m2, m3, m4, m5, m6, m7, m8⟩ := World.alloc_heap_new w _
  go_enter Try.func31, Try.ntmps31
  go_wp2_with fail
  have hn1 := hl
  refine (rt_at hown 2 m2 (by omega) hB.size).mono ?_
  rintro e W1 ⟨A1, c1, N1, rfl, hN1, hown1, hb1⟩
  have hM1 := hM.below hb1 hM.lt
  have hB1 := bel_step hB hb1
  obtain ⟨y10, y11, y12, y13, y14, y15, y16, y17⟩ := hM1.cells8
  have hl1 := addF_len L ⟨2, 2, 0, m2⟩
  obtain ⟨L1, hL1⟩ : ∃ L', addF L ⟨2, 2, 0, m2⟩ = L' := ⟨_, rfl⟩
  rw [hL1] at hown1 hl1 hN1
  have HL1 := Lib.hid hL1
  clear hL1 hown hB hM hb1
  go_wp2_with (at_builtin; first
    | (refine wpList_appF1 rfl _ _ rfl rfl hown1 ⟨4, 0, m4, ⟨#[]⟩⟩ rfl (by simp) (by omega) hB1.size ?_; intro A2 c2 W2 hown2 hg2; have hB2 := own_grown hB1 hown1 hB1.size hg2; have hM2 := hM1.row hown1 hg2; obtain ⟨L2, hL2⟩ : ∃ L', L1 ++ [⟨4, 0, m4, ⟨#[]⟩⟩] = L' := ⟨_, rfl⟩; have hl2 : L2.length = L1.length + 1 := (congrArg List.length hL2).symm.trans List.length_append; rw [hL2] at hown2; have HL2 := Lib.hid hL2; obtain ⟨y20, y21, y22, y23, y24, y25, y26, y27⟩ := hM2.cells8; clear hg2 hL2 hown1 hB1 hM1))
  have hn3 := hl2
  refine (rt_at hown2 5 m5 (by omega) hB2.size).mono ?_
  rintro e W3 ⟨A3, c3, N3, rfl, hN3, hown3, hb3⟩
  have hM3 := hM2.below hb3 hM2.lt
  have hB3 := bel_step hB2 hb3
  obtain ⟨y30, y31, y32, y33, y34, y35, y36, y37⟩ := hM3.cells8
  have hl3 := addF_len L2 ⟨5, 2, 0, m5⟩
  obtain ⟨L3, hL3⟩ : ∃ L', addF L2 ⟨5, 2, 0, m5⟩ = L' := ⟨_, rfl⟩
  rw [hL3] at hown3 hl3 hN3
  have HL3 := Lib.hid hL3
  clear hL3 hown2 hB2 hM2 hb3
  go_wp2_with fail
  have hn4 := hl3
  refine (rt_at hown3 6 m6 (by omega) hB3.size).mono ?_
  rintro e W4 ⟨A4, c4, N4, rfl, hN4, hown4, hb4⟩
  have hM4 := hM3.below hb4 hM3.lt
  have hB4 := bel_step hB3 hb4
  obtain ⟨y40, y41, y42, y43, y44, y45, y46, y47⟩ := hM4.cells8
  have hl4 := addF_len L3 ⟨6, 2, 0, m6⟩
  obtain ⟨L4, hL4⟩ : ∃ L', addF L3 ⟨6, 2, 0, m6⟩ = L' := ⟨_, rfl⟩
  rw [hL4] at hown4 hl4 hN4
  have HL4 := Lib.hid hL4
  clear hL4 hown3 hB3 hM3 hb4
  go_wp2_with fail
  have hn5 := hl4
  refine (rt_at hown4 7 m7 (by omega) hB4.size).mono ?_
  rintro e W5 ⟨A5, c5, N5, rfl, hN5, hown5, hb5⟩
  have hM5 := hM4.below hb5 hM4.lt
  have hB5 := bel_step hB4 hb5
  obtain ⟨y50, y51, y52, y53, y54, y55, y56, y57⟩ := hM5.cells8
  have hl5 := addF_len L4 ⟨7, 2, 0, m7⟩
  obtain ⟨L5, hL5⟩ : ∃ L', addF L4 ⟨7, 2, 0, m7⟩ = L' := ⟨_, rfl⟩
  rw [hL5] at hown5 hl5 hN5
  have HL5 := Lib.hid hL5
  clear hL5 hown4 hB4 hM4 hb5
  go_wp2_with fail
  have hn6 := hl5
  refine (rt_at hown5 8 m8 (by omega) hB5.size).mono ?_
  rintro e W6 ⟨A6, c6, N6, rfl, hN6, hown6, hb6⟩
  have hM6 := hM5.below hb6 hM5.lt
  have hB6 := bel_step hB5 hb6
  obtain ⟨y60, y61, y62, y63, y64, y65, y66, y67⟩ := hM6.cells8
  have hl6 := addF_len L5 ⟨8, 2, 0, m8⟩
  obtain ⟨L6, hL6⟩ : ∃ L', addF L5 ⟨8, 2, 0, m8⟩ = L' := ⟨_, rfl⟩
  rw [hL6] at hown6 hl6 hN6
  have HL6 := Lib.hid hL6
  clear hL6 hown5 hB5 hM5 hb6
  go_wp2_with fail
  go_ret
  have e : L6 = R := by rw [← HR.out, ← HL6.out, ← HL5.out, ← HL4.out, ← HL3.out, ← HL2.out, ← HL1.out, ← HL0.out]
  subst e
  subst hN6
  exact ⟨A6, c6, rfl, hown6, hB6⟩
set_option maxHeartbeats 2000000 in
theorem rf010 (m2 : ByteArray) (m3 m4 : Nat) (m5 m6 m7 m8 : ByteArray) (h3 : ((m3 : Int) != 0) = true) (h4 : ((m4 : Int) != 0) = false) (w : World) (R : List Fld) (hR : (addF (addF (addF (addF ((addF [] ⟨2, 2, 0, m2⟩) ++ [⟨3, 0, m3, ⟨#[]⟩⟩]) ⟨5, 2, 0, m5⟩) ⟨6, 2, 0, m6⟩) ⟨7, 2, 0, m7⟩) ⟨8, 2, 0, m8⟩) = R) :
    Calls Try.prog 31 #[.agg #[.bool false, .string m2, .int .u64 m3, .int .u64 m4, .string m5, .string m6, .string m7, .string m8]] w fun e w' => ∃ A c, e = .returned (.slice A R.length c) ∧ w'.ownsRow w.heap.size 49 4 (.slice A R.length c) R.length (flc R) ∧ Below w.heap.size w w' := by
  have HR := Lib.hid hR
  clear hR
  obtain ⟨L, hL0⟩ : ∃ L : List Fld, [] = L := ⟨_, rfl⟩
  have hl : L.length = 0 := by rw [← hL0]; rfl
  have hown : (w.alloc (Obj.cells #[.bool false, .string m2, .int .u64 m3, .int .u64 m4, .string m5, .string m6, .string m7, .string m8] 24)).ownsRow w.heap.size 49 4 (.slice none 0 0) 0 (flc L) := by rw [← hL0]; exact World.ownsRow_nil _ _ _ _
  have HL0 := Lib.hid hL0
  clear hL0
  have hB := (Below.refl w.heap.size w).alloc (Nat.le_refl _) (Obj.cells #[.bool false, .string m2, .int .u64 m3, .int .u64 m4, .string m5, .string m6, .string m7, .string m8] 24)
  have hM : BoxM (w.alloc (Obj.cells #[.bool false, .string m2, .int .u64 m3, .int .u64 m4, .string m5, .string m6, .string m7, .string m8] 24)) w.heap.size ⟨false, m2, m3, m4, m5, m6, m7, m8⟩ := World.alloc_heap_new w _
  go_enter Try.func31, Try.ntmps31
  go_wp2_with fail
  have hn1 := hl
  refine (rt_at hown 2 m2 (by omega) hB.size).mono ?_
  rintro e W1 ⟨A1, c1, N1, rfl, hN1, hown1, hb1⟩
  have hM1 := hM.below hb1 hM.lt
  have hB1 := bel_step hB hb1
  obtain ⟨y10, y11, y12, y13, y14, y15, y16, y17⟩ := hM1.cells8
  have hl1 := addF_len L ⟨2, 2, 0, m2⟩
  obtain ⟨L1, hL1⟩ : ∃ L', addF L ⟨2, 2, 0, m2⟩ = L' := ⟨_, rfl⟩
  rw [hL1] at hown1 hl1 hN1
  have HL1 := Lib.hid hL1
  clear hL1 hown hB hM hb1
  go_wp2_with (at_builtin; first
    | (refine wpList_appF1 rfl _ _ rfl rfl hown1 ⟨3, 0, m3, ⟨#[]⟩⟩ rfl (by simp) (by omega) hB1.size ?_; intro A2 c2 W2 hown2 hg2; have hB2 := own_grown hB1 hown1 hB1.size hg2; have hM2 := hM1.row hown1 hg2; obtain ⟨L2, hL2⟩ : ∃ L', L1 ++ [⟨3, 0, m3, ⟨#[]⟩⟩] = L' := ⟨_, rfl⟩; have hl2 : L2.length = L1.length + 1 := (congrArg List.length hL2).symm.trans List.length_append; rw [hL2] at hown2; have HL2 := Lib.hid hL2; obtain ⟨y20, y21, y22, y23, y24, y25, y26, y27⟩ := hM2.cells8; clear hg2 hL2 hown1 hB1 hM1))
  have hn3 := hl2
  refine (rt_at hown2 5 m5 (by omega) hB2.size).mono ?_
  rintro e W3 ⟨A3, c3, N3, rfl, hN3, hown3, hb3⟩
  have hM3 := hM2.below hb3 hM2.lt
  have hB3 := bel_step hB2 hb3
  obtain ⟨y30, y31, y32, y33, y34, y35, y36, y37⟩ := hM3.cells8
  have hl3 := addF_len L2 ⟨5, 2, 0, m5⟩
  obtain ⟨L3, hL3⟩ : ∃ L', addF L2 ⟨5, 2, 0, m5⟩ = L' := ⟨_, rfl⟩
  rw [hL3] at hown3 hl3 hN3
  have HL3 := Lib.hid hL3
  clear hL3 hown2 hB2 hM2 hb3
  go_wp2_with fail
  have hn4 := hl3
  refine (rt_at hown3 6 m6 (by omega) hB3.size).mono ?_
  rintro e W4 ⟨A4, c4, N4, rfl, hN4, hown4, hb4⟩
  have hM4 := hM3.below hb4 hM3.lt
  have hB4 := bel_step hB3 hb4
  obtain ⟨y40, y41, y42, y43, y44, y45, y46, y47⟩ := hM4.cells8
  have hl4 := addF_len L3 ⟨6, 2, 0, m6⟩
  obtain ⟨L4, hL4⟩ : ∃ L', addF L3 ⟨6, 2, 0, m6⟩ = L' := ⟨_, rfl⟩
  rw [hL4] at hown4 hl4 hN4
  have HL4 := Lib.hid hL4
  clear hL4 hown3 hB3 hM3 hb4
  go_wp2_with fail
  have hn5 := hl4
  refine (rt_at hown4 7 m7 (by omega) hB4.size).mono ?_
  rintro e W5 ⟨A5, c5, N5, rfl, hN5, hown5, hb5⟩
  have hM5 := hM4.below hb5 hM4.lt
  have hB5 := bel_step hB4 hb5
  obtain ⟨y50, y51, y52, y53, y54, y55, y56, y57⟩ := hM5.cells8
  have hl5 := addF_len L4 ⟨7, 2, 0, m7⟩
  obtain ⟨L5, hL5⟩ : ∃ L', addF L4 ⟨7, 2, 0, m7⟩ = L' := ⟨_, rfl⟩
  rw [hL5] at hown5 hl5 hN5
  have HL5 := Lib.hid hL5
  clear hL5 hown4 hB4 hM4 hb5
  go_wp2_with fail
  have hn6 := hl5
  refine (rt_at hown5 8 m8 (by omega) hB5.size).mono ?_
  rintro e W6 ⟨A6, c6, N6, rfl, hN6, hown6, hb6⟩
  have hM6 := hM5.below hb6 hM5.lt
  have hB6 := bel_step hB5 hb6
  obtain ⟨y60, y61, y62, y63, y64, y65, y66, y67⟩ := hM6.cells8
  have hl6 := addF_len L5 ⟨8, 2, 0, m8⟩
  obtain ⟨L6, hL6⟩ : ∃ L', addF L5 ⟨8, 2, 0, m8⟩ = L' := ⟨_, rfl⟩
  rw [hL6] at hown6 hl6 hN6
  have HL6 := Lib.hid hL6
  clear hL6 hown5 hB5 hM5 hb6
  go_wp2_with fail
  go_ret
  have e : L6 = R := by rw [← HR.out, ← HL6.out, ← HL5.out, ← HL4.out, ← HL3.out, ← HL2.out, ← HL1.out, ← HL0.out]
  subst e
  subst hN6
  exact ⟨A6, c6, rfl, hown6, hB6⟩
set_option maxHeartbeats 2000000 in
theorem rf011 (m2 : ByteArray) (m3 m4 : Nat) (m5 m6 m7 m8 : ByteArray) (h3 : ((m3 : Int) != 0) = true) (h4 : ((m4 : Int) != 0) = true) (w : World) (R : List Fld) (hR : (addF (addF (addF (addF (((addF [] ⟨2, 2, 0, m2⟩) ++ [⟨3, 0, m3, ⟨#[]⟩⟩]) ++ [⟨4, 0, m4, ⟨#[]⟩⟩]) ⟨5, 2, 0, m5⟩) ⟨6, 2, 0, m6⟩) ⟨7, 2, 0, m7⟩) ⟨8, 2, 0, m8⟩) = R) :
    Calls Try.prog 31 #[.agg #[.bool false, .string m2, .int .u64 m3, .int .u64 m4, .string m5, .string m6, .string m7, .string m8]] w fun e w' => ∃ A c, e = .returned (.slice A R.length c) ∧ w'.ownsRow w.heap.size 49 4 (.slice A R.length c) R.length (flc R) ∧ Below w.heap.size w w' := by
  have HR := Lib.hid hR
  clear hR
  obtain ⟨L, hL0⟩ : ∃ L : List Fld, [] = L := ⟨_, rfl⟩
  have hl : L.length = 0 := by rw [← hL0]; rfl
  have hown : (w.alloc (Obj.cells #[.bool false, .string m2, .int .u64 m3, .int .u64 m4, .string m5, .string m6, .string m7, .string m8] 24)).ownsRow w.heap.size 49 4 (.slice none 0 0) 0 (flc L) := by rw [← hL0]; exact World.ownsRow_nil _ _ _ _
  have HL0 := Lib.hid hL0
  clear hL0
  have hB := (Below.refl w.heap.size w).alloc (Nat.le_refl _) (Obj.cells #[.bool false, .string m2, .int .u64 m3, .int .u64 m4, .string m5, .string m6, .string m7, .string m8] 24)
  have hM : BoxM (w.alloc (Obj.cells #[.bool false, .string m2, .int .u64 m3, .int .u64 m4, .string m5, .string m6, .string m7, .string m8] 24)) w.heap.size ⟨false, m2, m3, m4, m5, m6, m7, m8⟩ := World.alloc_heap_new w _
  go_enter Try.func31, Try.ntmps31
  go_wp2_with fail
  have hn1 := hl
  refine (rt_at hown 2 m2 (by omega) hB.size).mono ?_
  rintro e W1 ⟨A1, c1, N1, rfl, hN1, hown1, hb1⟩
  have hM1 := hM.below hb1 hM.lt
  have hB1 := bel_step hB hb1
  obtain ⟨y10, y11, y12, y13, y14, y15, y16, y17⟩ := hM1.cells8
  have hl1 := addF_len L ⟨2, 2, 0, m2⟩
  obtain ⟨L1, hL1⟩ : ∃ L', addF L ⟨2, 2, 0, m2⟩ = L' := ⟨_, rfl⟩
  rw [hL1] at hown1 hl1 hN1
  have HL1 := Lib.hid hL1
  clear hL1 hown hB hM hb1
  go_wp2_with (at_builtin; first
    | (refine wpList_appF1 rfl _ _ rfl rfl hown1 ⟨3, 0, m3, ⟨#[]⟩⟩ rfl (by simp) (by omega) hB1.size ?_; intro A2 c2 W2 hown2 hg2; have hB2 := own_grown hB1 hown1 hB1.size hg2; have hM2 := hM1.row hown1 hg2; obtain ⟨L2, hL2⟩ : ∃ L', L1 ++ [⟨3, 0, m3, ⟨#[]⟩⟩] = L' := ⟨_, rfl⟩; have hl2 : L2.length = L1.length + 1 := (congrArg List.length hL2).symm.trans List.length_append; rw [hL2] at hown2; have HL2 := Lib.hid hL2; obtain ⟨y20, y21, y22, y23, y24, y25, y26, y27⟩ := hM2.cells8; clear hg2 hL2 hown1 hB1 hM1)
    | (refine wpList_appF1 rfl _ _ rfl rfl hown2 ⟨4, 0, m4, ⟨#[]⟩⟩ rfl (by simp) (by omega) hB2.size ?_; intro A3 c3 W3 hown3 hg3; have hB3 := own_grown hB2 hown2 hB2.size hg3; have hM3 := hM2.row hown2 hg3; obtain ⟨L3, hL3⟩ : ∃ L', L2 ++ [⟨4, 0, m4, ⟨#[]⟩⟩] = L' := ⟨_, rfl⟩; have hl3 : L3.length = L2.length + 1 := (congrArg List.length hL3).symm.trans List.length_append; rw [hL3] at hown3; have HL3 := Lib.hid hL3; obtain ⟨y30, y31, y32, y33, y34, y35, y36, y37⟩ := hM3.cells8; clear hg3 hL3 hown2 hB2 hM2))
  have hn4 := hl3
  refine (rt_at hown3 5 m5 (by omega) hB3.size).mono ?_
  rintro e W4 ⟨A4, c4, N4, rfl, hN4, hown4, hb4⟩
  have hM4 := hM3.below hb4 hM3.lt
  have hB4 := bel_step hB3 hb4
  obtain ⟨y40, y41, y42, y43, y44, y45, y46, y47⟩ := hM4.cells8
  have hl4 := addF_len L3 ⟨5, 2, 0, m5⟩
  obtain ⟨L4, hL4⟩ : ∃ L', addF L3 ⟨5, 2, 0, m5⟩ = L' := ⟨_, rfl⟩
  rw [hL4] at hown4 hl4 hN4
  have HL4 := Lib.hid hL4
  clear hL4 hown3 hB3 hM3 hb4
  go_wp2_with fail
  have hn5 := hl4
  refine (rt_at hown4 6 m6 (by omega) hB4.size).mono ?_
  rintro e W5 ⟨A5, c5, N5, rfl, hN5, hown5, hb5⟩
  have hM5 := hM4.below hb5 hM4.lt
  have hB5 := bel_step hB4 hb5
  obtain ⟨y50, y51, y52, y53, y54, y55, y56, y57⟩ := hM5.cells8
  have hl5 := addF_len L4 ⟨6, 2, 0, m6⟩
  obtain ⟨L5, hL5⟩ : ∃ L', addF L4 ⟨6, 2, 0, m6⟩ = L' := ⟨_, rfl⟩
  rw [hL5] at hown5 hl5 hN5
  have HL5 := Lib.hid hL5
  clear hL5 hown4 hB4 hM4 hb5
  go_wp2_with fail
  have hn6 := hl5
  refine (rt_at hown5 7 m7 (by omega) hB5.size).mono ?_
  rintro e W6 ⟨A6, c6, N6, rfl, hN6, hown6, hb6⟩
  have hM6 := hM5.below hb6 hM5.lt
  have hB6 := bel_step hB5 hb6
  obtain ⟨y60, y61, y62, y63, y64, y65, y66, y67⟩ := hM6.cells8
  have hl6 := addF_len L5 ⟨7, 2, 0, m7⟩
  obtain ⟨L6, hL6⟩ : ∃ L', addF L5 ⟨7, 2, 0, m7⟩ = L' := ⟨_, rfl⟩
  rw [hL6] at hown6 hl6 hN6
  have HL6 := Lib.hid hL6
  clear hL6 hown5 hB5 hM5 hb6
  go_wp2_with fail
  have hn7 := hl6
  refine (rt_at hown6 8 m8 (by omega) hB6.size).mono ?_
  rintro e W7 ⟨A7, c7, N7, rfl, hN7, hown7, hb7⟩
  have hM7 := hM6.below hb7 hM6.lt
  have hB7 := bel_step hB6 hb7
  obtain ⟨y70, y71, y72, y73, y74, y75, y76, y77⟩ := hM7.cells8
  have hl7 := addF_len L6 ⟨8, 2, 0, m8⟩
  obtain ⟨L7, hL7⟩ : ∃ L', addF L6 ⟨8, 2, 0, m8⟩ = L' := ⟨_, rfl⟩
  rw [hL7] at hown7 hl7 hN7
  have HL7 := Lib.hid hL7
  clear hL7 hown6 hB6 hM6 hb7
  go_wp2_with fail
  go_ret
  have e : L7 = R := by rw [← HR.out, ← HL7.out, ← HL6.out, ← HL5.out, ← HL4.out, ← HL3.out, ← HL2.out, ← HL1.out, ← HL0.out]
  subst e
  subst hN7
  exact ⟨A7, c7, rfl, hown7, hB7⟩
set_option maxHeartbeats 2000000 in
theorem rf100 (m2 : ByteArray) (m3 m4 : Nat) (m5 m6 m7 m8 : ByteArray) (h3 : ((m3 : Int) != 0) = false) (h4 : ((m4 : Int) != 0) = false) (w : World) (R : List Fld) (hR : (addF (addF (addF (addF (addF ([] ++ [⟨1, 0, 1, ⟨#[]⟩⟩]) ⟨2, 2, 0, m2⟩) ⟨5, 2, 0, m5⟩) ⟨6, 2, 0, m6⟩) ⟨7, 2, 0, m7⟩) ⟨8, 2, 0, m8⟩) = R) :
    Calls Try.prog 31 #[.agg #[.bool true, .string m2, .int .u64 m3, .int .u64 m4, .string m5, .string m6, .string m7, .string m8]] w fun e w' => ∃ A c, e = .returned (.slice A R.length c) ∧ w'.ownsRow w.heap.size 49 4 (.slice A R.length c) R.length (flc R) ∧ Below w.heap.size w w' := by
  have HR := Lib.hid hR
  clear hR
  obtain ⟨L, hL0⟩ : ∃ L : List Fld, [] = L := ⟨_, rfl⟩
  have hl : L.length = 0 := by rw [← hL0]; rfl
  have hown : (w.alloc (Obj.cells #[.bool true, .string m2, .int .u64 m3, .int .u64 m4, .string m5, .string m6, .string m7, .string m8] 24)).ownsRow w.heap.size 49 4 (.slice none 0 0) 0 (flc L) := by rw [← hL0]; exact World.ownsRow_nil _ _ _ _
  have HL0 := Lib.hid hL0
  clear hL0
  have hB := (Below.refl w.heap.size w).alloc (Nat.le_refl _) (Obj.cells #[.bool true, .string m2, .int .u64 m3, .int .u64 m4, .string m5, .string m6, .string m7, .string m8] 24)
  have hM : BoxM (w.alloc (Obj.cells #[.bool true, .string m2, .int .u64 m3, .int .u64 m4, .string m5, .string m6, .string m7, .string m8] 24)) w.heap.size ⟨true, m2, m3, m4, m5, m6, m7, m8⟩ := World.alloc_heap_new w _
  go_enter Try.func31, Try.ntmps31
  go_wp2_with (at_builtin; first
    | (refine wpList_appF1 rfl _ _ rfl rfl hown ⟨1, 0, 1, ⟨#[]⟩⟩ rfl (by simp) (by omega) hB.size ?_; intro A1 c1 W1 hown1 hg1; have hB1 := own_grown hB hown hB.size hg1; have hM1 := hM.row hown hg1; obtain ⟨L1, hL1⟩ : ∃ L', L ++ [⟨1, 0, 1, ⟨#[]⟩⟩] = L' := ⟨_, rfl⟩; have hl1 : L1.length = L.length + 1 := (congrArg List.length hL1).symm.trans List.length_append; rw [hL1] at hown1; have HL1 := Lib.hid hL1; obtain ⟨y10, y11, y12, y13, y14, y15, y16, y17⟩ := hM1.cells8; clear hg1 hL1 hown hB hM))
  have hn2 := hl1
  refine (rt_at hown1 2 m2 (by omega) hB1.size).mono ?_
  rintro e W2 ⟨A2, c2, N2, rfl, hN2, hown2, hb2⟩
  have hM2 := hM1.below hb2 hM1.lt
  have hB2 := bel_step hB1 hb2
  obtain ⟨y20, y21, y22, y23, y24, y25, y26, y27⟩ := hM2.cells8
  have hl2 := addF_len L1 ⟨2, 2, 0, m2⟩
  obtain ⟨L2, hL2⟩ : ∃ L', addF L1 ⟨2, 2, 0, m2⟩ = L' := ⟨_, rfl⟩
  rw [hL2] at hown2 hl2 hN2
  have HL2 := Lib.hid hL2
  clear hL2 hown1 hB1 hM1 hb2
  go_wp2_with fail
  have hn3 := hl2
  refine (rt_at hown2 5 m5 (by omega) hB2.size).mono ?_
  rintro e W3 ⟨A3, c3, N3, rfl, hN3, hown3, hb3⟩
  have hM3 := hM2.below hb3 hM2.lt
  have hB3 := bel_step hB2 hb3
  obtain ⟨y30, y31, y32, y33, y34, y35, y36, y37⟩ := hM3.cells8
  have hl3 := addF_len L2 ⟨5, 2, 0, m5⟩
  obtain ⟨L3, hL3⟩ : ∃ L', addF L2 ⟨5, 2, 0, m5⟩ = L' := ⟨_, rfl⟩
  rw [hL3] at hown3 hl3 hN3
  have HL3 := Lib.hid hL3
  clear hL3 hown2 hB2 hM2 hb3
  go_wp2_with fail
  have hn4 := hl3
  refine (rt_at hown3 6 m6 (by omega) hB3.size).mono ?_
  rintro e W4 ⟨A4, c4, N4, rfl, hN4, hown4, hb4⟩
  have hM4 := hM3.below hb4 hM3.lt
  have hB4 := bel_step hB3 hb4
  obtain ⟨y40, y41, y42, y43, y44, y45, y46, y47⟩ := hM4.cells8
  have hl4 := addF_len L3 ⟨6, 2, 0, m6⟩
  obtain ⟨L4, hL4⟩ : ∃ L', addF L3 ⟨6, 2, 0, m6⟩ = L' := ⟨_, rfl⟩
  rw [hL4] at hown4 hl4 hN4
  have HL4 := Lib.hid hL4
  clear hL4 hown3 hB3 hM3 hb4
  go_wp2_with fail
  have hn5 := hl4
  refine (rt_at hown4 7 m7 (by omega) hB4.size).mono ?_
  rintro e W5 ⟨A5, c5, N5, rfl, hN5, hown5, hb5⟩
  have hM5 := hM4.below hb5 hM4.lt
  have hB5 := bel_step hB4 hb5
  obtain ⟨y50, y51, y52, y53, y54, y55, y56, y57⟩ := hM5.cells8
  have hl5 := addF_len L4 ⟨7, 2, 0, m7⟩
  obtain ⟨L5, hL5⟩ : ∃ L', addF L4 ⟨7, 2, 0, m7⟩ = L' := ⟨_, rfl⟩
  rw [hL5] at hown5 hl5 hN5
  have HL5 := Lib.hid hL5
  clear hL5 hown4 hB4 hM4 hb5
  go_wp2_with fail
  have hn6 := hl5
  refine (rt_at hown5 8 m8 (by omega) hB5.size).mono ?_
  rintro e W6 ⟨A6, c6, N6, rfl, hN6, hown6, hb6⟩
  have hM6 := hM5.below hb6 hM5.lt
  have hB6 := bel_step hB5 hb6
  obtain ⟨y60, y61, y62, y63, y64, y65, y66, y67⟩ := hM6.cells8
  have hl6 := addF_len L5 ⟨8, 2, 0, m8⟩
  obtain ⟨L6, hL6⟩ : ∃ L', addF L5 ⟨8, 2, 0, m8⟩ = L' := ⟨_, rfl⟩
  rw [hL6] at hown6 hl6 hN6
  have HL6 := Lib.hid hL6
  clear hL6 hown5 hB5 hM5 hb6
  go_wp2_with fail
  go_ret
  have e : L6 = R := by rw [← HR.out, ← HL6.out, ← HL5.out, ← HL4.out, ← HL3.out, ← HL2.out, ← HL1.out, ← HL0.out]
  subst e
  subst hN6
  exact ⟨A6, c6, rfl, hown6, hB6⟩
set_option maxHeartbeats 2000000 in
theorem rf101 (m2 : ByteArray) (m3 m4 : Nat) (m5 m6 m7 m8 : ByteArray) (h3 : ((m3 : Int) != 0) = false) (h4 : ((m4 : Int) != 0) = true) (w : World) (R : List Fld) (hR : (addF (addF (addF (addF ((addF ([] ++ [⟨1, 0, 1, ⟨#[]⟩⟩]) ⟨2, 2, 0, m2⟩) ++ [⟨4, 0, m4, ⟨#[]⟩⟩]) ⟨5, 2, 0, m5⟩) ⟨6, 2, 0, m6⟩) ⟨7, 2, 0, m7⟩) ⟨8, 2, 0, m8⟩) = R) :
    Calls Try.prog 31 #[.agg #[.bool true, .string m2, .int .u64 m3, .int .u64 m4, .string m5, .string m6, .string m7, .string m8]] w fun e w' => ∃ A c, e = .returned (.slice A R.length c) ∧ w'.ownsRow w.heap.size 49 4 (.slice A R.length c) R.length (flc R) ∧ Below w.heap.size w w' := by
  have HR := Lib.hid hR
  clear hR
  obtain ⟨L, hL0⟩ : ∃ L : List Fld, [] = L := ⟨_, rfl⟩
  have hl : L.length = 0 := by rw [← hL0]; rfl
  have hown : (w.alloc (Obj.cells #[.bool true, .string m2, .int .u64 m3, .int .u64 m4, .string m5, .string m6, .string m7, .string m8] 24)).ownsRow w.heap.size 49 4 (.slice none 0 0) 0 (flc L) := by rw [← hL0]; exact World.ownsRow_nil _ _ _ _
  have HL0 := Lib.hid hL0
  clear hL0
  have hB := (Below.refl w.heap.size w).alloc (Nat.le_refl _) (Obj.cells #[.bool true, .string m2, .int .u64 m3, .int .u64 m4, .string m5, .string m6, .string m7, .string m8] 24)
  have hM : BoxM (w.alloc (Obj.cells #[.bool true, .string m2, .int .u64 m3, .int .u64 m4, .string m5, .string m6, .string m7, .string m8] 24)) w.heap.size ⟨true, m2, m3, m4, m5, m6, m7, m8⟩ := World.alloc_heap_new w _
  go_enter Try.func31, Try.ntmps31
  go_wp2_with (at_builtin; first
    | (refine wpList_appF1 rfl _ _ rfl rfl hown ⟨1, 0, 1, ⟨#[]⟩⟩ rfl (by simp) (by omega) hB.size ?_; intro A1 c1 W1 hown1 hg1; have hB1 := own_grown hB hown hB.size hg1; have hM1 := hM.row hown hg1; obtain ⟨L1, hL1⟩ : ∃ L', L ++ [⟨1, 0, 1, ⟨#[]⟩⟩] = L' := ⟨_, rfl⟩; have hl1 : L1.length = L.length + 1 := (congrArg List.length hL1).symm.trans List.length_append; rw [hL1] at hown1; have HL1 := Lib.hid hL1; obtain ⟨y10, y11, y12, y13, y14, y15, y16, y17⟩ := hM1.cells8; clear hg1 hL1 hown hB hM))
  have hn2 := hl1
  refine (rt_at hown1 2 m2 (by omega) hB1.size).mono ?_
  rintro e W2 ⟨A2, c2, N2, rfl, hN2, hown2, hb2⟩
  have hM2 := hM1.below hb2 hM1.lt
  have hB2 := bel_step hB1 hb2
  obtain ⟨y20, y21, y22, y23, y24, y25, y26, y27⟩ := hM2.cells8
  have hl2 := addF_len L1 ⟨2, 2, 0, m2⟩
  obtain ⟨L2, hL2⟩ : ∃ L', addF L1 ⟨2, 2, 0, m2⟩ = L' := ⟨_, rfl⟩
  rw [hL2] at hown2 hl2 hN2
  have HL2 := Lib.hid hL2
  clear hL2 hown1 hB1 hM1 hb2
  go_wp2_with (at_builtin; first
    | (refine wpList_appF1 rfl _ _ rfl rfl hown2 ⟨4, 0, m4, ⟨#[]⟩⟩ rfl (by simp) (by omega) hB2.size ?_; intro A3 c3 W3 hown3 hg3; have hB3 := own_grown hB2 hown2 hB2.size hg3; have hM3 := hM2.row hown2 hg3; obtain ⟨L3, hL3⟩ : ∃ L', L2 ++ [⟨4, 0, m4, ⟨#[]⟩⟩] = L' := ⟨_, rfl⟩; have hl3 : L3.length = L2.length + 1 := (congrArg List.length hL3).symm.trans List.length_append; rw [hL3] at hown3; have HL3 := Lib.hid hL3; obtain ⟨y30, y31, y32, y33, y34, y35, y36, y37⟩ := hM3.cells8; clear hg3 hL3 hown2 hB2 hM2))
  have hn4 := hl3
  refine (rt_at hown3 5 m5 (by omega) hB3.size).mono ?_
  rintro e W4 ⟨A4, c4, N4, rfl, hN4, hown4, hb4⟩
  have hM4 := hM3.below hb4 hM3.lt
  have hB4 := bel_step hB3 hb4
  obtain ⟨y40, y41, y42, y43, y44, y45, y46, y47⟩ := hM4.cells8
  have hl4 := addF_len L3 ⟨5, 2, 0, m5⟩
  obtain ⟨L4, hL4⟩ : ∃ L', addF L3 ⟨5, 2, 0, m5⟩ = L' := ⟨_, rfl⟩
  rw [hL4] at hown4 hl4 hN4
  have HL4 := Lib.hid hL4
  clear hL4 hown3 hB3 hM3 hb4
  go_wp2_with fail
  have hn5 := hl4
  refine (rt_at hown4 6 m6 (by omega) hB4.size).mono ?_
  rintro e W5 ⟨A5, c5, N5, rfl, hN5, hown5, hb5⟩
  have hM5 := hM4.below hb5 hM4.lt
  have hB5 := bel_step hB4 hb5
  obtain ⟨y50, y51, y52, y53, y54, y55, y56, y57⟩ := hM5.cells8
  have hl5 := addF_len L4 ⟨6, 2, 0, m6⟩
  obtain ⟨L5, hL5⟩ : ∃ L', addF L4 ⟨6, 2, 0, m6⟩ = L' := ⟨_, rfl⟩
  rw [hL5] at hown5 hl5 hN5
  have HL5 := Lib.hid hL5
  clear hL5 hown4 hB4 hM4 hb5
  go_wp2_with fail
  have hn6 := hl5
  refine (rt_at hown5 7 m7 (by omega) hB5.size).mono ?_
  rintro e W6 ⟨A6, c6, N6, rfl, hN6, hown6, hb6⟩
  have hM6 := hM5.below hb6 hM5.lt
  have hB6 := bel_step hB5 hb6
  obtain ⟨y60, y61, y62, y63, y64, y65, y66, y67⟩ := hM6.cells8
  have hl6 := addF_len L5 ⟨7, 2, 0, m7⟩
  obtain ⟨L6, hL6⟩ : ∃ L', addF L5 ⟨7, 2, 0, m7⟩ = L' := ⟨_, rfl⟩
  rw [hL6] at hown6 hl6 hN6
  have HL6 := Lib.hid hL6
  clear hL6 hown5 hB5 hM5 hb6
  go_wp2_with fail
  have hn7 := hl6
  refine (rt_at hown6 8 m8 (by omega) hB6.size).mono ?_
  rintro e W7 ⟨A7, c7, N7, rfl, hN7, hown7, hb7⟩
  have hM7 := hM6.below hb7 hM6.lt
  have hB7 := bel_step hB6 hb7
  obtain ⟨y70, y71, y72, y73, y74, y75, y76, y77⟩ := hM7.cells8
  have hl7 := addF_len L6 ⟨8, 2, 0, m8⟩
  obtain ⟨L7, hL7⟩ : ∃ L', addF L6 ⟨8, 2, 0, m8⟩ = L' := ⟨_, rfl⟩
  rw [hL7] at hown7 hl7 hN7
  have HL7 := Lib.hid hL7
  clear hL7 hown6 hB6 hM6 hb7
  go_wp2_with fail
  go_ret
  have e : L7 = R := by rw [← HR.out, ← HL7.out, ← HL6.out, ← HL5.out, ← HL4.out, ← HL3.out, ← HL2.out, ← HL1.out, ← HL0.out]
  subst e
  subst hN7
  exact ⟨A7, c7, rfl, hown7, hB7⟩
set_option maxHeartbeats 2000000 in
theorem rf110 (m2 : ByteArray) (m3 m4 : Nat) (m5 m6 m7 m8 : ByteArray) (h3 : ((m3 : Int) != 0) = true) (h4 : ((m4 : Int) != 0) = false) (w : World) (R : List Fld) (hR : (addF (addF (addF (addF ((addF ([] ++ [⟨1, 0, 1, ⟨#[]⟩⟩]) ⟨2, 2, 0, m2⟩) ++ [⟨3, 0, m3, ⟨#[]⟩⟩]) ⟨5, 2, 0, m5⟩) ⟨6, 2, 0, m6⟩) ⟨7, 2, 0, m7⟩) ⟨8, 2, 0, m8⟩) = R) :
    Calls Try.prog 31 #[.agg #[.bool true, .string m2, .int .u64 m3, .int .u64 m4, .string m5, .string m6, .string m7, .string m8]] w fun e w' => ∃ A c, e = .returned (.slice A R.length c) ∧ w'.ownsRow w.heap.size 49 4 (.slice A R.length c) R.length (flc R) ∧ Below w.heap.size w w' := by
  have HR := Lib.hid hR
  clear hR
  obtain ⟨L, hL0⟩ : ∃ L : List Fld, [] = L := ⟨_, rfl⟩
  have hl : L.length = 0 := by rw [← hL0]; rfl
  have hown : (w.alloc (Obj.cells #[.bool true, .string m2, .int .u64 m3, .int .u64 m4, .string m5, .string m6, .string m7, .string m8] 24)).ownsRow w.heap.size 49 4 (.slice none 0 0) 0 (flc L) := by rw [← hL0]; exact World.ownsRow_nil _ _ _ _
  have HL0 := Lib.hid hL0
  clear hL0
  have hB := (Below.refl w.heap.size w).alloc (Nat.le_refl _) (Obj.cells #[.bool true, .string m2, .int .u64 m3, .int .u64 m4, .string m5, .string m6, .string m7, .string m8] 24)
  have hM : BoxM (w.alloc (Obj.cells #[.bool true, .string m2, .int .u64 m3, .int .u64 m4, .string m5, .string m6, .string m7, .string m8] 24)) w.heap.size ⟨true, m2, m3, m4, m5, m6, m7, m8⟩ := World.alloc_heap_new w _
  go_enter Try.func31, Try.ntmps31
  go_wp2_with (at_builtin; first
    | (refine wpList_appF1 rfl _ _ rfl rfl hown ⟨1, 0, 1, ⟨#[]⟩⟩ rfl (by simp) (by omega) hB.size ?_; intro A1 c1 W1 hown1 hg1; have hB1 := own_grown hB hown hB.size hg1; have hM1 := hM.row hown hg1; obtain ⟨L1, hL1⟩ : ∃ L', L ++ [⟨1, 0, 1, ⟨#[]⟩⟩] = L' := ⟨_, rfl⟩; have hl1 : L1.length = L.length + 1 := (congrArg List.length hL1).symm.trans List.length_append; rw [hL1] at hown1; have HL1 := Lib.hid hL1; obtain ⟨y10, y11, y12, y13, y14, y15, y16, y17⟩ := hM1.cells8; clear hg1 hL1 hown hB hM))
  have hn2 := hl1
  refine (rt_at hown1 2 m2 (by omega) hB1.size).mono ?_
  rintro e W2 ⟨A2, c2, N2, rfl, hN2, hown2, hb2⟩
  have hM2 := hM1.below hb2 hM1.lt
  have hB2 := bel_step hB1 hb2
  obtain ⟨y20, y21, y22, y23, y24, y25, y26, y27⟩ := hM2.cells8
  have hl2 := addF_len L1 ⟨2, 2, 0, m2⟩
  obtain ⟨L2, hL2⟩ : ∃ L', addF L1 ⟨2, 2, 0, m2⟩ = L' := ⟨_, rfl⟩
  rw [hL2] at hown2 hl2 hN2
  have HL2 := Lib.hid hL2
  clear hL2 hown1 hB1 hM1 hb2
  go_wp2_with (at_builtin; first
    | (refine wpList_appF1 rfl _ _ rfl rfl hown2 ⟨3, 0, m3, ⟨#[]⟩⟩ rfl (by simp) (by omega) hB2.size ?_; intro A3 c3 W3 hown3 hg3; have hB3 := own_grown hB2 hown2 hB2.size hg3; have hM3 := hM2.row hown2 hg3; obtain ⟨L3, hL3⟩ : ∃ L', L2 ++ [⟨3, 0, m3, ⟨#[]⟩⟩] = L' := ⟨_, rfl⟩; have hl3 : L3.length = L2.length + 1 := (congrArg List.length hL3).symm.trans List.length_append; rw [hL3] at hown3; have HL3 := Lib.hid hL3; obtain ⟨y30, y31, y32, y33, y34, y35, y36, y37⟩ := hM3.cells8; clear hg3 hL3 hown2 hB2 hM2))
  have hn4 := hl3
  refine (rt_at hown3 5 m5 (by omega) hB3.size).mono ?_
  rintro e W4 ⟨A4, c4, N4, rfl, hN4, hown4, hb4⟩
  have hM4 := hM3.below hb4 hM3.lt
  have hB4 := bel_step hB3 hb4
  obtain ⟨y40, y41, y42, y43, y44, y45, y46, y47⟩ := hM4.cells8
  have hl4 := addF_len L3 ⟨5, 2, 0, m5⟩
  obtain ⟨L4, hL4⟩ : ∃ L', addF L3 ⟨5, 2, 0, m5⟩ = L' := ⟨_, rfl⟩
  rw [hL4] at hown4 hl4 hN4
  have HL4 := Lib.hid hL4
  clear hL4 hown3 hB3 hM3 hb4
  go_wp2_with fail
  have hn5 := hl4
  refine (rt_at hown4 6 m6 (by omega) hB4.size).mono ?_
  rintro e W5 ⟨A5, c5, N5, rfl, hN5, hown5, hb5⟩
  have hM5 := hM4.below hb5 hM4.lt
  have hB5 := bel_step hB4 hb5
  obtain ⟨y50, y51, y52, y53, y54, y55, y56, y57⟩ := hM5.cells8
  have hl5 := addF_len L4 ⟨6, 2, 0, m6⟩
  obtain ⟨L5, hL5⟩ : ∃ L', addF L4 ⟨6, 2, 0, m6⟩ = L' := ⟨_, rfl⟩
  rw [hL5] at hown5 hl5 hN5
  have HL5 := Lib.hid hL5
  clear hL5 hown4 hB4 hM4 hb5
  go_wp2_with fail
  have hn6 := hl5
  refine (rt_at hown5 7 m7 (by omega) hB5.size).mono ?_
  rintro e W6 ⟨A6, c6, N6, rfl, hN6, hown6, hb6⟩
  have hM6 := hM5.below hb6 hM5.lt
  have hB6 := bel_step hB5 hb6
  obtain ⟨y60, y61, y62, y63, y64, y65, y66, y67⟩ := hM6.cells8
  have hl6 := addF_len L5 ⟨7, 2, 0, m7⟩
  obtain ⟨L6, hL6⟩ : ∃ L', addF L5 ⟨7, 2, 0, m7⟩ = L' := ⟨_, rfl⟩
  rw [hL6] at hown6 hl6 hN6
  have HL6 := Lib.hid hL6
  clear hL6 hown5 hB5 hM5 hb6
  go_wp2_with fail
  have hn7 := hl6
  refine (rt_at hown6 8 m8 (by omega) hB6.size).mono ?_
  rintro e W7 ⟨A7, c7, N7, rfl, hN7, hown7, hb7⟩
  have hM7 := hM6.below hb7 hM6.lt
  have hB7 := bel_step hB6 hb7
  obtain ⟨y70, y71, y72, y73, y74, y75, y76, y77⟩ := hM7.cells8
  have hl7 := addF_len L6 ⟨8, 2, 0, m8⟩
  obtain ⟨L7, hL7⟩ : ∃ L', addF L6 ⟨8, 2, 0, m8⟩ = L' := ⟨_, rfl⟩
  rw [hL7] at hown7 hl7 hN7
  have HL7 := Lib.hid hL7
  clear hL7 hown6 hB6 hM6 hb7
  go_wp2_with fail
  go_ret
  have e : L7 = R := by rw [← HR.out, ← HL7.out, ← HL6.out, ← HL5.out, ← HL4.out, ← HL3.out, ← HL2.out, ← HL1.out, ← HL0.out]
  subst e
  subst hN7
  exact ⟨A7, c7, rfl, hown7, hB7⟩
set_option maxHeartbeats 2000000 in
theorem rf111 (m2 : ByteArray) (m3 m4 : Nat) (m5 m6 m7 m8 : ByteArray) (h3 : ((m3 : Int) != 0) = true) (h4 : ((m4 : Int) != 0) = true) (w : World) (R : List Fld) (hR : (addF (addF (addF (addF (((addF ([] ++ [⟨1, 0, 1, ⟨#[]⟩⟩]) ⟨2, 2, 0, m2⟩) ++ [⟨3, 0, m3, ⟨#[]⟩⟩]) ++ [⟨4, 0, m4, ⟨#[]⟩⟩]) ⟨5, 2, 0, m5⟩) ⟨6, 2, 0, m6⟩) ⟨7, 2, 0, m7⟩) ⟨8, 2, 0, m8⟩) = R) :
    Calls Try.prog 31 #[.agg #[.bool true, .string m2, .int .u64 m3, .int .u64 m4, .string m5, .string m6, .string m7, .string m8]] w fun e w' => ∃ A c, e = .returned (.slice A R.length c) ∧ w'.ownsRow w.heap.size 49 4 (.slice A R.length c) R.length (flc R) ∧ Below w.heap.size w w' := by
  have HR := Lib.hid hR
  clear hR
  obtain ⟨L, hL0⟩ : ∃ L : List Fld, [] = L := ⟨_, rfl⟩
  have hl : L.length = 0 := by rw [← hL0]; rfl
  have hown : (w.alloc (Obj.cells #[.bool true, .string m2, .int .u64 m3, .int .u64 m4, .string m5, .string m6, .string m7, .string m8] 24)).ownsRow w.heap.size 49 4 (.slice none 0 0) 0 (flc L) := by rw [← hL0]; exact World.ownsRow_nil _ _ _ _
  have HL0 := Lib.hid hL0
  clear hL0
  have hB := (Below.refl w.heap.size w).alloc (Nat.le_refl _) (Obj.cells #[.bool true, .string m2, .int .u64 m3, .int .u64 m4, .string m5, .string m6, .string m7, .string m8] 24)
  have hM : BoxM (w.alloc (Obj.cells #[.bool true, .string m2, .int .u64 m3, .int .u64 m4, .string m5, .string m6, .string m7, .string m8] 24)) w.heap.size ⟨true, m2, m3, m4, m5, m6, m7, m8⟩ := World.alloc_heap_new w _
  go_enter Try.func31, Try.ntmps31
  go_wp2_with (at_builtin; first
    | (refine wpList_appF1 rfl _ _ rfl rfl hown ⟨1, 0, 1, ⟨#[]⟩⟩ rfl (by simp) (by omega) hB.size ?_; intro A1 c1 W1 hown1 hg1; have hB1 := own_grown hB hown hB.size hg1; have hM1 := hM.row hown hg1; obtain ⟨L1, hL1⟩ : ∃ L', L ++ [⟨1, 0, 1, ⟨#[]⟩⟩] = L' := ⟨_, rfl⟩; have hl1 : L1.length = L.length + 1 := (congrArg List.length hL1).symm.trans List.length_append; rw [hL1] at hown1; have HL1 := Lib.hid hL1; obtain ⟨y10, y11, y12, y13, y14, y15, y16, y17⟩ := hM1.cells8; clear hg1 hL1 hown hB hM))
  have hn2 := hl1
  refine (rt_at hown1 2 m2 (by omega) hB1.size).mono ?_
  rintro e W2 ⟨A2, c2, N2, rfl, hN2, hown2, hb2⟩
  have hM2 := hM1.below hb2 hM1.lt
  have hB2 := bel_step hB1 hb2
  obtain ⟨y20, y21, y22, y23, y24, y25, y26, y27⟩ := hM2.cells8
  have hl2 := addF_len L1 ⟨2, 2, 0, m2⟩
  obtain ⟨L2, hL2⟩ : ∃ L', addF L1 ⟨2, 2, 0, m2⟩ = L' := ⟨_, rfl⟩
  rw [hL2] at hown2 hl2 hN2
  have HL2 := Lib.hid hL2
  clear hL2 hown1 hB1 hM1 hb2
  go_wp2_with (at_builtin; first
    | (refine wpList_appF1 rfl _ _ rfl rfl hown2 ⟨3, 0, m3, ⟨#[]⟩⟩ rfl (by simp) (by omega) hB2.size ?_; intro A3 c3 W3 hown3 hg3; have hB3 := own_grown hB2 hown2 hB2.size hg3; have hM3 := hM2.row hown2 hg3; obtain ⟨L3, hL3⟩ : ∃ L', L2 ++ [⟨3, 0, m3, ⟨#[]⟩⟩] = L' := ⟨_, rfl⟩; have hl3 : L3.length = L2.length + 1 := (congrArg List.length hL3).symm.trans List.length_append; rw [hL3] at hown3; have HL3 := Lib.hid hL3; obtain ⟨y30, y31, y32, y33, y34, y35, y36, y37⟩ := hM3.cells8; clear hg3 hL3 hown2 hB2 hM2)
    | (refine wpList_appF1 rfl _ _ rfl rfl hown3 ⟨4, 0, m4, ⟨#[]⟩⟩ rfl (by simp) (by omega) hB3.size ?_; intro A4 c4 W4 hown4 hg4; have hB4 := own_grown hB3 hown3 hB3.size hg4; have hM4 := hM3.row hown3 hg4; obtain ⟨L4, hL4⟩ : ∃ L', L3 ++ [⟨4, 0, m4, ⟨#[]⟩⟩] = L' := ⟨_, rfl⟩; have hl4 : L4.length = L3.length + 1 := (congrArg List.length hL4).symm.trans List.length_append; rw [hL4] at hown4; have HL4 := Lib.hid hL4; obtain ⟨y40, y41, y42, y43, y44, y45, y46, y47⟩ := hM4.cells8; clear hg4 hL4 hown3 hB3 hM3))
  have hn5 := hl4
  refine (rt_at hown4 5 m5 (by omega) hB4.size).mono ?_
  rintro e W5 ⟨A5, c5, N5, rfl, hN5, hown5, hb5⟩
  have hM5 := hM4.below hb5 hM4.lt
  have hB5 := bel_step hB4 hb5
  obtain ⟨y50, y51, y52, y53, y54, y55, y56, y57⟩ := hM5.cells8
  have hl5 := addF_len L4 ⟨5, 2, 0, m5⟩
  obtain ⟨L5, hL5⟩ : ∃ L', addF L4 ⟨5, 2, 0, m5⟩ = L' := ⟨_, rfl⟩
  rw [hL5] at hown5 hl5 hN5
  have HL5 := Lib.hid hL5
  clear hL5 hown4 hB4 hM4 hb5
  go_wp2_with fail
  have hn6 := hl5
  refine (rt_at hown5 6 m6 (by omega) hB5.size).mono ?_
  rintro e W6 ⟨A6, c6, N6, rfl, hN6, hown6, hb6⟩
  have hM6 := hM5.below hb6 hM5.lt
  have hB6 := bel_step hB5 hb6
  obtain ⟨y60, y61, y62, y63, y64, y65, y66, y67⟩ := hM6.cells8
  have hl6 := addF_len L5 ⟨6, 2, 0, m6⟩
  obtain ⟨L6, hL6⟩ : ∃ L', addF L5 ⟨6, 2, 0, m6⟩ = L' := ⟨_, rfl⟩
  rw [hL6] at hown6 hl6 hN6
  have HL6 := Lib.hid hL6
  clear hL6 hown5 hB5 hM5 hb6
  go_wp2_with fail
  have hn7 := hl6
  refine (rt_at hown6 7 m7 (by omega) hB6.size).mono ?_
  rintro e W7 ⟨A7, c7, N7, rfl, hN7, hown7, hb7⟩
  have hM7 := hM6.below hb7 hM6.lt
  have hB7 := bel_step hB6 hb7
  obtain ⟨y70, y71, y72, y73, y74, y75, y76, y77⟩ := hM7.cells8
  have hl7 := addF_len L6 ⟨7, 2, 0, m7⟩
  obtain ⟨L7, hL7⟩ : ∃ L', addF L6 ⟨7, 2, 0, m7⟩ = L' := ⟨_, rfl⟩
  rw [hL7] at hown7 hl7 hN7
  have HL7 := Lib.hid hL7
  clear hL7 hown6 hB6 hM6 hb7
  go_wp2_with fail
  have hn8 := hl7
  refine (rt_at hown7 8 m8 (by omega) hB7.size).mono ?_
  rintro e W8 ⟨A8, c8, N8, rfl, hN8, hown8, hb8⟩
  have hM8 := hM7.below hb8 hM7.lt
  have hB8 := bel_step hB7 hb8
  obtain ⟨y80, y81, y82, y83, y84, y85, y86, y87⟩ := hM8.cells8
  have hl8 := addF_len L7 ⟨8, 2, 0, m8⟩
  obtain ⟨L8, hL8⟩ : ∃ L', addF L7 ⟨8, 2, 0, m8⟩ = L' := ⟨_, rfl⟩
  rw [hL8] at hown8 hl8 hN8
  have HL8 := Lib.hid hL8
  clear hL8 hown7 hB7 hM7 hb8
  go_wp2_with fail
  go_ret
  have e : L8 = R := by rw [← HR.out, ← HL8.out, ← HL7.out, ← HL6.out, ← HL5.out, ← HL4.out, ← HL3.out, ← HL2.out, ← HL1.out, ← HL0.out]
  subst e
  subst hN8
  exact ⟨A8, c8, rfl, hown8, hB8⟩
theorem rfields_any (m : MM) (w : World) :
    Calls Try.prog 31 #[.agg m.cells] w fun e w' => ∃ A c, e = .returned (.slice A (mfields m).length c) ∧ w'.ownsRow w.heap.size 49 4 (.slice A (mfields m).length c) (mfields m).length (flc (mfields m)) ∧ Below w.heap.size w w' := by
  have hR := (mfields_fold m).symm
  generalize mfields m = R at *
  obtain ⟨m1, m2, m3, m4, m5, m6, m7, m8⟩ := m
  simp only [mall, List.foldl_cons, List.foldl_nil] at hR
  have hE : (ByteArray.mk #[]).toList = [] := by decide +kernel
  have e0 : addF [] ⟨1, 0, 0, ⟨#[]⟩⟩ = [] := by unfold addF; simp [fhas, hE]
  have e1 : addF [] ⟨1, 0, 1, ⟨#[]⟩⟩ = [] ++ [⟨1, 0, 1, ⟨#[]⟩⟩] := by unfold addF; simp [fhas]
  have e3 : ∀ (L : List Fld) (k : Int) (n : Nat), ((n : Int) != 0) = false → addF L ⟨k, 0, n, ⟨#[]⟩⟩ = L := by intro L k n h; unfold addF fhas; rw [h]; simp [hE]
  have e4 : ∀ (L : List Fld) (k : Int) (n : Nat), ((n : Int) != 0) = true → addF L ⟨k, 0, n, ⟨#[]⟩⟩ = L ++ [⟨k, 0, n, ⟨#[]⟩⟩] := by intro L k n h; unfold addF fhas; rw [h]; simp
  cases m1 <;> cases h3 : ((m3 : Int) != 0) <;> cases h4 : ((m4 : Int) != 0)
  all_goals simp only [Bool.false_eq_true, if_false, if_true, e0, e1] at hR
  · rw [e3 _ _ _ h3, e3 _ _ _ h4] at hR; exact rf000 m2 m3 m4 m5 m6 m7 m8 h3 h4 w R hR
  · rw [e3 _ _ _ h3, e4 _ _ _ h4] at hR; exact rf001 m2 m3 m4 m5 m6 m7 m8 h3 h4 w R hR
  · rw [e4 _ _ _ h3, e3 _ _ _ h4] at hR; exact rf010 m2 m3 m4 m5 m6 m7 m8 h3 h4 w R hR
  · rw [e4 _ _ _ h3, e4 _ _ _ h4] at hR; exact rf011 m2 m3 m4 m5 m6 m7 m8 h3 h4 w R hR
  · rw [e3 _ _ _ h3, e3 _ _ _ h4] at hR; exact rf100 m2 m3 m4 m5 m6 m7 m8 h3 h4 w R hR
  · rw [e3 _ _ _ h3, e4 _ _ _ h4] at hR; exact rf101 m2 m3 m4 m5 m6 m7 m8 h3 h4 w R hR
  · rw [e4 _ _ _ h3, e3 _ _ _ h4] at hR; exact rf110 m2 m3 m4 m5 m6 m7 m8 h3 h4 w R hR
  · rw [e4 _ _ _ h3, e4 _ _ _ h4] at hR; exact rf111 m2 m3 m4 m5 m6 m7 m8 h3 h4 w R hR
end Go.Proofs.Ytkanhggmhjldmaa
