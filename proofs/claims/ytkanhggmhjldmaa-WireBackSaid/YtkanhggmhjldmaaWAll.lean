/- WALKS: wire.All, wire.Last -/
import Derived.Test.YtkanhggmhjldmaaWLaw
import Derived.Laws.EntriesVeiled
namespace Go.Proofs.Ytkanhggmhjldmaa
open Go.RowKit Plain

def wall (num : Int) (l : List Fld) : List Fld := l.filter fun f => f.num == num
theorem wall_step {num : Int} {l : List Fld} {j : Nat} {f : Fld} (h : l[j]? = some f) : wall num (l.take (j + 1)) = if (f.num == num) = true then wall num (l.take j) ++ [f] else wall num (l.take j) := by
  unfold wall
  rw [List.take_add_one, h]
  cases hf : (f.num == num) <;> simp [hf]
theorem allw_any (B : Nat) (num : Int) (f : Fld) (W : World) (hb : W.cell? ⟨B, 0, none⟩ = some (.int .i64 num)) :
    Calls Try.prog 43 #[.agg #[.int .i64 f.num, .int .i64 f.kind, .int .u64 f.val, .string f.text], .pointer (some ⟨B, 0, none⟩)] W fun e w' => e = .returned (.bool (f.num == num)) ∧ Below W.heap.size W w' := by
  have hlb := World.block_lt_of_cell? W _ hb
  have hB := (Below.refl W.heap.size W).alloc (Nat.le_refl _) (Obj.cells #[.int .i64 f.num, .int .i64 f.kind, .int .u64 f.val, .string f.text] 49)
  have hb1 := (hB.cell hlb).trans hb
  go_enter Try.func43, Try.ntmps43
  go_wp2_with fail
  go_ret
  exact ⟨rfl, hB⟩
set_option maxRecDepth 100000 in
set_option maxHeartbeats 2000000 in
theorem pick_any (B : Nat) (num : Int) (l : List Fld) (A : Option Addr) (c : Nat) (hl : l.length ≤ 1000) (w : World) (hr : Rd w w.heap.size A (flc l)) (hb : w.cell? ⟨B, 0, none⟩ = some (.int .i64 num)) :
    Calls Try.prog 42 #[.slice A l.length c, .func (.func 43) #[] #[.pointer (some ⟨B, 0, none⟩)]] w fun e w' => ∃ A' c', e = .returned (.slice A' (wall num l).length c') ∧ w'.ownsRow w.heap.size 49 4 (.slice A' (wall num l).length c') (wall num l).length (flc (wall num l)) ∧ Below w.heap.size w w' := by
  have HR := Lib.hid hr
  have HB := Lib.hid hb
  have hlb := World.block_lt_of_cell? w _ hb
  clear hr hb
  go_enter Try.func42, Try.ntmps42
  go_wp2_with fail
  go_loopw [5, 10] (fun o i wr => ∃ (j N : Nat) (A2 : Option Addr) (c2 : Nat), i = .int .i64 j ∧ o = .slice A2 N c2 ∧ j ≤ l.length ∧ (wall num (l.take j)).length = N ∧ wr.ownsRow w.heap.size 49 4 (.slice A2 N c2) N (flc (wall num (l.take j))) ∧ Below w.heap.size w wr) (fun _ i _ => l.length - (intOf i).toNat)
  case atStart => exact ⟨0, 0, none, 0, rfl, rfl, Nat.zero_le _, rfl, World.ownsRow_nil _ _ _ _, Below.refl _ _⟩
  case round =>
    obtain ⟨j, N, A2, c2, rfl, rfl, hj, hN, hown, hB⟩ := hrel
    by_cases hlt : j < l.length
    · obtain ⟨f, hf⟩ : ∃ f, l[j]? = some f := ⟨_, List.getElem?_eq_getElem hlt⟩
      obtain ⟨b1, o1, rfl, hb1, g0, g1, g2, g3⟩ := fld_at (HR.out.below hB (Nat.le_refl _)) hf
      have HST := Lib.hid (wall_step (num := num) hf)
      have hNle : N ≤ 1000 := by rw [← hN]; unfold wall; exact Nat.le_trans (List.length_filter_le _ _) (by simp; omega)
      have HNN := Lib.hid hN
      have HNL := Lib.hid hNle
      obtain ⟨fn, fk, fv, ft⟩ := f
      have hal := (Below.refl wr.heap.size wr).alloc (Nat.le_refl _) (Obj.cells #[.int .i64 fn, .int .i64 fk, .int .u64 fv, .string ft] 49)
      have hcall := allw_any B num ⟨fn, fk, fv, ft⟩ (wr.alloc (Obj.cells #[.int .i64 fn, .int .i64 fk, .int .u64 fv, .string ft] 49)) ((hal.cell (Nat.lt_of_lt_of_le hlb hB.size)).trans ((hB.cell hlb).trans HB.out))
      have hF0 := BoxF.new wr fn fk fv ft
      clear hf hN hNle
      go_wp2_with fail
      refine hcall.mono ?_
      rintro e w2 ⟨rfl, hB2⟩
      have hF := hF0.below hB2 hF0.lt
      obtain ⟨d0, d1, d2, d3⟩ := hF.cells
      have hown2 := own_kept hown (hal.trans (hB2.mono hal.size)) (Nat.le_refl _)
      have hB3 := bel_step hB (hal.trans (hB2.mono hal.size))
      have hs3 := hB3.size
      clear hcall hal hF0 hF hB2 hown hB g0 g1 g2 g3
      cases hq : (fn == num)
      · have hst := HST.out
        simp only [hq] at hst
        have HS2 := Lib.hid hst
        clear hst
        go_wp2_with fail
        go_roundw
        case rel => exact ⟨j + 1, N, A2, c2, by go_num, rfl, by omega, by rw [HS2.out]; exact HNN.out, by rw [HS2.out]; exact hown2, hB3⟩
        case measure => simp [intOf]; omega
      · have hst := HST.out
        simp only [hq] at hst
        have HS2 := Lib.hid hst
        clear hst
        go_wp2_with (at_builtin; refine wpList_appF1 rfl _ _ rfl rfl hown2 ⟨fn, fk, fv, ft⟩ rfl (by simp) (by have := HNL.out; omega) hs3 ?_; intro A5 c5 w5 ho5 hg5)
        go_roundw
        case rel => exact ⟨j + 1, N + 1, A5, c5, by go_num, rfl, by omega, by rw [HS2.out]; simp [HNN.out], by rw [HS2.out]; exact ho5, own_grown hB3 hown2 hs3 hg5⟩
        case measure => simp [intOf]; omega
    · have e : l.take j = l := List.take_of_length_le (by omega)
      rw [e] at hN hown
      subst hN
      go_wp2_with fail
      go_ret
      exact ⟨A2, c2, rfl, hown, hB⟩
set_option maxRecDepth 100000 in
theorem all_any (num : Int) (l : List Fld) (A : Option Addr) (c : Nat) (hl : l.length ≤ 1000) (w : World) (hr : Rd w w.heap.size A (flc l)) :
    Calls Try.prog 26 #[.slice A l.length c, .int .i64 num] w fun e w' => ∃ A' c', e = .returned (.slice A' (wall num l).length c') ∧ w'.ownsRow w.heap.size 49 4 (.slice A' (wall num l).length c') (wall num l).length (flc (wall num l)) ∧ Below w.heap.size w w' := by
  go_enter Try.func26, Try.ntmps26
  go_wp2_with fail
  have hB0 := (Below.refl w.heap.size w).alloc (Nat.le_refl _) (Obj.cells #[.int .i64 num] 3)
  refine (pick_any w.heap.size num l A c hl _ ((hr.below hB0 (Nat.le_refl _)).more hB0.size) (by rw [World.cell?_alloc_at _ _ _ _ rfl]; rfl)).mono ?_
  rintro e w1 ⟨A1, c1, rfl, ho, hB⟩
  go_wp2_with fail
  go_ret
  exact ⟨A1, c1, rfl, own_base ho hB0.size, bel_step' hB0 (Nat.le_refl _) hB⟩
end Go.Proofs.Ytkanhggmhjldmaa
