/- WALKS: wire.Last, the reference's All and Last -/
import Derived.Test.YtkanhggmhjldmaaWAll
namespace Go.Proofs.Ytkanhggmhjldmaa
open Go.RowKit Plain

/-- the last field of a number -/
def wlast (num : Int) (l : List Fld) : Fld × Bool := match (wall num l).getLast? with
  | some f => (f, true)
  | none => (⟨0, 0, 0, ⟨#[]⟩⟩, false)
def Fld.agg (f : Fld) : Value := .agg #[.int .i64 f.num, .int .i64 f.kind, .int .u64 f.val, .string f.text]
set_option maxRecDepth 100000 in
set_option maxHeartbeats 1000000 in
theorem last_any (num : Int) (l : List Fld) (A : Option Addr) (c : Nat) (hl : l.length ≤ 1000) (w : World) (hr : Rd w w.heap.size A (flc l)) :
    Calls Try.prog 24 #[.slice A l.length c, .int .i64 num] w fun e w' => e = .returned (.tuple #[(wlast num l).1.agg, .bool (wlast num l).2]) ∧ Below w.heap.size w w' := by
  have hcall := fun (W : World) (hB : Below w.heap.size w W) => all_any num l A c hl W ((hr.below hB (Nat.le_refl _)).more hB.size)
  obtain ⟨q, hqq⟩ : ∃ q, wlast num l = q := ⟨_, rfl⟩
  rw [hqq]
  have HQQ := Lib.hid hqq
  clear hr hqq
  go_enter Try.func24, Try.ntmps24
  go_wp2_with fail
  have hB0 := (Below.refl w.heap.size w).alloc (Nat.le_refl _) (Obj.cells #[.int .i64 0, .int .i64 0, .int .u64 0, .string ⟨#[]⟩] 49)
  have hG := BoxF.new w 0 0 0 ⟨#[]⟩
  refine (hcall _ hB0).mono ?_
  rintro e w1 ⟨A1, c1, rfl, ho, hB1⟩
  have hlen : (wall num l).length ≤ 1000 := Nat.le_trans (List.length_filter_le _ _) hl
  obtain ⟨m, hm⟩ : ∃ m, wall num l = m := ⟨_, rfl⟩
  have HQ := Lib.hid hm
  rw [hm] at ho hlen ⊢
  have hW := bel_step' hB0 (Nat.le_refl _) hB1
  have hG1 := hG.below hB1 hG.lt
  obtain ⟨y0, y1, y2, y3⟩ := hG1.cells
  have hz : ∀ i, w1.frozen? ⟨w.heap.size, i, none⟩ = false := fun i => by simp [World.frozen?, show w1.heap[w.heap.size]? = _ from hG1]
  have z0 := hz 0
  have z1 := hz 1
  have z2 := hz 2
  have z3 := hz 3
  have hr := Rd.of_own ho
  clear hcall hm hz hG hB0 hB1 hG1
  rcases List.eq_nil_or_concat m with rfl | ⟨m', x, rfl⟩
  · clear ho hr
    go_wp2_with fail
    (try simp only [Exit.inBlock, Exit.then])
    refine bodyPost_ret (v := .tuple #[.agg #[.int .i64 0, .int .i64 0, .int .u64 0, .string ⟨#[]⟩], .bool false]) ?_ rfl ⟨?_, ?_⟩
    · rw [results_cell_tmp rfl]; go_simp
    · rw [← HQQ.out]; unfold wlast; rw [HQ.out]; rfl
    · first | exact hW | exact ((((hW.setCell (p := ⟨w.heap.size, 0, none⟩) (Nat.le_refl _) _).setCell (p := ⟨w.heap.size, 1, none⟩) (Nat.le_refl _) _).setCell (p := ⟨w.heap.size, 2, none⟩) (Nat.le_refl _) _).setCell (p := ⟨w.heap.size, 3, none⟩) (Nat.le_refl _) _)
  · obtain ⟨N, hN⟩ : ∃ N, (m'.concat x).length = N := ⟨_, rfl⟩
    obtain ⟨k, hk⟩ : ∃ k, m'.length = k := ⟨_, rfl⟩
    have hNk : N = k + 1 := by rw [← hN, ← hk]; simp
    obtain ⟨b1, o1, rfl, hb1, g0, g1, g2, g3⟩ := fld_at (j := k) (f := x) hr (by rw [List.concat_eq_append, ← hk]; simp)
    rw [hN] at ho hlen ⊢
    have hcap := own_cap ho
    have hw1 : wrap64 ((N : Int) - 1) = (k : Int) := by unfold wrap64; omega
    have hw2 : IntKind.i64.wrap ((N : Int) - 1) = (k : Int) := by rw [show (N : Int) - 1 = (k : Int) by omega]; exact wrap_small k (by omega)
    have hlt1 : (k : Int) < (N : Int) := by omega
    have hlt2 : k < N := by omega
    have hne : ¬ N = 0 := by omega
    obtain ⟨xn, xk, xv, xt⟩ := x
    simp only at g0 g1 g2 g3
    clear ho hr hN hNk hcap hlen hk
    go_wp2_with fail
    (try simp only [Exit.inBlock, Exit.then])
    refine bodyPost_ret (v := .tuple #[.agg #[.int .i64 xn, .int .i64 xk, .int .u64 xv, .string xt], .bool true]) ?_ rfl ⟨?_, ?_⟩
    · rw [results_cell_tmp rfl]; go_simp
    · rw [← HQQ.out]; unfold wlast; rw [HQ.out]; simp [Fld.agg]
    · exact ((((hW.setCell (p := ⟨w.heap.size, 0, none⟩) (Nat.le_refl _) _).setCell (p := ⟨w.heap.size, 1, none⟩) (Nat.le_refl _) _).setCell (p := ⟨w.heap.size, 2, none⟩) (Nat.le_refl _) _).setCell (p := ⟨w.heap.size, 3, none⟩) (Nat.le_refl _) _)
set_option maxRecDepth 100000 in
set_option maxHeartbeats 1000000 in
theorem rall_any (num : Int) (l : List Fld) (A : Option Addr) (c : Nat) (hl : l.length ≤ 1000) (w : World) (hr : Rd w w.heap.size A (flc l)) :
    Calls Try.prog 27 #[.slice A l.length c, .int .i64 num] w fun e w' => ∃ A' c', e = .returned (.slice A' (wall num l).length c') ∧ w'.ownsRow w.heap.size 49 4 (.slice A' (wall num l).length c') (wall num l).length (flc (wall num l)) ∧ Below w.heap.size w w' := by
  have HR := Lib.hid hr
  clear hr
  go_enter Try.func27, Try.ntmps27
  go_wp2_with fail
  go_loopw [5, 6] (fun o i wr => ∃ (j N : Nat) (A2 : Option Addr) (c2 : Nat), i = .int .i64 j ∧ o = .slice A2 N c2 ∧ j ≤ l.length ∧ (wall num (l.take j)).length = N ∧ wr.ownsRow w.heap.size 49 4 (.slice A2 N c2) N (flc (wall num (l.take j))) ∧ Below w.heap.size w wr) (fun _ i _ => l.length - (intOf i).toNat)
  case atStart => exact ⟨0, 0, none, 0, rfl, rfl, Nat.zero_le _, rfl, World.ownsRow_nil _ _ _ _, Below.refl _ _⟩
  case round =>
    obtain ⟨j, N, A2, c2, rfl, rfl, hj, hN, hown, hB⟩ := hrel
    have hs3 := hB.size
    by_cases hlt : j < l.length
    · obtain ⟨f, hf⟩ : ∃ f, l[j]? = some f := ⟨_, List.getElem?_eq_getElem hlt⟩
      obtain ⟨b1, o1, rfl, hb1, g0, g1, g2, g3⟩ := fld_at (HR.out.below hB (Nat.le_refl _)) hf
      have HST := Lib.hid (wall_step (num := num) hf)
      have hNle : N ≤ 1000 := by rw [← hN]; unfold wall; exact Nat.le_trans (List.length_filter_le _ _) (by simp; omega)
      have HNN := Lib.hid hN
      have HNL := Lib.hid hNle
      obtain ⟨fn, fk, fv, ft⟩ := f
      simp only at g0 g1 g2 g3
      clear hf hN hNle
      cases hq : (fn == num)
      · have hst := HST.out
        simp only [hq] at hst
        have HS2 := Lib.hid hst
        clear hst
        go_wp2_with fail
        go_roundw
        case rel => exact ⟨j + 1, N, A2, c2, by go_num, rfl, by omega, by rw [HS2.out]; exact HNN.out, by rw [HS2.out]; exact hown, hB⟩
        case measure => simp [intOf]; omega
      · have hst := HST.out
        simp only [hq] at hst
        have HS2 := Lib.hid hst
        clear hst
        go_wp2_with (at_builtin; refine wpList_appF1 rfl _ _ rfl rfl hown ⟨fn, fk, fv, ft⟩ rfl (by simp) (by have := HNL.out; omega) hs3 ?_; intro A5 c5 w5 ho5 hg5)
        go_roundw
        case rel => exact ⟨j + 1, N + 1, A5, c5, by go_num, rfl, by omega, by rw [HS2.out]; simp [HNN.out], by rw [HS2.out]; exact ho5, own_grown hB hown hs3 hg5⟩
        case measure => simp [intOf]; omega
    · have e : l.take j = l := List.take_of_length_le (by omega)
      rw [e] at hN hown
      subst hN
      go_wp2_with fail
      go_ret
      exact ⟨A2, c2, rfl, hown, hB⟩
set_option maxRecDepth 100000 in
set_option maxHeartbeats 1000000 in
theorem rlast_any (num : Int) (l : List Fld) (A : Option Addr) (c : Nat) (hl : l.length ≤ 1000) (w : World) (hr : Rd w w.heap.size A (flc l)) :
    Calls Try.prog 25 #[.slice A l.length c, .int .i64 num] w fun e w' => e = .returned (.tuple #[(wlast num l).1.agg, .bool (wlast num l).2]) ∧ Below w.heap.size w w' := by
  have HR := Lib.hid hr
  obtain ⟨q, hqq⟩ : ∃ q, wlast num l = q := ⟨_, rfl⟩
  rw [hqq]
  have HQQ := Lib.hid hqq
  have hG := BoxF.new w 0 0 0 ⟨#[]⟩
  have hB0 := (Below.refl w.heap.size w).alloc (Nat.le_refl _) (Obj.cells #[.int .i64 0, .int .i64 0, .int .u64 0, .string ⟨#[]⟩] 49)
  have hw0 : wrap64 ((l.length : Int) - 1) = (l.length : Int) - 1 := by unfold wrap64; omega
  clear hr hqq
  go_enter Try.func25, Try.ntmps25
  go_wp2_with fail
  go_loopw [6] (fun i wr => ∃ j : Nat, i = .int .i64 ((j : Int) - 1) ∧ j ≤ l.length ∧ wall num (l.drop j) = [] ∧ BoxF wr w.heap.size 0 0 0 ⟨#[]⟩ ∧ Below w.heap.size w wr) (fun i _ => (intOf i + 1).toNat)
  case atStart => exact ⟨l.length, rfl, Nat.le_refl _, by simp [wall], hG, hB0⟩
  case round =>
    clear hG hB0
    obtain ⟨j, rfl, hj, hnone, hG, hB⟩ := hrel
    obtain ⟨y0, y1, y2, y3⟩ := hG.cells
    have hz : ∀ i, wr.frozen? ⟨w.heap.size, i, none⟩ = false := fun i => by simp [World.frozen?, show wr.heap[w.heap.size]? = _ from hG]
    have z0 := hz 0
    have z1 := hz 1
    have z2 := hz 2
    have z3 := hz 3
    have hbelow := ((((hB.setCell (p := ⟨w.heap.size, 0, none⟩) (Nat.le_refl _) (.int .i64 0)).setCell (p := ⟨w.heap.size, 1, none⟩) (Nat.le_refl _) (.int .i64 0)).setCell (p := ⟨w.heap.size, 2, none⟩) (Nat.le_refl _) (.int .u64 0)).setCell (p := ⟨w.heap.size, 3, none⟩) (Nat.le_refl _) (.string ⟨#[]⟩))
    have HNO := Lib.hid hnone
    clear hz hnone
    cases j with
    | zero =>
      have hi : ((0 : Nat) : Int) - 1 = -1 := by omega
      rw [hi]
      go_wp2_with fail
      (try simp only [Exit.inBlock, Exit.then])
      refine bodyPost_ret (v := .tuple #[.agg #[.int .i64 0, .int .i64 0, .int .u64 0, .string ⟨#[]⟩], .bool false]) ?_ rfl ⟨?_, ?_⟩
      · rw [results_cell_tmp rfl]; go_simp
      · rw [← HQQ.out]; unfold wlast; rw [show wall num l = [] from HNO.out]; rfl
      · first | exact hbelow | exact hB
    | succ k =>
      have hi : ((k + 1 : Nat) : Int) - 1 = (k : Int) := by omega
      rw [hi]
      obtain ⟨f, hf⟩ : ∃ f, l[k]? = some f := ⟨_, List.getElem?_eq_getElem (by omega)⟩
      obtain ⟨b1, o1, rfl, hb1, g0, g1, g2, g3⟩ := fld_at (HR.out.below hB (Nat.le_refl _)) hf
      have hall : wall num l = (if (f.num == num) = true then wall num (l.take k) ++ [f] else wall num (l.take k)) := by
        rw [← wall_step hf]
        have : wall num l = wall num (l.take (k + 1)) ++ wall num (l.drop (k + 1)) := by unfold wall; rw [← List.filter_append, List.take_append_drop]
        rw [this, HNO.out, List.append_nil]
      have hdr : (f.num == num) = false → wall num (l.drop k) = [] := fun hq => by
        rw [drop_cons hf]
        unfold wall
        rw [List.filter_cons, hq]
        exact HNO.out
      obtain ⟨fn, fk, fv, ft⟩ := f
      simp only at g0 g1 g2 g3 hall hdr
      have HALL := Lib.hid hall
      have HDR := Lib.hid hdr
      have hwk : wrap64 ((k : Int) - 1) = (k : Int) - 1 := by unfold wrap64; omega
      have hkl : (k : Int) < (l.length : Int) := by omega
      clear hf hall hdr hbelow
      cases hq : (fn == num)
      · go_wp2_with fail
        go_roundw
        case rel => exact ⟨k, rfl, by omega, HDR.out hq, hG, hB⟩
        case measure => simp [intOf]
      · go_wp2_with fail
        (try simp only [Exit.inBlock, Exit.then])
        refine bodyPost_ret (v := .tuple #[.agg #[.int .i64 fn, .int .i64 fk, .int .u64 fv, .string ft], .bool true]) ?_ rfl ⟨?_, ?_⟩
        · rw [results_cell_tmp rfl]; go_simp
        · rw [← HQQ.out]; unfold wlast; rw [HALL.out, if_pos hq]; simp [Fld.agg]
        · exact ((((hB.setCell (p := ⟨w.heap.size, 0, none⟩) (Nat.le_refl _) _).setCell (p := ⟨w.heap.size, 1, none⟩) (Nat.le_refl _) _).setCell (p := ⟨w.heap.size, 2, none⟩) (Nat.le_refl _) _).setCell (p := ⟨w.heap.size, 3, none⟩) (Nat.le_refl _) _)
end Go.Proofs.Ytkanhggmhjldmaa
