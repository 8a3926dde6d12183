/- Several texts in one: words, plain laws and walks that the statement's proof imports. -/
import Derived.Test.YtanfnjlndckhkaaDoorK4
import Derived.Test.YtanfnjlndckhkaaDoorK2
import Derived.Test.YtanfnjlndckhkaaDoorK3
import Derived.Test.YtanfnjlndckhkaaDoorK1
import Derived.BigQuiet
import Derived.Deep.QuietTactic
/- WALKS: wire.Last, the reference's All and Last -/
namespace Go.Proofs.YtanfnjlndckhkaaDoor
open Go.RowKit Plain

/-- the last field of a number -/
def wlast (num : Int) (l : List Fld) : Fld × Bool := match (wall num l).getLast? with
  | some f => (f, true)
  | none => (⟨0, 0, 0, ⟨#[]⟩⟩, false)
def Fld.agg (f : Fld) : Value := .agg #[.int .i64 f.num, .int .i64 f.kind, .int .u64 f.val, .string f.text]
set_option maxRecDepth 100000 in
set_option maxHeartbeats 1000000 in
theorem last_any (num : Int) (l : List Fld) (A : Option Addr) (c : Nat) (hl : l.length ≤ 1000) (w : World) (hr : Rd w w.heap.size A (flc l)) :
    Calls Tryd.prog 71 #[.slice A l.length c, .int .i64 num] w fun e w' => e = .returned (.tuple #[(wlast num l).1.agg, .bool (wlast num l).2]) ∧ Below w.heap.size w w' := by
  have hcall := fun (W : World) (hB : Below w.heap.size w W) => all_any num l A c hl W ((hr.below hB (Nat.le_refl _)).more hB.size)
  obtain ⟨q, hqq⟩ : ∃ q, wlast num l = q := ⟨_, rfl⟩
  rw [hqq]
  have HQQ := Lib.hid hqq
  clear hr hqq
  go_enter Tryd.func71, Tryd.ntmps71
  go_wp2_with fail
  have hB0 := (Below.refl w.heap.size w).alloc (Nat.le_refl _) (Obj.cells #[.int .i64 0, .int .i64 0, .int .u64 0, .string ⟨#[]⟩] 64)
  have hG := BoxF.new w 0 0 0 ⟨#[]⟩
  refine (hcall _ hB0).mono ?_
  rintro e w1 ⟨A1, c1, rfl, ho, hB1⟩
  have hlen : (wall num l).length ≤ 1000 := Nat.le_trans (List.length_filter_le _ _) hl
  obtain ⟨m, hm⟩ : ∃ m, wall num l = m := ⟨_, rfl⟩
  have HQ := Lib.hid hm
  rw [hm] at ho hlen ⊢
  have hW := bel_step' hB0 (Nat.le_refl _) hB1
  have hG1 := hG.below hB1 hG.lt
  obtain ⟨y0, y1, y2, y3⟩ := hG1.cells
  have hz : ∀ i, w1.frozen? ⟨w.heap.size, i, none⟩ = false := fun i => by simp [World.frozen?, show w1.heap[w.heap.size]? = _ from hG1]
  have z0 := hz 0
  have z1 := hz 1
  have z2 := hz 2
  have z3 := hz 3
  have hr := Rd.of_own ho
  clear hcall hm hz hG hB0 hB1 hG1
  rcases List.eq_nil_or_concat m with rfl | ⟨m', x, rfl⟩
  · clear ho hr
    go_wp2_with fail
    (try simp only [Exit.inBlock, Exit.then])
    refine bodyPost_ret (v := .tuple #[.agg #[.int .i64 0, .int .i64 0, .int .u64 0, .string ⟨#[]⟩], .bool false]) ?_ rfl ⟨?_, ?_⟩
    · rw [results_cell_tmp rfl]; go_simp
    · rw [← HQQ.out]; unfold wlast; rw [HQ.out]; rfl
    · first | exact hW | exact ((((hW.setCell (p := ⟨w.heap.size, 0, none⟩) (Nat.le_refl _) _).setCell (p := ⟨w.heap.size, 1, none⟩) (Nat.le_refl _) _).setCell (p := ⟨w.heap.size, 2, none⟩) (Nat.le_refl _) _).setCell (p := ⟨w.heap.size, 3, none⟩) (Nat.le_refl _) _)
  · obtain ⟨N, hN⟩ : ∃ N, (m'.concat x).length = N := ⟨_, rfl⟩
    obtain ⟨k, hk⟩ : ∃ k, m'.length = k := ⟨_, rfl⟩
    have hNk : N = k + 1 := by rw [← hN, ← hk]; simp
    obtain ⟨b1, o1, rfl, hb1, g0, g1, g2, g3⟩ := fld_at (j := k) (f := x) hr (by rw [List.concat_eq_append, ← hk]; simp)
    rw [hN] at ho hlen ⊢
    have hcap := own_cap ho
    have hw1 : wrap64 ((N : Int) - 1) = (k : Int) := by unfold wrap64; omega
    have hw2 : IntKind.i64.wrap ((N : Int) - 1) = (k : Int) := by rw [show (N : Int) - 1 = (k : Int) by omega]; exact wrap_small k (by omega)
    have hlt1 : (k : Int) < (N : Int) := by omega
    have hlt2 : k < N := by omega
    have hne : ¬ N = 0 := by omega
    obtain ⟨xn, xk, xv, xt⟩ := x
    simp only at g0 g1 g2 g3
    clear ho hr hN hNk hcap hlen hk
    go_wp2_with fail
    (try simp only [Exit.inBlock, Exit.then])
    refine bodyPost_ret (v := .tuple #[.agg #[.int .i64 xn, .int .i64 xk, .int .u64 xv, .string xt], .bool true]) ?_ rfl ⟨?_, ?_⟩
    · rw [results_cell_tmp rfl]; go_simp
    · rw [← HQQ.out]; unfold wlast; rw [HQ.out]; simp [Fld.agg]
    · exact ((((hW.setCell (p := ⟨w.heap.size, 0, none⟩) (Nat.le_refl _) _).setCell (p := ⟨w.heap.size, 1, none⟩) (Nat.le_refl _) _).setCell (p := ⟨w.heap.size, 2, none⟩) (Nat.le_refl _) _).setCell (p := ⟨w.heap.size, 3, none⟩) (Nat.le_refl _) _)
set_option maxRecDepth 100000 in
set_option maxHeartbeats 1000000 in
theorem rall_any (num : Int) (l : List Fld) (A : Option Addr) (c : Nat) (hl : l.length ≤ 1000) (w : World) (hr : Rd w w.heap.size A (flc l)) :
    Calls Tryd.prog 52 #[.slice A l.length c, .int .i64 num] w fun e w' => ∃ A' c', e = .returned (.slice A' (wall num l).length c') ∧ w'.ownsRow w.heap.size 64 4 (.slice A' (wall num l).length c') (wall num l).length (flc (wall num l)) ∧ Below w.heap.size w w' := by
  have HR := Lib.hid hr
  clear hr
  go_enter Tryd.func52, Tryd.ntmps52
  go_wp2_with fail
  go_loopw [5, 6] (fun o i wr => ∃ (j N : Nat) (A2 : Option Addr) (c2 : Nat), i = .int .i64 j ∧ o = .slice A2 N c2 ∧ j ≤ l.length ∧ (wall num (l.take j)).length = N ∧ wr.ownsRow w.heap.size 64 4 (.slice A2 N c2) N (flc (wall num (l.take j))) ∧ Below w.heap.size w wr) (fun _ i _ => l.length - (intOf i).toNat)
  case atStart => exact ⟨0, 0, none, 0, rfl, rfl, Nat.zero_le _, rfl, World.ownsRow_nil _ _ _ _, Below.refl _ _⟩
  case round =>
    obtain ⟨j, N, A2, c2, rfl, rfl, hj, hN, hown, hB⟩ := hrel
    have hs3 := hB.size
    by_cases hlt : j < l.length
    · obtain ⟨f, hf⟩ : ∃ f, l[j]? = some f := ⟨_, List.getElem?_eq_getElem hlt⟩
      obtain ⟨b1, o1, rfl, hb1, g0, g1, g2, g3⟩ := fld_at (HR.out.below hB (Nat.le_refl _)) hf
      have HST := Lib.hid (wall_step (num := num) hf)
      have hNle : N ≤ 1000 := by rw [← hN]; unfold wall; exact Nat.le_trans (List.length_filter_le _ _) (by simp; omega)
      have HNN := Lib.hid hN
      have HNL := Lib.hid hNle
      obtain ⟨fn, fk, fv, ft⟩ := f
      simp only at g0 g1 g2 g3
      clear hf hN hNle
      cases hq : (fn == num)
      · have hst := HST.out
        simp only [hq] at hst
        have HS2 := Lib.hid hst
        clear hst
        go_wp2_with fail
        go_roundw
        case rel => exact ⟨j + 1, N, A2, c2, by go_num, rfl, by omega, by rw [HS2.out]; exact HNN.out, by rw [HS2.out]; exact hown, hB⟩
        case measure => simp [intOf]; omega
      · have hst := HST.out
        simp only [hq] at hst
        have HS2 := Lib.hid hst
        clear hst
        go_wp2_with (at_builtin; refine wpList_appF1 rfl _ _ rfl rfl hown ⟨fn, fk, fv, ft⟩ rfl (by simp) (by have := HNL.out; omega) hs3 ?_; intro A5 c5 w5 ho5 hg5)
        go_roundw
        case rel => exact ⟨j + 1, N + 1, A5, c5, by go_num, rfl, by omega, by rw [HS2.out]; simp [HNN.out], by rw [HS2.out]; exact ho5, own_grown hB hown hs3 hg5⟩
        case measure => simp [intOf]; omega
    · have e : l.take j = l := List.take_of_length_le (by omega)
      rw [e] at hN hown
      subst hN
      go_wp2_with fail
      go_ret
      exact ⟨A2, c2, rfl, hown, hB⟩
set_option maxRecDepth 100000 in
set_option maxHeartbeats 1000000 in
theorem rlast_any (num : Int) (l : List Fld) (A : Option Addr) (c : Nat) (hl : l.length ≤ 1000) (w : World) (hr : Rd w w.heap.size A (flc l)) :
    Calls Tryd.prog 53 #[.slice A l.length c, .int .i64 num] w fun e w' => e = .returned (.tuple #[(wlast num l).1.agg, .bool (wlast num l).2]) ∧ Below w.heap.size w w' := by
  have HR := Lib.hid hr
  obtain ⟨q, hqq⟩ : ∃ q, wlast num l = q := ⟨_, rfl⟩
  rw [hqq]
  have HQQ := Lib.hid hqq
  have hG := BoxF.new w 0 0 0 ⟨#[]⟩
  have hB0 := (Below.refl w.heap.size w).alloc (Nat.le_refl _) (Obj.cells #[.int .i64 0, .int .i64 0, .int .u64 0, .string ⟨#[]⟩] 64)
  have hw0 : wrap64 ((l.length : Int) - 1) = (l.length : Int) - 1 := by unfold wrap64; omega
  clear hr hqq
  go_enter Tryd.func53, Tryd.ntmps53
  go_wp2_with fail
  go_loopw [6] (fun i wr => ∃ j : Nat, i = .int .i64 ((j : Int) - 1) ∧ j ≤ l.length ∧ wall num (l.drop j) = [] ∧ BoxF wr w.heap.size 0 0 0 ⟨#[]⟩ ∧ Below w.heap.size w wr) (fun i _ => (intOf i + 1).toNat)
  case atStart => exact ⟨l.length, rfl, Nat.le_refl _, by simp [wall], hG, hB0⟩
  case round =>
    clear hG hB0
    obtain ⟨j, rfl, hj, hnone, hG, hB⟩ := hrel
    obtain ⟨y0, y1, y2, y3⟩ := hG.cells
    have hz : ∀ i, wr.frozen? ⟨w.heap.size, i, none⟩ = false := fun i => by simp [World.frozen?, show wr.heap[w.heap.size]? = _ from hG]
    have z0 := hz 0
    have z1 := hz 1
    have z2 := hz 2
    have z3 := hz 3
    have hbelow := ((((hB.setCell (p := ⟨w.heap.size, 0, none⟩) (Nat.le_refl _) (.int .i64 0)).setCell (p := ⟨w.heap.size, 1, none⟩) (Nat.le_refl _) (.int .i64 0)).setCell (p := ⟨w.heap.size, 2, none⟩) (Nat.le_refl _) (.int .u64 0)).setCell (p := ⟨w.heap.size, 3, none⟩) (Nat.le_refl _) (.string ⟨#[]⟩))
    have HNO := Lib.hid hnone
    clear hz hnone
    cases j with
    | zero =>
      have hi : ((0 : Nat) : Int) - 1 = -1 := by omega
      rw [hi]
      go_wp2_with fail
      (try simp only [Exit.inBlock, Exit.then])
      refine bodyPost_ret (v := .tuple #[.agg #[.int .i64 0, .int .i64 0, .int .u64 0, .string ⟨#[]⟩], .bool false]) ?_ rfl ⟨?_, ?_⟩
      · rw [results_cell_tmp rfl]; go_simp
      · rw [← HQQ.out]; unfold wlast; rw [show wall num l = [] from HNO.out]; rfl
      · first | exact hbelow | exact hB
    | succ k =>
      have hi : ((k + 1 : Nat) : Int) - 1 = (k : Int) := by omega
      rw [hi]
      obtain ⟨f, hf⟩ : ∃ f, l[k]? = some f := ⟨_, List.getElem?_eq_getElem (by omega)⟩
      obtain ⟨b1, o1, rfl, hb1, g0, g1, g2, g3⟩ := fld_at (HR.out.below hB (Nat.le_refl _)) hf
      have hall : wall num l = (if (f.num == num) = true then wall num (l.take k) ++ [f] else wall num (l.take k)) := by
        rw [← wall_step hf]
        have : wall num l = wall num (l.take (k + 1)) ++ wall num (l.drop (k + 1)) := by unfold wall; rw [← List.filter_append, List.take_append_drop]
        rw [this, HNO.out, List.append_nil]
      have hdr : (f.num == num) = false → wall num (l.drop k) = [] := fun hq => by
        rw [drop_cons hf]
        unfold wall
        rw [List.filter_cons, hq]
        exact HNO.out
      obtain ⟨fn, fk, fv, ft⟩ := f
      simp only at g0 g1 g2 g3 hall hdr
      have HALL := Lib.hid hall
      have HDR := Lib.hid hdr
      have hwk : wrap64 ((k : Int) - 1) = (k : Int) - 1 := by unfold wrap64; omega
      have hkl : (k : Int) < (l.length : Int) := by omega
      clear hf hall hdr hbelow
      cases hq : (fn == num)
      · go_wp2_with fail
        go_roundw
        case rel => exact ⟨k, rfl, by omega, HDR.out hq, hG, hB⟩
        case measure => simp [intOf]
      · go_wp2_with fail
        (try simp only [Exit.inBlock, Exit.then])
        refine bodyPost_ret (v := .tuple #[.agg #[.int .i64 fn, .int .i64 fk, .int .u64 fv, .string ft], .bool true]) ?_ rfl ⟨?_, ?_⟩
        · rw [results_cell_tmp rfl]; go_simp
        · rw [← HQQ.out]; unfold wlast; rw [HALL.out, if_pos hq]; simp [Fld.agg]
        · exact ((((hB.setCell (p := ⟨w.heap.size, 0, none⟩) (Nat.le_refl _) _).setCell (p := ⟨w.heap.size, 1, none⟩) (Nat.le_refl _) _).setCell (p := ⟨w.heap.size, 2, none⟩) (Nat.le_refl _) _).setCell (p := ⟨w.heap.size, 3, none⟩) (Nat.le_refl _) _)
end Go.Proofs.YtanfnjlndckhkaaDoor

/- PLAIN LAW: the table of bytes. -/
namespace Go.Proofs.YtanfnjlndckhkaaDoor
open Go.RowKit Plain

/-- the first error -/
def ferr : List Int → Int
  | [] => 0
  | x :: l => if x = 0 then ferr l else x
/-- why a table's field can't be -/
def dwrong (f : Fld) : Int :=
  if f.num = 1 ∨ f.num = 3 then (if f.kind = 0 then (if f.num = 3 ∧ 4294967295 < f.val then 5 else 0) else 4)
  else if f.num = 2 ∨ f.num = 4 then (if f.kind = 2 then 0 else 4) else 0
/-- a cell's value -/
def dcv (f : Fld) : VV × Int := if (wof f.text.data.toList).2 = 0 then vof 1 false (wof f.text.data.toList).1 else (VV.zero, (wof f.text.data.toList).2)
def dtexts (l : List Fld) : Bool := l.all fun f => f.kind == 2
/-- a row's values -/
def drd (s : List UInt8) (cols : Nat) : List VV × Int :=
  if (wof s).2 = 0 then
    (if (wall 1 (wof s).1).length = cols ∧ dtexts (wall 1 (wof s).1) = true then
      (if ferr ((wall 1 (wof s).1).map fun f => (dcv f).2) = 0 then ((wall 1 (wof s).1).map fun f => (dcv f).1, 0) else ([], ferr ((wall 1 (wof s).1).map fun f => (dcv f).2)))
    else ([], 4))
  else ([], (wof s).2)
structure DTab where
  cols : List ByteArray
  types : List Nat
  rows : List (List VV)
def DTab.none : DTab := ⟨[], [], []⟩
/-- what sort says of a table's fields -/
def dsorted (l : List Fld) : Int :=
  if ferr (l.map dwrong) = 0 then
    (if 16 < (wall 2 l).length ∨ 16 < (wall 3 l).length ∨ 32 < (wall 4 l).length then 6
    else if (wall 2 l).length = (wall 3 l).length ∧ (wlast 1 l).1.val = (wall 2 l).length then 0 else 4)
  else ferr (l.map dwrong)
/-- the table of bytes -/
def dof (b : List UInt8) : DTab × Int :=
  if (wof b).2 = 0 then
    (if dsorted (wof b).1 = 0 then
      (if ferr ((wall 4 (wof b).1).map fun f => (drd f.text.data.toList (wall 2 (wof b).1).length).2) = 0 then
        (⟨(wall 2 (wof b).1).map Fld.text, (wall 3 (wof b).1).map Fld.val, (wall 4 (wof b).1).map fun f => (drd f.text.data.toList (wall 2 (wof b).1).length).1⟩, 0)
      else (DTab.none, ferr ((wall 4 (wof b).1).map fun f => (drd f.text.data.toList (wall 2 (wof b).1).length).2)))
    else (DTab.none, dsorted (wof b).1))
  else (DTab.none, (wof b).2)
theorem ferr_mem {l : List Int} (h : ferr l = 0) : ∀ x ∈ l, x = 0 := by
  induction l with
  | nil => intro x hx; cases hx
  | cons y l ih =>
    rw [ferr] at h
    split at h
    · rename_i h0
      intro x hx
      rcases List.mem_cons.1 hx with rfl | hx
      · exact h0
      · exact ih h x hx
    · rename_i h0; exact absurd h h0
theorem ferr_cons {α : Type} {f : α → Int} {l : List α} {j : Nat} {a : α} (h : l[j]? = some a) : ferr ((l.drop j).map f) = if f a = 0 then ferr ((l.drop (j + 1)).map f) else f a := by
  rw [drop_cons h, List.map_cons, ferr]
theorem wall_mem {num : Int} {l : List Fld} {f : Fld} (h : f ∈ wall num l) : f ∈ l ∧ f.num = num := by
  unfold wall at h
  obtain ⟨h1, h2⟩ := List.mem_filter.1 h
  exact ⟨h1, by simpa using h2⟩
theorem wall_len (num : Int) (l : List Fld) : (wall num l).length ≤ l.length := List.length_filter_le _ _
theorem dsorted_ok {l : List Fld} (h : dsorted l = 0) : ferr (l.map dwrong) = 0 ∧ (wall 2 l).length ≤ 16 ∧ (wall 3 l).length ≤ 16 ∧ (wall 4 l).length ≤ 32 ∧ (wall 2 l).length = (wall 3 l).length ∧ (wlast 1 l).1.val = (wall 2 l).length := by
  unfold dsorted at h
  split at h
  · rename_i h0
    split at h
    · exact absurd h (by decide)
    · rename_i h1
      split at h
      · rename_i h2
        exact ⟨h0, by omega, by omega, by omega, h2.1, h2.2⟩
      · exact absurd h (by decide)
  · rename_i h0; exact absurd h h0
theorem dtype_lt {l : List Fld} (h : ferr (l.map dwrong) = 0) : ∀ f ∈ wall 3 l, f.val < 4294967296 := by
  intro f hf
  obtain ⟨h1, h2⟩ := wall_mem hf
  have := ferr_mem h _ (List.mem_map.2 ⟨f, h1, rfl⟩)
  unfold dwrong at this
  rw [if_pos (.inr h2)] at this
  split at this
  · split at this
    · exact absurd this (by decide)
    · rename_i h3
      have : ¬ 4294967295 < f.val := fun hlt => h3 ⟨h2, hlt⟩
      omega
  · exact absurd this (by decide)
theorem wrd_ok {b : List UInt8} {f : Fld} (h : f ∈ (wof b).1) : -9223372036854775808 ≤ f.num ∧ f.num ≤ 9223372036854775807 ∧ f.val < 18446744073709551616 := by
  obtain ⟨h1, h2, _, _, h5, _⟩ := wof_rd b f h
  exact ⟨by omega, by omega, h5⟩
/-- what a value is like that was read -/
def VVRd (v : VV) : Prop := 0 ≤ v.k ∧ v.k ≤ 7 ∧ v.n < 18446744073709551616 ∧ v.s.size ≤ 4096
theorem VVRd.ok {v : VV} (h : VVRd v) : VVOk v := ⟨by have := h.1; omega, by have := h.2.1; omega, h.2.2.1⟩
theorem zero_rd : VVRd VV.zero := ⟨by simp [VV.zero], by simp [VV.zero], by simp [VV.zero], by show (⟨#[]⟩ : ByteArray).size ≤ 4096; exact Nat.zero_le _⟩
theorem vofs_rd (base : Int) (raw : Bool) : ∀ (l : List Fld) (acc : VV), VVRd acc → (∀ f ∈ l, FldRd f) → VVRd (vofs base raw l acc).1 := by
  intro l
  induction l with
  | nil => intro acc h _; exact h
  | cons f l ih =>
    intro acc h hl
    rw [vofs]
    obtain ⟨_, _, _, _, hf, ht⟩ := hl f (by simp)
    have hl2 : ∀ g ∈ l, FldRd g := fun g hg => hl g (by simp [hg])
    have hk : 0 ≤ vkof f.num base raw ∧ vkof f.num base raw ≤ 7 := by unfold vkof; split <;> omega
    split
    · exact ih acc h hl2
    split
    · exact zero_rd
    split
    · exact zero_rd
    · exact ih _ ⟨hk.1, hk.2, hf, ht⟩ hl2
theorem vof_rd (base : Int) (raw : Bool) (l : List Fld) (h : ∀ f ∈ l, FldRd f) : VVRd (vof base raw l).1 := by
  unfold vof
  split
  · exact vofs_rd base raw l _ zero_rd h
  · exact zero_rd
theorem dcv_rd (f : Fld) : VVRd (dcv f).1 := by
  unfold dcv
  split
  · exact vof_rd _ _ _ (wof_rd _)
  · exact zero_rd
theorem drd_rd (s : List UInt8) (cols : Nat) : ∀ v ∈ (drd s cols).1, VVRd v := by
  unfold drd
  split
  · split
    · split
      · intro v hv
        obtain ⟨f, _, rfl⟩ := List.mem_map.1 hv
        exact dcv_rd f
      · simp
    · simp
  · simp
theorem drd_len (s : List UInt8) (cols : Nat) (h : (drd s cols).2 = 0) : (drd s cols).1.length = cols := by
  unfold drd at h ⊢
  split at h
  · rename_i h0
    split at h
    · rename_i h1
      split at h
      · rename_i h2
        rw [if_pos h0, if_pos h1, if_pos h2]
        simpa using h1.1
      · rename_i h2; exact absurd h h2
    · exact absurd h (by decide)
  · rename_i h0
    have h2 : ((wof s).2 : Int) = 0 := h
    exact absurd (by omega) h0
end Go.Proofs.YtanfnjlndckhkaaDoor

/- PLAIN LAW: what wire.Put answers, where it is well and where it is not. -/
namespace Go.Proofs.YtanfnjlndckhkaaDoor
open Go.RowKit Plain

theorem wput_ok {l : List Fld} (h : (wput l).2 = 0) : wput l = (wencs l, 0) ∧ werrs l = 0 ∧ l.length ≤ 256 ∧ (wencs l).length ≤ 4096 := by
  unfold wput at h ⊢
  split at h
  · rename_i h1
    split at h
    · simp at h
    · rename_i h2
      split at h
      · simp at h
      · rename_i h3
        rw [if_pos h1, if_neg h2, if_neg h3]
        exact ⟨rfl, h1, by omega, by omega⟩
  · rename_i h1; exact absurd h h1
theorem wput_bad {l : List Fld} (h : ¬ (wput l).2 = 0) : (wput l).1 = [] := by
  unfold wput at h ⊢
  split
  · rename_i h1; rw [if_pos h1] at h
    split
    · rfl
    · rename_i h2; rw [if_neg h2] at h
      split
      · rfl
      · rename_i h3; rw [if_neg h3] at h; simp at h
  · rfl
theorem wencs_app (a b : List Fld) : wencs (a ++ b) = wencs a ++ wencs b := by simp [wencs]
theorem werrs_app {a b : List Fld} (ha : werrs a = 0) (hb : werrs b = 0) : werrs (a ++ b) = 0 := by
  induction a with
  | nil => exact hb
  | cons f a ih =>
    rw [werrs] at ha
    split at ha
    · rename_i h1; rw [List.cons_append, werrs, if_pos h1]; exact ih ha
    · rename_i h1; exact absurd ha h1
end Go.Proofs.YtanfnjlndckhkaaDoor

/- PLAIN LAW: a value's field tells the value. -/
namespace Go.Proofs.YtanfnjlndckhkaaDoor
open Go.RowKit Plain

theorem vkof_fld {k base : Int} {raw : Bool} (h1 : 1 ≤ k) (h7 : k ≤ 7) (hr : k = 7 → raw = true) : vkof (base + k - 1) base raw = k := by
  have e : base + k - 1 - base + 1 = k := by omega
  unfold vkof
  rw [e, if_pos ⟨h1, h7, hr⟩]
theorem vright_great {k : Int} {n : Nat} {e : Bool} (hn : n < 18446744073709551616) (h : vright k n e = 0) : vgreat k n = false := by
  rw [vright_ref k n e hn] at h
  split at h
  · omega
  split at h
  · omega
  split at h
  · omega
  split at h
  · omega
  · rename_i h4; simpa using h4
theorem vright_text {k : Int} {n : Nat} {e : Bool} (hn : n < 18446744073709551616) (h : vright k n e = 0) : (¬ k = 6 ∧ ¬ k = 7 → e = true) ∧ (k = 0 ∨ k = 6 ∨ k = 7 → n = 0) := by
  rw [vright_ref k n e hn] at h
  split at h
  · omega
  split at h
  · omega
  rename_i h2
  split at h
  · omega
  rename_i h3
  refine ⟨fun hk => ?_, fun hk => ?_⟩
  · cases e
    · exact absurd ⟨hk, rfl⟩ h2
    · rfl
  · by_cases h0 : n = 0
    · exact h0
    · exact absurd ⟨hk, by simp; omega⟩ h3
theorem vfld_werr {k : Int} {n : Nat} {s : ByteArray} {base : Int} (hn : n < 18446744073709551616) (h : vright k n s.toList.isEmpty = 0) (h0 : ¬ k = 0) (hb : 1 ≤ base ∧ base ≤ 1000) : werrF (vfld k n s base) = 0 := by
  obtain ⟨k0, k7⟩ := vright_bd h
  obtain ⟨t1, t2⟩ := vright_text hn h
  have hg := vright_great hn h
  unfold werrF vfld wwrong
  dsimp only
  have h8 : k = 1 ∨ k = 2 ∨ k = 3 ∨ k = 4 ∨ k = 5 ∨ k = 6 ∨ k = 7 := by omega
  rw [if_neg (by omega)]
  rcases h8 with rfl | rfl | rfl | rfl | rfl | rfl | rfl
  · rw [t1 (by omega)]; simp [vkind]
  · rw [t1 (by omega)]; simp [vkind]
  · rw [t1 (by omega)]
    have : n < 4294967296 := by simp [vgreat] at hg; omega
    simp [vkind]; omega
  · rw [t1 (by omega)]; simp [vkind]
  · rw [t1 (by omega)]; simp [vkind]
  · have := t2 (by omega); subst this; simp [vkind]
  · have := t2 (by omega); subst this; simp [vkind]
theorem vfld_ok {k : Int} {n : Nat} {s : ByteArray} {base : Int} (hn : n < 18446744073709551616) (hk : 0 ≤ k ∧ k ≤ 7) (hb : 1 ≤ base ∧ base ≤ 1000) : FldOk (vfld k n s base) := by
  unfold vfld FldOk
  dsimp only
  omega
theorem vofs_fld {k : Int} {n : Nat} {s : ByteArray} {base : Int} {raw : Bool} (hn : n < 18446744073709551616) (h : vright k n s.toList.isEmpty = 0) (h0 : ¬ k = 0) (hr : k = 7 → raw = true) (l : List Fld) (acc : VV) :
    vofs base raw (vfld k n s base :: l) acc = vofs base raw l ⟨k, n, s⟩ := by
  obtain ⟨k0, k7⟩ := vright_bd h
  have e : vkof (vfld k n s base).num base raw = k := vkof_fld (by omega) k7 hr
  rw [vofs, e, if_neg h0, if_neg (fun hh => hh rfl), if_neg (by rw [show (vfld k n s base).val = n from rfl, vright_great hn h]; simp)]
  rfl
/-- what a right value's field tells -/
theorem vofs_fls {k : Int} {n : Nat} {s : ByteArray} {base : Int} {raw : Bool} (hn : n < 18446744073709551616) (h : verr k n s.toList.isEmpty base raw = 0) (l : List Fld) (acc : VV) :
    vofs base raw (vfls k n s base raw ++ l) acc = vofs base raw l (if k = 0 then acc else ⟨k, n, s⟩) := by
  unfold vfls
  by_cases h0 : k = 0
  · rw [if_neg (by simp [h0]), if_pos h0]; rfl
  · rw [if_pos ⟨h, h0⟩, if_neg h0]
    unfold verr at h
    split at h
    · split at h
      · rename_i h1
        split at h
        · omega
        · rename_i h2
          exact vofs_fld hn h1 h0 (fun h7 => by cases raw with | true => rfl | false => exact absurd ⟨h7, rfl⟩ h2) l acc
      · rename_i h1; exact absurd h h1
    · omega
theorem verr_right {k : Int} {n : Nat} {e : Bool} {base : Int} {raw : Bool} (h : verr k n e base raw = 0) : vright k n e = 0 ∧ 1 ≤ base ∧ base ≤ 1000 := by
  unfold verr at h
  split at h
  · split at h
    · rename_i hb h1; exact ⟨h1, hb⟩
    · rename_i h1; exact absurd h h1
  · omega
theorem vfls_ok {k : Int} {n : Nat} {s : ByteArray} {base : Int} {raw : Bool} (hn : n < 18446744073709551616) (h : verr k n s.toList.isEmpty base raw = 0) :
    werrs (vfls k n s base raw) = 0 ∧ (∀ f ∈ vfls k n s base raw, FldOk f) ∧ (vfls k n s base raw).length ≤ 1 := by
  obtain ⟨h1, hb⟩ := verr_right h
  unfold vfls
  split
  · rename_i hc
    refine ⟨?_, ?_, by simp⟩
    · rw [werrs, if_pos (vfld_werr hn h1 hc.2 hb)]; rfl
    · intro f hf
      obtain rfl : f = _ := by simpa using hf
      exact vfld_ok hn (vright_bd h1) hb
  · exact ⟨rfl, by simp, by simp⟩
/-- the value that two values' fields tell -/
def vwant (a b : VV) : VV := if b.k = 0 then a else b
theorem zero_vv {k : Int} {n : Nat} {s : ByteArray} (hn : n < 18446744073709551616) (h : vright k n s.toList.isEmpty = 0) (h0 : k = 0) : (⟨k, n, s⟩ : VV) = VV.zero := by
  obtain ⟨t1, t2⟩ := vright_text hn h
  have e1 := t2 (.inl h0)
  have e2 := empty_of (t1 (by omega))
  subst h0 e1 e2
  rfl
theorem vof_two {a b : VV} {base : Int} (hna : a.n < 18446744073709551616) (hnb : b.n < 18446744073709551616) (ha : verr a.k a.n a.s.toList.isEmpty base true = 0) (hb : verr b.k b.n b.s.toList.isEmpty base true = 0) :
    vof base true (vfls a.k a.n a.s base true ++ vfls b.k b.n b.s base true) = (vwant a b, 0) := by
  obtain ⟨h1, hbd⟩ := verr_right ha
  unfold vof vwant
  rw [if_pos hbd, vofs_fls hna ha, ← List.append_nil (vfls b.k b.n b.s base true), vofs_fls hnb hb]
  by_cases h0 : b.k = 0
  · rw [if_pos h0, if_pos h0]
    by_cases h2 : a.k = 0
    · rw [if_pos h2]
      have := zero_vv hna h1 h2
      rw [show a = (⟨a.k, a.n, a.s⟩ : VV) from rfl, this]; rfl
    · rw [if_neg h2]; rfl
  · rw [if_neg h0, if_neg h0]; rfl
/-- the fields of two right values are put, or are too long; and are told again -/
theorem vtwo_put {a b : VV} {base : Int} (hna : a.n < 18446744073709551616) (hnb : b.n < 18446744073709551616) (ha : verr a.k a.n a.s.toList.isEmpty base true = 0) (hb : verr b.k b.n b.s.toList.isEmpty base true = 0) (l : List Fld)
    (hl : vfls a.k a.n a.s base true ++ vfls b.k b.n b.s base true = l) : (∀ f ∈ l, FldOk f) ∧ l.length ≤ 2 ∧ (wput l = ([], 3) ∨ (wput l = (wencs l, 0) ∧ wof (wencs l) = (l, 0))) := by
  obtain ⟨a1, a2, a3⟩ := vfls_ok hna ha
  obtain ⟨b1, b2, b3⟩ := vfls_ok hnb hb
  have hw : werrs l = 0 := by rw [← hl]; exact werrs_app a1 b1
  have hf : ∀ f ∈ l, FldOk f := by
    intro f hf
    rw [← hl] at hf
    rcases List.mem_append.1 hf with h | h
    · exact a2 f h
    · exact b2 f h
  have hn : l.length ≤ 2 := by rw [← hl, List.length_append]; omega
  refine ⟨hf, hn, ?_⟩
  unfold wput
  rw [if_pos hw, if_neg (by omega)]
  by_cases h4 : 4096 < (wencs l).length
  · rw [if_pos h4]; exact .inl rfl
  · rw [if_neg h4]; exact .inr ⟨rfl, wof_wencs l hw hf (by omega) (by omega)⟩
end Go.Proofs.YtanfnjlndckhkaaDoor

/- WALKS: dataset.text, cell -/
namespace Go.Proofs.YtanfnjlndckhkaaDoor
open Go.RowKit Plain

set_option maxRecDepth 100000 in
set_option maxHeartbeats 1000000 in
theorem dtext_any (num : Int) (A : Option Addr) (n c : Nat) (l : List UInt8) (hn : l.length = n) (w : World) (hr : Rd w w.heap.size A (bcl l)) :
    Calls Tryd.prog 35 #[.int .i64 num, .slice A n c] w fun e w' => e = .returned (.agg (Fld.cells ⟨num, 2, 0, ⟨l.toArray⟩⟩).toArray) ∧ Below w.heap.size w w' := by
  have hs0 := strB hr hn c
  have hs1 := strB (hr.alloc (Nat.le_refl _) (.cells #[.int .i64 0, .int .i64 0, .int .u64 0, .string ⟨#[]⟩] 64)) hn c
  clear hr hn
  unfold Fld.cells
  go_enter Tryd.func35, Tryd.ntmps35
  go_wp2_with fail
  refine bodyPost_ret (v := .agg #[.int .i64 num, .int .i64 2, .int .u64 0, .string ⟨l.toArray⟩]) ?_ rfl ⟨rfl, (Below.refl _ w).alloc (Nat.le_refl _) _⟩
  rw [results_cell1 rfl]; go_simp
set_option maxRecDepth 100000 in
set_option maxHeartbeats 1000000 in
theorem dcell_any (v : VV) (hv : VVOk v) (w : World) (hK : Kinds w) : Calls Tryd.prog 57 #[.agg v.cells] w (BPost (dcell v) w) := by
  obtain ⟨k, n, s⟩ := v
  have hp := fun W hK => vput_any k n s 1 false (by omega) (by omega) W hK
  obtain ⟨q, hq⟩ : ∃ q, dcell ⟨k, n, s⟩ = q := ⟨_, rfl⟩
  rw [hq]
  unfold dcell at hq
  simp only at hq
  unfold VV.cells
  simp only
  go_enter Tryd.func57, Tryd.ntmps57
  go_wp2_with fail
  have hE := (Below.refl w.heap.size w).alloc (Nat.le_refl _) (Obj.cells #[.int .i64 k, .int .u64 n, .string s] 42)
  refine (hp _ (hK.below hE hK.pos)).mono ?_
  rintro e w1 ⟨A1, c1, rfl, hc1, hc2, hr1, hB1⟩
  have hW1 := bel_step' hE (Nat.le_refl _) hB1
  clear hp hE hB1 hK
  obtain ⟨l, hl⟩ : ∃ l, vfls k n s 1 false = l := ⟨_, rfl⟩
  obtain ⟨er, her⟩ : ∃ er, verr k n s.toList.isEmpty 1 false = er := ⟨_, rfl⟩
  rw [hl] at hr1 hc1 hq ⊢
  rw [her] at hq ⊢
  have hlen : l.length ≤ 1 := by omega
  by_cases h0 : er = 0
  · subst h0
    rw [if_pos rfl] at hq
    have hok := (vfls_ok hv.2.2 her).2.1
    rw [hl] at hok
    have hput := puts_any l A1 c1 (by omega) hok w1 hr1
    have hput2 : Calls Tryd.prog 36 #[.slice A1 l.length c1] w1 (BPost (wput l) w1) := hput
    rw [hq] at hput2
    clear hput hok hr1 hc1 hc2 hl her hv hq hlen
    go_wp2_with fail
    refine hput2.mono ?_
    rintro e w2 ⟨A2, c2, rfl, ho2, hB2⟩
    go_wp2_with fail
    go_ret2
    exact ⟨A2, c2, rfl, own_base ho2 hW1.size, bel_step hW1 hB2⟩
  · rw [if_neg h0] at hq
    have hbe : (er != 0) = true := by simpa using h0
    have HQ := Lib.hid hq
    clear hr1 hc1 hc2 hl her hv hq h0
    go_wp2_with fail
    go_ret2
    exact bpost_err HQ.out.symm hW1
/-- '[]byte(s)' -/
theorem run_bytes (W : World) (s : ByteArray) : ∃ c W', (convert 9 27 (.string s)).run Tryd.prog W = .ok (.slice (some ⟨W.heap.size, 0, none⟩) s.size c) W' ∧ Rd W' W'.heap.size (some ⟨W.heap.size, 0, none⟩) (bcl s.data.toList) ∧ Below W.heap.size W W' ∧ s.size ≤ c ∧ (s.size ≤ maxLen → c ≤ maxLen) := by
  refine ⟨_, _, run_bytes_of_string W _ _ _ s Tryd.underlying9 Tryd.underlying27 Tryd.underlying5, ?_, ?_, grownCap_ge _ _ _ _, grownCap_le_maxLen _ _ _ _⟩
  · refine .inr ⟨W.heap.size, 0, rfl, by simp, fun i hi => ?_⟩
    have hi2 : i < s.data.size := by simpa [bcl] using hi
    rw [Nat.zero_add]
    simp [World.cell?, World.alloc, World.drew, -World.alloc_eq, -World.drew_eq, bytesRow, bcl, Array.getElem?_append]
    intro h; exact absurd h (by have : s.size = s.data.size := rfl; omega)
  · exact ⟨rfl, rfl, rfl, by simp [World.alloc, World.drew, -World.alloc_eq, -World.drew_eq], fun k hk => by simp [World.alloc, World.drew, -World.alloc_eq, -World.drew_eq, Array.getElem?_push, Nat.ne_of_lt hk]⟩
theorem text_back (s : ByteArray) : (⟨s.data.toList.toArray⟩ : ByteArray) = s := by cases s; simp
end Go.Proofs.YtanfnjlndckhkaaDoor

/- WALK: dataset.head -/
namespace Go.Proofs.YtanfnjlndckhkaaDoor
open Go.RowKit Plain

def BoxD (W : World) (B : Nat) (x y z : Value) : Prop := W.heap[B]? = some (.cells #[x, y, z] 26 (0, 0))
theorem BoxD.lt {W : World} {B : Nat} {x y z : Value} (h : BoxD W B x y z) : B < W.heap.size := (Array.getElem?_eq_some_iff.1 h).1
theorem BoxD.below {W W' : World} {B : Nat} {x y z : Value} (h : BoxD W B x y z) (hb : Below W.heap.size W W') : BoxD W' B x y z := (hb.block B h.lt).trans h
theorem BoxD.cells {W : World} {B : Nat} {x y z : Value} (h : BoxD W B x y z) : W.cell? ⟨B, 0, none⟩ = some x ∧ W.cell? ⟨B, 1, none⟩ = some y ∧ W.cell? ⟨B, 2, none⟩ = some z := by
  refine ⟨?_, ?_, ?_⟩ <;> (simp only [World.cell?, show W.heap[B]? = _ from h]; rfl)
def cfld (s : ByteArray) : Fld := ⟨2, 2, 0, s⟩
def tfld (n : Nat) : Fld := ⟨3, 0, n, ⟨#[]⟩⟩
set_option maxRecDepth 100000 in
set_option maxHeartbeats 2000000 in
theorem dhead_any (d : DS) (h16 : d.cols.length ≤ 16) (ht : d.types.length = d.cols.length) (hok : DSOk d) (w : World) (hd : d.At w w.heap.size) :
    Calls Tryd.prog 33 #[d.agg] w fun e w' => ∃ A c, e = .returned (.slice A (dhead d.cols d.types).length c) ∧ w'.ownsRow w.heap.size 64 4 (.slice A (dhead d.cols d.types).length c) (dhead d.cols d.types).length (flc (dhead d.cols d.types)) ∧ Below w.heap.size w w' := by
  obtain ⟨A1, c1, cols, A2, c2, types, A3, c3, rows⟩ := d
  have hr1 := hd.r1
  have hr2 := hd.r2
  have hty := hok.ty
  simp only at hr1 hr2 hty h16 ht
  clear hd hok
  unfold DS.agg
  simp only
  obtain ⟨n, hn⟩ : ∃ n, cols.length = n := ⟨_, rfl⟩
  obtain ⟨H, hH⟩ : ∃ H, dhead cols types = H := ⟨_, rfl⟩
  rw [hH]
  rw [hn] at h16 ht ⊢
  rw [ht]
  obtain ⟨M, hM⟩ : ∃ M, H.length = M := ⟨_, rfl⟩
  rw [hM]
  have HR1 := Lib.hid hr1
  have HR2 := Lib.hid hr2
  have HTY := Lib.hid hty
  have HN := Lib.hid hn
  have HT := Lib.hid ht
  have HH := Lib.hid hH
  have HM := Lib.hid hM
  have HRL : Hid (rows.length = rows.length) := Lib.hid rfl
  clear hr1 hr2 hty hn ht hH hM
  generalize rows.length = m at *
  go_enter Tryd.func33, Tryd.ntmps33
  by_cases h0 : n = 0
  · subst h0
    have hc : cols = [] := List.eq_nil_of_length_eq_zero HN.out
    have htt : types = [] := List.eq_nil_of_length_eq_zero HT.out
    have hH : H = [] := by rw [← HH.out, hc, htt]; rfl
    have hM0 : M = 0 := by rw [← HM.out, hH]; rfl
    subst hH hM0
    clear hc htt
    have hE0 : Below w.heap.size w (w.alloc (Obj.cells #[.slice A1 0 c1, .slice A2 0 c2, .slice A3 m c3] 26)) := (Below.refl _ w).alloc (Nat.le_refl _) _
    have hD0 : BoxD (w.alloc (Obj.cells #[.slice A1 0 c1, .slice A2 0 c2, .slice A3 m c3] 26)) w.heap.size (.slice A1 0 c1) (.slice A2 0 c2) (.slice A3 m c3) := World.alloc_heap_new w _
    go_wp2_with fail
    generalize hW0 : w.alloc (Obj.cells #[.slice A1 0 c1, .slice A2 0 c2, .slice A3 m c3] 26) = W0 at *
    obtain ⟨x0, x1, x2⟩ := hD0.cells
    go_loopw [3, 23] (fun o i wz => o = .slice none 0 0 ∧ i = .int .i64 0 ∧ wz = W0) (fun _ _ _ => 0)
    case atStart => exact ⟨rfl, rfl, rfl⟩
    case round =>
      obtain ⟨rfl, rfl, rfl⟩ := hrel
      go_wp2_with fail
      go_loopw [3, 37] (fun o i wz => o = .slice none 0 0 ∧ i = .int .i64 0 ∧ wz = wr) (fun _ _ _ => 0)
      case atStart => exact ⟨rfl, rfl, rfl⟩
      case round =>
        obtain ⟨rfl, rfl, rfl⟩ := hrel
        go_wp2_with fail
        go_ret
        exact ⟨none, 0, rfl, World.ownsRow_nil _ _ _ _, hE0⟩
  · have hn0 : 0 < n := by omega
    have hE0 : Below w.heap.size w (w.alloc (Obj.cells #[.slice A1 n c1, .slice A2 n c2, .slice A3 m c3] 26)) := (Below.refl _ w).alloc (Nat.le_refl _) _
    have hD0 : BoxD (w.alloc (Obj.cells #[.slice A1 n c1, .slice A2 n c2, .slice A3 m c3] 26)) w.heap.size (.slice A1 n c1) (.slice A2 n c2) (.slice A3 m c3) := World.alloc_heap_new w _
    have hnil := World.ownsRow_nil (w.alloc (Obj.cells #[.slice A1 n c1, .slice A2 n c2, .slice A3 m c3] 26)) (w.alloc (Obj.cells #[.slice A1 n c1, .slice A2 n c2, .slice A3 m c3] 26)).heap.size 64 4
    go_wp2_with (at_builtin; refine wpList_appF1 (l := []) rfl _ _ rfl rfl hnil ⟨1, 0, n, ⟨#[]⟩⟩ rfl (by simp) (by omega) (Nat.le_refl _) ?_; intro A5 c5 w5 ho5 hg5; have hB5 := own_grown (Below.refl _ _) hnil (Nat.le_refl _) hg5; obtain ⟨x0, x1, x2⟩ := (hD0.below hB5).cells; clear hg5 hnil)
    generalize hW0 : w.alloc (Obj.cells #[.slice A1 n c1, .slice A2 n c2, .slice A3 m c3] 26) = W0 at *
    have hr1 := (HR1.out.below hE0 (Nat.le_refl _)).more hE0.size
    have hr2 := (HR2.out.below hE0 (Nat.le_refl _)).more hE0.size
    clear hW0
    go_loopw [3, 23] (fun o i wr => ∃ (j k : Nat) (A : Option Addr) (c : Nat), i = .int .i64 j ∧ o = .slice A k c ∧ j ≤ n ∧ k = j + 1 ∧ wr.ownsRow W0.heap.size 64 4 (.slice A k c) k (flc (⟨1, 0, n, ⟨#[]⟩⟩ :: (cols.take j).map cfld)) ∧ Below W0.heap.size W0 wr) (fun _ i _ => n - (intOf i).toNat)
    case atStart => exact ⟨0, 1, A5, c5, rfl, rfl, Nat.zero_le _, rfl, ho5, hB5⟩
    case round =>
      clear ho5 hB5 x0 x1 x2
      obtain ⟨j, k, A, c, rfl, rfl, hj, hk, hown, hB⟩ := hrel
      have hs := hB.size
      have hkb : k ≤ 100 := by omega
      have HKK := Lib.hid hk
      clear hk
      by_cases hlt : j < n
      · obtain ⟨s, hsj⟩ : ∃ s, cols[j]? = some s := ⟨_, List.getElem?_eq_getElem (by rw [HN.out]; exact hlt)⟩
        obtain ⟨b1, o1, rfl, hb1, g0⟩ := one_at (hr1.below hB (Nat.le_refl _)) hsj
        obtain ⟨cB, WB, hcv, hrB, hBB, _, _⟩ := run_bytes wr s
        have htx := dtext_any 2 (some ⟨wr.heap.size, 0, none⟩) s.size cB s.data.toList (by simp) WB hrB
        rw [text_back] at htx
        unfold Fld.cells at htx
        have HST : Hid ((cols.take (j + 1)).map cfld = (cols.take j).map cfld ++ [⟨2, 2, 0, s⟩]) := Lib.hid (by rw [List.take_add_one, hsj]; simp [cfld])
        have hown1 := own_kept hown hBB (Nat.le_refl _)
        have hB1 := hB.trans (hBB.mono hs)
        clear hsj hown hB hrB
        go_wp2_with fail
        refine htx.mono ?_
        rintro e w6 ⟨rfl, hB6⟩
        have hown2 := own_kept hown1 hB6 (Nat.le_refl _)
        have hB2 := hB1.trans (hB6.mono hB1.size)
        have hs2 := hB2.size
        clear htx hown1 hB6 hB1 hBB hcv
        go_wp2_with (at_builtin; refine wpList_appF1 rfl _ _ rfl rfl hown2 ⟨2, 2, 0, s⟩ rfl (by simp) (by omega) hs2 ?_; intro A7 c7 w7 ho7 hg7)
        go_roundw
        case rel => exact ⟨j + 1, k + 1, A7, c7, by go_num, rfl, by omega, by have := HKK.out; omega, by rw [HST.out, ← List.cons_append]; exact ho7, own_grown hB2 hown2 hs2 hg7⟩
        case measure => simp [intOf]; omega
      · obtain rfl : j = n := by omega
        rw [List.take_of_length_le (by rw [HN.out]; exact Nat.le_refl _)] at hown
        obtain ⟨x0, x1, x2⟩ := (hD0.below hB).cells
        clear hlt hj
        go_wp2_with fail
        have hBo := hB
        go_loopw [3, 37] (fun o i wz => ∃ (q k2 : Nat) (A : Option Addr) (c : Nat), i = .int .i64 q ∧ o = .slice A k2 c ∧ q ≤ j ∧ k2 = k + q ∧ wz.ownsRow W0.heap.size 64 4 (.slice A k2 c) k2 (flc (⟨1, 0, j, ⟨#[]⟩⟩ :: cols.map cfld ++ (types.take q).map tfld)) ∧ Below W0.heap.size W0 wz) (fun _ i _ => j - (intOf i).toNat)
        case atStart => exact ⟨0, k, A, c, rfl, rfl, Nat.zero_le _, rfl, by simpa using hown, hB⟩
        case round =>
          clear hown hB hBo x0 x1 x2
          obtain ⟨q, k2, A, c, rfl, rfl, hq, hk2, hown, hB⟩ := hrel
          have hs := hB.size
          have hk2b : k2 ≤ 200 := by omega
          have HK2 := Lib.hid hk2
          clear hk2
          by_cases hlt : q < j
          · obtain ⟨t, htq⟩ : ∃ t, types[q]? = some t := ⟨_, List.getElem?_eq_getElem (by rw [HT.out]; exact hlt)⟩
            obtain ⟨b1, o1, rfl, hb1, g0⟩ := one_at (hr2.below hB (Nat.le_refl _)) htq
            have ht32 := HTY.out t (List.mem_of_getElem? htq)
            have HST : Hid ((types.take (q + 1)).map tfld = (types.take q).map tfld ++ [⟨3, 0, t, ⟨#[]⟩⟩]) := Lib.hid (by rw [List.take_add_one, htq]; simp [tfld])
            clear htq
            go_wp2_with (at_builtin; refine wpList_appF1 rfl _ _ rfl rfl hown ⟨3, 0, t, ⟨#[]⟩⟩ rfl (by simp) (by omega) hs ?_; intro A7 c7 w7 ho7 hg7)
            go_roundw
            case rel => exact ⟨q + 1, k2 + 1, A7, c7, by go_num, rfl, by omega, by have := HK2.out; omega, by rw [HST.out, ← List.append_assoc]; exact ho7, own_grown hB hown hs hg7⟩
            case measure => simp [intOf]; omega
          · obtain rfl : q = j := by omega
            rw [List.take_of_length_le (by rw [HT.out]; exact Nat.le_refl _)] at hown
            have hH : (⟨1, 0, q, ⟨#[]⟩⟩ :: cols.map cfld ++ types.map tfld) = H := by
              rw [← HH.out]; unfold dhead
              rw [HN.out, if_neg h0]
              rfl
            rw [hH] at hown
            have hkM : k2 = M := by
              rw [← HM.out, ← hH]
              have e1 := HK2.out
              have e2 := HKK.out
              have e3 := HN.out
              have e4 := HT.out
              simp
              omega
            subst hkM
            clear hlt hq hH
            go_wp2_with fail
            go_ret
            exact ⟨A, c, rfl, own_base hown hE0.size, bel_step hE0 hB⟩
end Go.Proofs.YtanfnjlndckhkaaDoor

/- WALK: dataset.row -/
namespace Go.Proofs.YtanfnjlndckhkaaDoor
open Go.RowKit Plain

def zfld : Fld := ⟨0, 0, 0, ⟨#[]⟩⟩
def wide (fs : List Fld) : Array Value := (flc (fs ++ List.replicate (16 - fs.length) zfld)).toArray
theorem flc_app (a b : List Fld) : flc (a ++ b) = flc a ++ flc b := by simp [flc]
theorem wide_set {fs : List Fld} {f : Fld} (h : fs.length < 16) : ((((wide fs).setIfInBounds (fs.length * 4) (.int .i64 f.num)).setIfInBounds (fs.length * 4 + 1) (.int .i64 f.kind)).setIfInBounds (fs.length * 4 + 2) (.int .u64 f.val)).setIfInBounds (fs.length * 4 + 3) (.string f.text) = wide (fs ++ [f]) := by
  unfold wide
  obtain ⟨m, hm⟩ : ∃ m, 16 - fs.length = m + 1 := ⟨15 - fs.length, by omega⟩
  have hm2 : 16 - (fs ++ [f]).length = m := by simp; omega
  rw [hm, hm2, List.replicate_succ]
  have hl := flc_len fs
  simp only [flc_app, List.setIfInBounds_toArray]
  have e : flc (zfld :: List.replicate m zfld) = .int .i64 0 :: .int .i64 0 :: .int .u64 0 :: .string ⟨#[]⟩ :: flc (List.replicate m zfld) := rfl
  have e2 : flc [f] = [.int .i64 f.num, .int .i64 f.kind, .int .u64 f.val, .string f.text] := rfl
  rw [e, e2]
  congr 1
  rw [List.set_append_right _ _ (by omega), List.set_append_right _ _ (by omega), List.set_append_right _ _ (by omega), List.set_append_right _ _ (by omega)]
  rw [show fs.length * 4 - (flc fs).length = 0 by omega, show fs.length * 4 + 1 - (flc fs).length = 1 by omega, show fs.length * 4 + 2 - (flc fs).length = 2 by omega, show fs.length * 4 + 3 - (flc fs).length = 3 by omega]
  simp
/-- block B is the array of sixteen fields, the first of them laid -/
def WideAt (W : World) (B : Nat) (fs : List Fld) : Prop := W.heap[B]? = some (.cells (wide fs) 100 (0, 0))
theorem WideAt.lt {W : World} {B : Nat} {fs : List Fld} (h : WideAt W B fs) : B < W.heap.size := (Array.getElem?_eq_some_iff.1 h).1
theorem WideAt.below {W W' : World} {B : Nat} {fs : List Fld} (h : WideAt W B fs) (hb : Below W.heap.size W W') : WideAt W' B fs := (hb.block B h.lt).trans h
theorem WideAt.room {W : World} {B : Nat} {fs : List Fld} (h : WideAt W B fs) (hl : fs.length < 16) :
    (W.cell? ⟨B, fs.length * 4, none⟩ = some (.int .i64 0) ∧ W.cell? ⟨B, fs.length * 4 + 1, none⟩ = some (.int .i64 0) ∧ W.cell? ⟨B, fs.length * 4 + 2, none⟩ = some (.int .u64 0) ∧ W.cell? ⟨B, fs.length * 4 + 3, none⟩ = some (.string ⟨#[]⟩)) ∧
    W.frozen? ⟨B, fs.length * 4, none⟩ = false ∧ W.frozen? ⟨B, fs.length * 4 + 1, none⟩ = false ∧ W.frozen? ⟨B, fs.length * 4 + 2, none⟩ = false ∧ W.frozen? ⟨B, fs.length * 4 + 3, none⟩ = false := by
  have hz : ∀ i, W.frozen? ⟨B, i, none⟩ = false := fun i => by simp [World.frozen?, show W.heap[B]? = _ from h]
  have hc : ∀ i, W.cell? ⟨B, i, none⟩ = (wide fs)[i]? := fun i => by simp [World.cell?, show W.heap[B]? = _ from h]
  obtain ⟨m, hm⟩ : ∃ m, 16 - fs.length = m + 1 := ⟨15 - fs.length, by omega⟩
  have hl2 := flc_len fs
  have hw : ∀ j, j < 4 → (wide fs)[fs.length * 4 + j]? = zfld.cells[j]? := fun j hj => by
    unfold wide
    rw [List.getElem?_toArray, hm, List.replicate_succ, flc_app, List.getElem?_append_right (by omega), show fs.length * 4 + j - (flc fs).length = j by omega]
    show (zfld.cells ++ flc (List.replicate m zfld))[j]? = _
    rw [List.getElem?_append_left (by simp [Fld.cells]; omega)]
  exact ⟨⟨(hc _).trans (hw 0 (by omega)), (hc _).trans (hw 1 (by omega)), (hc _).trans (hw 2 (by omega)), (hc _).trans (hw 3 (by omega))⟩, hz _, hz _, hz _, hz _⟩
theorem WideAt.set {W : World} {B : Nat} {fs : List Fld} {f : Fld} (h : WideAt W B fs) (hl : fs.length < 16) :
    WideAt ((((W.setCell ⟨B, fs.length * 4, none⟩ (.int .i64 f.num)).setCell ⟨B, fs.length * 4 + 1, none⟩ (.int .i64 f.kind)).setCell ⟨B, fs.length * 4 + 2, none⟩ (.int .u64 f.val)).setCell ⟨B, fs.length * 4 + 3, none⟩ (.string f.text)) B (fs ++ [f]) := by
  unfold WideAt
  rw [← wide_set hl]
  exact heap_setCell_same _ B _ _ _ _ (heap_setCell_same _ B _ _ _ _ (heap_setCell_same _ B _ _ _ _ (heap_setCell_same W B _ _ _ _ h)))
theorem WideAt.rd {W : World} {B : Nat} {fs : List Fld} (h : WideAt W B fs) : Rd W W.heap.size (some ⟨B, 0, none⟩) (flc fs) := by
  refine .inr ⟨B, 0, rfl, h.lt, fun i hi => ?_⟩
  have hc : W.cell? ⟨B, 0 + i, none⟩ = (wide fs)[i]? := by simp [World.cell?, show W.heap[B]? = _ from h]
  rw [hc]
  unfold wide
  rw [List.getElem?_toArray, flc_app, List.getElem?_append_left hi]
theorem wide_len : Tryd.prog.arrayLen 100 = 16 := by kernel_rfl
theorem wide_und : Tryd.prog.underlying 100 = some (.array (Tryd.prog.arrayLen 100) (Tryd.prog.elem 100)) := by kernel_rfl
theorem wide_elem : Tryd.prog.elem 100 = 64 := by kernel_rfl
theorem run_wide (W : World) (B j : Nat) (hj : j ≤ 16) : (Instr.sliceAt 100 (.pointer (some ⟨B, 0, none⟩)) none (some (.int .i64 (j : Int))) none).run Tryd.prog W = .ok (.slice (some ⟨B, 0, none⟩) j 16) W := by
  rw [run_sliceAt_array_h W _ ⟨B, 0, none⟩ wide_und .i64 (j : Int) (by omega) (by rw [wide_len]; omega), wide_elem, wide_len]
  go_simp
theorem below_set4 {B R a b c d : Nat} {w W : World} (h : Below B w W) (hB : B ≤ R) (v0 v1 v2 v3 : Value) : Below B w ((((W.setCell ⟨R, a, none⟩ v0).setCell ⟨R, b, none⟩ v1).setCell ⟨R, c, none⟩ v2).setCell ⟨R, d, none⟩ v3) :=
  (((h.setCell (p := ⟨R, a, none⟩) hB _).setCell (p := ⟨R, b, none⟩) hB _).setCell (p := ⟨R, c, none⟩) hB _).setCell (p := ⟨R, d, none⟩) hB _
set_option maxRecDepth 100000 in
set_option maxHeartbeats 2000000 in
theorem drow_any (r : List VV) (A : Option Addr) (c : Nat) (hlen : r.length ≤ 16) (hok : ∀ v ∈ r, VVOk v) (w : World) (hr : Rd w w.heap.size A (vvl r)) (hK : Kinds w) :
    Calls Tryd.prog 34 #[.slice A r.length c] w (BPost (drow r) w) := by
  obtain ⟨q, hq⟩ : ∃ q, drow r = q := ⟨_, rfl⟩
  rw [hq]
  have HQ := Lib.hid hq
  have HR := Lib.hid hr
  have HOK := Lib.hid hok
  have HK := Lib.hid hK
  clear hq hr hok hK
  obtain ⟨n, hn⟩ : ∃ n, r.length = n := ⟨_, rfl⟩
  rw [hn] at hlen ⊢
  have HN := Lib.hid hn
  clear hn
  go_enter Tryd.func34, Tryd.ntmps34
  go_wp2_with fail
  have hW0 : WideAt (w.alloc (.cells (wide []) 100)) w.heap.size [] := World.alloc_heap_new w _
  have hE0 : Below w.heap.size w (w.alloc (.cells (wide []) 100)) := (Below.refl _ w).alloc (Nat.le_refl _) _
  go_loopw [10] (fun i wr => ∃ (j : Nat) (fs : List Fld), i = .int .i64 j ∧ j ≤ n ∧ fs = (r.take j).map drfld ∧ drerr r = drerr (r.drop j) ∧ WideAt wr w.heap.size fs ∧ Below w.heap.size w wr) (fun i _ => n - (intOf i).toNat)
  case atStart => exact ⟨0, [], rfl, Nat.zero_le _, rfl, rfl, hW0, hE0⟩
  case round =>
    clear hW0 hE0
    obtain ⟨j, fs, rfl, hj, hfs, he, hX, hB⟩ := hrel
    have hfl : fs.length = j := by rw [hfs]; simp [HN.out]; omega
    have hs := hB.size
    have HFS := Lib.hid hfs
    have HE := Lib.hid he
    clear hfs he
    by_cases hlt : j < n
    · obtain ⟨v, hv⟩ : ∃ v, r[j]? = some v := ⟨_, List.getElem?_eq_getElem (by rw [HN.out]; exact hlt)⟩
      obtain ⟨b1, o1, rfl, hb1, g0, g1, g2⟩ := val_at (HR.out.below hB (Nat.le_refl _)) hv
      have hcell := fun W hK => dcell_any v (HOK.out v (List.mem_of_getElem? hv)) W hK
      have hd := drop_cons hv
      have HT : Hid ((r.take (j + 1)).map drfld = fs ++ [drfld v]) := Lib.hid (by rw [HFS.out, List.take_add_one, hv]; simp)
      have HD : Hid (drerr r = if (dcell v).2 = 0 then drerr (r.drop (j + 1)) else (dcell v).2) := Lib.hid (by rw [HE.out, hd, drerr])
      have HF : Hid (drfld v = ⟨1, 2, 0, ⟨(dcell v).1.toArray⟩⟩) := Lib.hid rfl
      obtain ⟨k, vn, vs⟩ := v
      simp only at g0 g1 g2
      unfold VV.cells at hcell
      simp only at hcell
      unfold BPost at hcell
      obtain ⟨cq, hcq⟩ : ∃ cq, dcell ⟨k, vn, vs⟩ = cq := ⟨_, rfl⟩
      rw [hcq] at hcell HD HF
      obtain ⟨cb, ce⟩ := cq
      simp only at hcell HD HF
      have hK := HK.out.below hB HK.out.pos
      clear hv hd hcq HE
      go_wp2_with fail
      refine (hcell _ hK).mono ?_
      rintro e w1 ⟨A1, c1, rfl, ho1, hB1⟩
      have hX1 := hX.below hB1
      have hB2 := bel_step hB hB1
      clear hcell hB1 hX hB hK g0 g1 g2
      by_cases h0 : ce = 0
      · subst h0
        have htx := dtext_any 1 A1 cb.length c1 cb rfl w1 (Rd.of_own ho1)
        unfold Fld.cells at htx
        have HD2 : Hid (drerr r = drerr (r.drop (j + 1))) := Lib.hid (by have := HD.out; rwa [if_pos rfl] at this)
        clear ho1 HD
        go_wp2_with fail
        refine htx.mono ?_
        rintro e w2 ⟨rfl, hB3⟩
        have hX2 := hX1.below hB3
        have hB4 := bel_step hB2 hB3
        obtain ⟨⟨z0, z1, z2, z3⟩, y0, y1, y2, y3⟩ := hX2.room (by omega)
        rw [hfl] at z0 z1 z2 z3 y0 y1 y2 y3
        have hj16 : j < 16 := by omega
        have HX2 := Lib.hid hX2
        have HFL := Lib.hid hfl
        clear htx hX1 hX2 hB3 hB2 hfl
        go_wp2_with fail
        go_roundw
        case rel =>
          refine ⟨j + 1, fs ++ [drfld ⟨k, vn, vs⟩], by go_num, by omega, HT.out.symm, HD2.out, ?_, below_set4 hB4 (Nat.le_refl _) _ _ _ _⟩
          have := HX2.out.set (f := drfld ⟨k, vn, vs⟩) (by rw [HFL.out]; exact hj16)
          rw [HFL.out, HF.out] at this
          rw [HF.out]
          exact this
        case measure => simp [intOf]; omega
      · have hbe : (ce != 0) = true := by simpa using h0
        have hq : q = ([], ce) := by
          have h1 := HD.out
          rw [if_neg h0] at h1
          rw [← HQ.out]; unfold drow
          rw [h1, if_neg h0]
        have HQ2 := Lib.hid hq
        clear ho1 h0 hq HD
        go_wp2_with fail
        go_ret2
        exact bpost_err HQ2.out hB2
    · obtain rfl : j = n := by omega
      have hz : drerr r = 0 := by rw [HE.out, List.drop_eq_nil_of_le (by rw [HN.out]; exact Nat.le_refl _)]; rfl
      have hq : q = wput fs := by
        rw [← HQ.out]; unfold drow
        rw [if_pos hz, HFS.out, List.take_of_length_le (by rw [HN.out]; exact Nat.le_refl _)]
      have hok : ∀ f ∈ fs, FldOk f := by
        intro f hf
        rw [HFS.out] at hf
        obtain ⟨v, _, rfl⟩ := List.mem_map.1 hf
        exact ⟨by simp [drfld], by simp [drfld], by simp [drfld]⟩
      have hput := puts_any fs (some ⟨w.heap.size, 0, none⟩) 16 (by omega) hok wr hX.rd
      have hput2 : Calls Tryd.prog 36 #[.slice (some ⟨w.heap.size, 0, none⟩) fs.length 16] wr (BPost (wput fs) wr) := hput
      rw [← hq, hfl] at hput2
      have hlt2 := hX.lt
      have hrw := run_wide wr w.heap.size j hlen
      clear hput hok hq hz HE hlt hX hfl
      go_wp2_with fail
      refine hput2.mono ?_
      rintro e w3 ⟨A3, c3, rfl, ho3, hB3⟩
      go_wp2_with fail
      go_ret2
      exact ⟨A3, c3, rfl, own_base ho3 hs, bel_step hB hB3⟩
end Go.Proofs.YtanfnjlndckhkaaDoor

/- WALK: the reference's wrong of layer 3. -/
namespace Go.Proofs.YtanfnjlndckhkaaDoor
open Go.RowKit Plain

set_option maxRecDepth 100000 in
set_option maxHeartbeats 1000000 in
theorem rwrong_any (num kind : Int) (val : Nat) (text : ByteArray) (w : World) :
    Calls Tryd.prog 55 #[.agg #[.int .i64 num, .int .i64 kind, .int .u64 val, .string text]] w fun e w' => e = .returned (.int .i64 (wwrong num kind val text.toList.isEmpty)) ∧ Below w.heap.size w w' := by
  obtain ⟨V, hV⟩ : ∃ V, wwrong num kind val text.toList.isEmpty = V := ⟨_, rfl⟩
  rw [hV]
  have HV := Lib.hid hV
  clear hV
  cases hb1 : decide (536870912 ≤ num) <;> cases hb4 : decide (4294967296 ≤ (val : Int))
  all_goals go_enter Tryd.func55, Tryd.ntmps55
  all_goals go_wp2
  all_goals go_ret
  all_goals refine ⟨congrArg (fun z => Ending.returned (.int .i64 z)) ?_, (Below.refl _ _).alloc (Nat.le_refl _) _⟩
  all_goals rw [← HV.out]
  all_goals clear HV
  all_goals unfold wwrong
  all_goals simp only [decide_eq_true_eq, decide_eq_false_iff_not, Int.not_le] at hb1 hb4
  all_goals try simp only [bne_iff_ne, ne_eq, bne_eq_false_iff_eq] at *
  all_goals first | (simp [*]; done) | (simp [*] <;> (repeat' split) <;> omega)
end Go.Proofs.YtanfnjlndckhkaaDoor

/- WALK: the reference's one of layer 3. -/
namespace Go.Proofs.YtanfnjlndckhkaaDoor
open Go.RowKit Plain


set_option maxHeartbeats 1000000 in
theorem rone_any (num kind : Nat) (val : Nat) (text : ByteArray) (hnum : num < 536870912) (hkind : kind = 0 ∨ kind = 1 ∨ kind = 2 ∨ kind = 5) (hv : val < 18446744073709551616) (h5 : kind = 5 → val < 4294967296) (hlen : text.size ≤ 1048576) (w : World) :
    Calls Tryd.prog 56 #[.agg #[.int .i64 num, .int .i64 kind, .int .u64 val, .string text]] w fun e w' => ∃ A' c', e = .returned (.slice A' (wenc num kind val text.data.toList).length c') ∧
      w'.ownsRow w.heap.size 5 1 (.slice A' (wenc num kind val text.data.toList).length c') (wenc num kind val text.data.toList).length (bcl (wenc num kind val text.data.toList)) ∧ Below w.heap.size w w' := by
  obtain ⟨T, hT⟩ : ∃ T : Nat, 8 * num + kind = T := ⟨_, rfl⟩
  have htag : (num : Int) * 8 + kind = T := by omega
  have HT := Lib.hid hT
  have hT64 : T < 18446744073709551616 := by omega
  clear hT
  have hB1 := (Below.refl w.heap.size w).alloc (Nat.le_refl _) (Obj.cells #[Value.int IntKind.i64 num, Value.int IntKind.i64 kind, Value.int IntKind.u64 val, Value.string text] 64)
  have hbd := vsize_bd T
  go_enter Tryd.func56, Tryd.ntmps56
  go_wp2_with fail
  refine (rvput_any T hT64 _).mono ?_
  rintro e w1 ⟨A1, c1, rfl, ho1, hB2⟩
  have hF := (BoxF.new w (num : Int) (kind : Int) val text).below hB2 (by simp)
  have hown2 := own_base ho1 (show w.heap.size ≤ _ by simp)
  have hB3 := hB1.trans (hB2.mono (by simp))
  have hbw3 := hB3.size
  obtain ⟨d0, d1, d2, d3⟩ := hF.cells
  clear ho1 hB2 hB1
  go_wp2_with fail
  all_goals have hvs := vsize_bd val
  · have hk1 : kind = 1 := by have := eq_of_beq (by assumption : ((kind : Int) == 1) = true); omega
    refine (rput8_any val hv _).mono ?_
    rintro e w4 ⟨A4, c4, rfl, ho4, hB5⟩
    have hbw4 := hB5.size
    have ho3' := own_kept hown2 hB5 (by omega)
    have hr4 := Rd.of_own ho4
    have hB6 := hB3.trans (hB5.mono (by omega))
    clear hown2 ho4 hB3 hB5
    go_wp2_with (at_builtin; refine wpList_appB rfl _ _ rfl rfl ho3' rfl hr4 (le_length _ _) (vsize T + 8) rfl (by omega) (by omega) ?_; intro A5 c5 w5 ho5 hg5)
    go_ret
    exact wput_end ho5 (by unfold wenc; rw [if_neg (by omega), if_pos hk1, HT.out]) (by simp [vsize, le_length]) (own_grown hB6 ho3' (by omega) hg5)
  · have hk5 : kind = 5 := by have := eq_of_beq (by assumption : ((kind : Int) == 5) = true); omega
    have hv4 := h5 hk5
    have hv5 : ((val : Int) % 4294967296) = (val : Int) := Int.emod_eq_of_lt (by omega) (by omega)
    rw [hv5]
    refine (rput4_any val hv4 _).mono ?_
    rintro e w4 ⟨A4, c4, rfl, ho4, hB5⟩
    have hbw4 := hB5.size
    have ho3' := own_kept hown2 hB5 (by omega)
    have hr4 := Rd.of_own ho4
    have hB6 := hB3.trans (hB5.mono (by omega))
    clear hown2 ho4 hB3 hB5 hv4 hv5 h5
    go_wp2_with (at_builtin; refine wpList_appB rfl _ _ rfl rfl ho3' rfl hr4 (le_length _ _) (vsize T + 4) rfl (by omega) (by omega) ?_; intro A5 c5 w5 ho5 hg5)
    go_ret
    exact wput_end ho5 (by unfold wenc; rw [if_neg (by omega), if_neg (by omega), if_pos hk5, HT.out]) (by simp [vsize, le_length]) (own_grown hB6 ho3' (by omega) hg5)
  · have hk2 : kind = 2 := by have := eq_of_beq (by assumption : ((kind : Int) == 2) = true); omega
    clear h5
    refine (rvput_any text.size (by omega) _).mono ?_
    rintro e w4 ⟨A4, c4, rfl, ho4, hB5⟩
    have hbw4 := hB5.size
    have ho3' := own_kept hown2 hB5 (by omega)
    have hr4 := Rd.of_own ho4
    have hB6 := hB3.trans (hB5.mono (by omega))
    have hF4 := hF.below hB5 hF.lt
    have hts := vsize_bd text.size
    clear hown2 ho4 hB3 hB5 d0 d1 d2 d3 hF
    go_wp2_with (at_builtin; first
      | (refine wpList_appB rfl _ _ rfl rfl ho3' rfl hr4 rfl (vsize T + vsize text.size) rfl (by omega) (by omega) ?_; intro A5 c5 w5 ho5 hg5; have hF5 := hF4.row ho3' hg5; have hB7 := own_grown hB6 ho3' (by omega) hg5; have hbw7 := hB7.size; obtain ⟨_, _, _, e3⟩ := hF5.cells; clear hg5 hF5 hF4 ho3' hB6 hr4)
      | (refine wpList_appS rfl _ _ rfl rfl ho5 rfl (vsize T + vsize text.size + text.size) rfl (by omega) (by omega) ?_; intro A6 c6 w6 ho6 hg6))
    go_ret
    exact wput_end ho6 (by unfold wenc; rw [if_neg (by omega), if_neg (by omega), if_neg (by omega), HT.out]; simp) (by simp [vsize]; omega) (own_grown hB7 ho5 (by omega) hg6)
  · have hk0 : kind = 0 := by
      have a1 : ¬ (kind : Int) = 1 := by simpa using (by assumption : ((kind : Int) == 1) = false)
      have a2 : ¬ (kind : Int) = 2 := by simpa using (by assumption : ((kind : Int) == 2) = false)
      have a5 : ¬ (kind : Int) = 5 := by simpa using (by assumption : ((kind : Int) == 5) = false)
      omega
    refine (rvput_any val hv _).mono ?_
    rintro e w4 ⟨A4, c4, rfl, ho4, hB5⟩
    have hbw4 := hB5.size
    have ho3' := own_kept hown2 hB5 (by omega)
    have hr4 := Rd.of_own ho4
    have hB6 := hB3.trans (hB5.mono (by omega))
    clear hown2 ho4 hB3 hB5
    go_wp2_with (at_builtin; refine wpList_appB rfl _ _ rfl rfl ho3' rfl hr4 rfl (vsize T + vsize val) rfl (by omega) (by omega) ?_; intro A5 c5 w5 ho5 hg5)
    go_ret
    exact wput_end ho5 (by unfold wenc; rw [if_pos hk0, HT.out]) (by simp [vsize]) (own_grown hB6 ho3' (by omega) hg5)
end Go.Proofs.YtanfnjlndckhkaaDoor

/- WALK: the reference's Put of layer 3. -/
namespace Go.Proofs.YtanfnjlndckhkaaDoor
open Go.RowKit Plain

set_option maxHeartbeats 1000000 in
theorem rputs_any (l : List Fld) (A : Option Addr) (c : Nat) (hl : l.length ≤ 9223372036854775807) (hwf : ∀ f ∈ l, FldOk f) (w : World) (hr : Rd w w.heap.size A (flc l)) :
    Calls Tryd.prog 32 #[.slice A l.length c] w (PutsPost l w) := by
  have HR := Lib.hid hr
  have HWF := Lib.hid hwf
  clear hr hwf
  go_enter Tryd.func32, Tryd.ntmps32
  go_wp2_with fail
  go_loopw [4] (fun i wr => ∃ j : Nat, i = .int .i64 j ∧ j ≤ l.length ∧ werrs l = werrs (l.drop j) ∧ Below w.heap.size w wr) (fun i _ => l.length - (intOf i).toNat)
  case atStart => exact ⟨0, rfl, Nat.zero_le _, rfl, Below.refl _ _⟩
  case round =>
    obtain ⟨j, rfl, hj, he, hB⟩ := hrel
    have HE := Lib.hid he
    clear he
    by_cases hlt : j < l.length
    · obtain ⟨f, hf⟩ : ∃ f, l[j]? = some f := ⟨_, List.getElem?_eq_getElem hlt⟩
      obtain ⟨b1, o1, rfl, hb1, g0, g1, g2, g3⟩ := fld_at (HR.out.below hB (Nat.le_refl _)) hf
      have HD := Lib.hid (drop_cons hf)
      have hBA := hB
      by_cases h0 : werrF f = 0
      · have H0 := Lib.hid h0
        clear h0 hf
        go_wp2_with (go_at_call 55; refine (rwrong_any _ _ _ _ _).mono ?_; rintro e w1 ⟨rfl, hB1⟩; rw [show wwrong f.num f.kind f.val f.text.toList.isEmpty = 0 from H0.out]; replace hBA := bel_step hBA hB1)
        go_roundw
        case rel => exact ⟨j + 1, by go_num, by omega, by rw [HE.out, HD.out, werrs, if_pos H0.out], hBA⟩
        case measure => simp [intOf]; omega
      · obtain ⟨E, hE⟩ : ∃ E, werrF f = E := ⟨_, rfl⟩
        have h0b : (E != 0) = true := by rw [← hE]; simpa using h0
        have H0 := Lib.hid hE
        have HW : Hid (werrs l = E) := Lib.hid (by rw [HE.out, HD.out, werrs, if_neg h0, hE])
        have HN := Lib.hid h0
        clear h0 hf hE
        go_wp2_with (go_at_call 55; refine (rwrong_any _ _ _ _ _).mono ?_; rintro e w1 ⟨rfl, hB1⟩; rw [show wwrong f.num f.kind f.val f.text.toList.isEmpty = E from H0.out]; replace hBA := bel_step hBA hB1)
        go_ret2
        exact puts_err (by unfold wput; rw [if_neg (by rw [HW.out, ← H0.out]; exact HN.out), HW.out]) hBA
    · have hz : werrs l = 0 := by rw [HE.out, List.drop_eq_nil_of_le (by omega)]; rfl
      have HZ := Lib.hid hz
      clear hz HE
      have HB := Lib.hid hB
      by_cases hfull : 256 < l.length
      · have hb : decide ((256 : Int) < (l.length : Int)) = true := by simp; omega
        go_wp2_with fail
        go_ret2
        exact puts_err (by unfold wput; rw [if_pos HZ.out, if_pos hfull]) hB
      · go_wp2_with fail
        clear hB hlt hj
        have hB := HB.out
        go_loopw [6, 7] (fun o i wr => ∃ (j : Nat) (A2 : Option Addr) (c2 N : Nat), i = .int .i64 j ∧ o = .slice A2 N c2 ∧ j ≤ l.length ∧ N = (wencs (l.take j)).length ∧ N ≤ 4096 ∧ wr.ownsRow w.heap.size 5 1 (.slice A2 N c2) N (bcl (wencs (l.take j))) ∧ Below w.heap.size w wr) (fun _ i _ => l.length - (intOf i).toNat)
        case atStart => exact ⟨0, none, 0, 0, rfl, rfl, Nat.zero_le _, rfl, by omega, World.ownsRow_nil _ _ _ _, hB⟩
        case round =>
          clear hB HB
          obtain ⟨j, A2, c2, N, rfl, rfl, hj, hN, hN4, hown, hB⟩ := hrel
          have HNN := Lib.hid hN
          by_cases hlt : j < l.length
          · obtain ⟨f, hf⟩ : ∃ f, l[j]? = some f := ⟨_, List.getElem?_eq_getElem hlt⟩
            obtain ⟨b1, o1, rfl, hb1, g0, g1, g2, g3⟩ := fld_at (HR.out.below hB (Nat.le_refl _)) hf
            have HT := Lib.hid (wencs_take hf)
            obtain ⟨k0, k1, k2, k3, k4, k5⟩ := werrF_ok (werrs_mem HZ.out f (List.mem_of_getElem? hf))
            have hval := (HWF.out f (List.mem_of_getElem? hf)).2.2
            have hle := wencs_len l (j + 1)
            rw [wencs_take hf, List.length_append, ← hN] at hle
            clear hN hf
            obtain ⟨fnum, fkind, fval, ftext⟩ := f
            obtain ⟨num, rfl⟩ := Int.eq_ofNat_of_zero_le (show 0 ≤ fnum by simp at k0; omega)
            obtain ⟨kind, rfl⟩ := Int.eq_ofNat_of_zero_le (show 0 ≤ fkind by simp at k2; omega)
            have k1' : (num : Int) < 536870912 := k1
            have k2' : (kind : Int) = 0 ∨ (kind : Int) = 1 ∨ (kind : Int) = 2 ∨ (kind : Int) = 5 := k2
            have k3' : (kind : Int) = 5 → fval < 4294967296 := k3
            clear k1 k2 k3
            have HTW : Hid (wencF ⟨num, kind, fval, ftext⟩ = wenc num kind fval ftext.data.toList) := Lib.hid rfl
            have htx : ftext.size ≤ (wenc num kind fval ftext.data.toList).length := by
              by_cases hk2 : kind = 2
              · exact wenc_text _ _ _ _ hk2
              · have := k5 (by simp; omega)
                have e0 : ftext.size = 0 := size_empty this
                omega
            simp only [HTW.out] at hle
            clear k4 k5
            by_cases hlong : 4096 < ftext.size
            · have hlb : decide ((4096 : Int) < (ftext.size : Int)) = true := by simp; omega
              have HLO := Lib.hid hlong
              clear hlong
              go_wp2_with fail
              go_ret2
              exact puts_err (by unfold wput; rw [if_pos HZ.out, if_neg hfull, if_pos (by have := HLO.out; omega)]) hB
            · have HTX := Lib.hid htx
              have hlb : decide ((4096 : Int) < (ftext.size : Int)) = false := by simp; omega
              have HLO := Lib.hid hlong
              clear htx hlong
              go_wp2_with fail
              have hlong := HLO.out
              have htx := HTX.out
              refine (rone_any num kind fval ftext (by omega) (by omega) hval (fun h => k3' (by omega)) (by omega) _).mono ?_
              rintro e w1 ⟨A3, c3, rfl, ho3, hB3⟩
              have hown3 := own_kept hown hB3 (Nat.le_refl _)
              have hr3 := Rd.of_own ho3
              have hB4 := bel_step hB hB3
              have hM : N + (wenc num kind fval ftext.data.toList).length = (wencs (l.take (j + 1))).length := by rw [HT.out, HTW.out, List.length_append, ← HNN.out]
              have hwl : (wenc num kind fval ftext.data.toList).length ≤ 1048600 := wenc_len _ _ _ _ (by have := htx; simp; omega)
              obtain ⟨M, hM2⟩ : ∃ M, (wencs (l.take (j + 1))).length = M := ⟨_, rfl⟩
              have hbase := hB4.size
              have HM := Lib.hid hM2
              rw [hM2] at hM
              have hle2 := wencs_len l (j + 1)
              rw [hM2] at hle2
              have HMB : Hid (M ≤ 1060000) := Lib.hid (by omega)
              clear hown hB hB3 ho3 hwl k1' k2' k3' hval hle
              have HLE := Lib.hid hle2
              have HMM := Lib.hid hM
              clear hle2 hM HTX hlong htx HLO
              by_cases hfin : 4096 < M
              · have hb : decide ((4096 : Int) < (M : Int)) = true := by simp; omega
                have HF := Lib.hid hfin
                clear hfin hN4
                go_wp2_with (at_builtin; refine wpList_appB rfl _ _ rfl rfl hown3 rfl hr3 rfl M HMM.out (by have := HMB.out; omega) (by omega) ?_; intro A5 c5 w5 ho5 hg5)
                go_ret2
                exact puts_err (by unfold wput; rw [if_pos HZ.out, if_neg hfull, if_pos (by have := HF.out; have := HLE.out; omega)]) (own_grown hB4 hown3 (by omega) hg5)
              · have hb : decide ((4096 : Int) < (M : Int)) = false := by simp; omega
                have HF := Lib.hid hfin
                clear hfin hN4
                go_wp2_with (at_builtin; refine wpList_appB rfl _ _ rfl rfl hown3 rfl hr3 rfl M HMM.out (by have := HMB.out; omega) (by omega) ?_; intro A5 c5 w5 ho5 hg5)
                go_roundw
                case rel => exact ⟨j + 1, A5, c5, M, by go_num, rfl, by omega, HM.out.symm, by have := HF.out; omega, by rw [HT.out, HTW.out]; exact ho5, own_grown hB4 hown3 (by omega) hg5⟩
                case measure => simp [intOf]; omega
          · have e : l.take j = l := List.take_of_length_le (by omega)
            rw [e] at hown hN HNN
            subst hN
            go_wp2_with fail
            go_ret2
            have hw : wput l = (wencs l, 0) := by unfold wput; rw [if_pos HZ.out, if_neg hfull, if_neg (by omega)]
            exact ⟨A2, c2, by rw [hw]; rfl, by rw [hw]; exact hown, hB⟩
end Go.Proofs.YtanfnjlndckhkaaDoor

/- WALK: the reference's row of layer 8 -/
namespace Go.Proofs.YtanfnjlndckhkaaDoor
open Go.RowKit Plain

set_option maxRecDepth 100000 in
set_option maxHeartbeats 2000000 in
theorem rdrow_any (r : List VV) (A : Option Addr) (c : Nat) (hlen : r.length ≤ 1000) (hok : ∀ v ∈ r, VVOk v) (w : World) (hr : Rd w w.heap.size A (vvl r)) :
    Calls Tryd.prog 37 #[.slice A r.length c] w (BPost (drow r) w) := by
  obtain ⟨q, hq⟩ : ∃ q, drow r = q := ⟨_, rfl⟩
  rw [hq]
  have HQ := Lib.hid hq
  have HR := Lib.hid hr
  have HOK := Lib.hid hok
  clear hq hr hok
  obtain ⟨n, hn⟩ : ∃ n, r.length = n := ⟨_, rfl⟩
  rw [hn] at hlen ⊢
  have HN := Lib.hid hn
  clear hn
  go_enter Tryd.func37, Tryd.ntmps37
  go_wp2_with fail
  go_loopw [4, 5] (fun o i wr => ∃ (j M : Nat) (fs : List Fld) (A2 : Option Addr) (c2 : Nat), i = .int .i64 j ∧ o = .slice A2 M c2 ∧ j ≤ n ∧ fs = (r.take j).map drfld ∧ fs.length = M ∧ drerr r = drerr (r.drop j) ∧ wr.ownsRow w.heap.size 64 4 (.slice A2 M c2) M (flc fs) ∧ Below w.heap.size w wr) (fun _ i _ => n - (intOf i).toNat)
  case atStart => exact ⟨0, 0, [], none, 0, rfl, rfl, Nat.zero_le _, rfl, rfl, rfl, World.ownsRow_nil _ _ _ _, Below.refl _ _⟩
  case round =>
    obtain ⟨j, M, fs, A2, c2, rfl, rfl, hj, hfs, hM, he, hown, hB⟩ := hrel
    have hfl : M = j := by rw [← hM, hfs]; simp [HN.out]; omega
    have hs := hB.size
    have HFS := Lib.hid hfs
    have HE := Lib.hid he
    have HML := Lib.hid hM
    have HM : Hid (M ≤ 1000 ∧ M = j) := Lib.hid ⟨by omega, hfl⟩
    clear hfs he hM hfl
    by_cases hlt : j < n
    · obtain ⟨v, hv⟩ : ∃ v, r[j]? = some v := ⟨_, List.getElem?_eq_getElem (by rw [HN.out]; exact hlt)⟩
      obtain ⟨b1, o1, rfl, hb1, g0, g1, g2⟩ := val_at (HR.out.below hB (Nat.le_refl _)) hv
      have hvok := HOK.out v (List.mem_of_getElem? hv)
      have hd := drop_cons hv
      have HT : Hid ((r.take (j + 1)).map drfld = fs ++ [drfld v]) := Lib.hid (by rw [HFS.out, List.take_add_one, hv]; simp)
      have HD : Hid (drerr r = if (dcell v).2 = 0 then drerr (r.drop (j + 1)) else (dcell v).2) := Lib.hid (by rw [HE.out, hd, drerr])
      obtain ⟨k, vn, vs⟩ := v
      simp only at g0 g1 g2
      have hp := fun W => rvalput_any k vn vs 1 false hvok.2.2 W
      have hvf := fun her => vfls_ok (k := k) (n := vn) (s := vs) (base := 1) (raw := false) hvok.2.2 her
      have hcell : dcell ⟨k, vn, vs⟩ = if verr k vn vs.toList.isEmpty 1 false = 0 then wput (vfls k vn vs 1 false) else ([], verr k vn vs.toList.isEmpty 1 false) := rfl
      unfold PutPost at hp
      obtain ⟨l, hl⟩ : ∃ l, vfls k vn vs 1 false = l := ⟨_, rfl⟩
      obtain ⟨er, her⟩ : ∃ er, verr k vn vs.toList.isEmpty 1 false = er := ⟨_, rfl⟩
      rw [hl, her] at hcell hvf
      simp only [hl, her] at hp
      have HC := Lib.hid hcell
      have HVF := Lib.hid hvf
      clear hv hd HE hcell hvf hl her hvok
      have hfail : ∀ e : Int, ¬ e = 0 → (dcell ⟨k, vn, vs⟩).2 = e → q = ([], e) := fun e h0 h1 => by
        have h2 := HD.out
        rw [h1, if_neg h0] at h2
        rw [← HQ.out]; unfold drow
        rw [h2, if_neg h0]
      have HFAIL := Lib.hid hfail
      clear hfail
      go_wp2_with fail
      refine (hp _).mono ?_
      rintro e w1 ⟨A1, c1, rfl, hc1, hc2, hr1, hB1⟩
      have hown1 := own_kept hown hB1 (Nat.le_refl _)
      have hB2 := bel_step hB hB1
      have hl1 : l.length ≤ 1 := by omega
      clear hp hB1 hown hB g0 g1 g2 hc1 hc2
      by_cases h0 : er = 0
      · subst h0
        have hput := rputs_any l A1 c1 (by omega) (HVF.out rfl).2.1 w1 hr1
        have hput2 : Calls Tryd.prog 32 #[.slice A1 l.length c1] w1 (BPost (wput l) w1) := hput
        have hc := HC.out
        rw [if_pos rfl] at hc
        rw [← hc] at hput2
        unfold BPost at hput2
        have HF : Hid (drfld ⟨k, vn, vs⟩ = ⟨1, 2, 0, ⟨(dcell ⟨k, vn, vs⟩).1.toArray⟩⟩) := Lib.hid rfl
        obtain ⟨cq, hcq⟩ : ∃ cq, dcell ⟨k, vn, vs⟩ = cq := ⟨_, rfl⟩
        rw [hcq] at hput2 HD HF HFAIL
        obtain ⟨cb, ce⟩ := cq
        simp only at hput2 HD HF HFAIL
        clear hput hc hcq hr1
        go_wp2_with fail
        refine hput2.mono ?_
        rintro e w2 ⟨A3, c3, rfl, ho3, hB3⟩
        have hown2 := own_kept hown1 hB3 (Nat.le_refl _)
        have hB4 := bel_step hB2 hB3
        have hs4 := hB4.size
        clear hput2 hown1 hB3 hB2
        by_cases h1 : ce = 0
        · subst h1
          have hst := strB (Rd.of_own ho3) rfl c3
          have HD2 : Hid (drerr r = drerr (r.drop (j + 1))) := Lib.hid (by have := HD.out; rwa [if_pos rfl] at this)
          clear ho3 HD HFAIL
          go_wp2_with (at_builtin; refine wpList_appF1 rfl _ _ rfl rfl hown2 ⟨1, 2, 0, ⟨cb.toArray⟩⟩ rfl (by simp) (by have := HM.out; omega) hs4 ?_; intro A5 c5 w5 ho5 hg5)
          go_roundw
          case rel => exact ⟨j + 1, M + 1, fs ++ [drfld ⟨k, vn, vs⟩], A5, c5, by go_num, rfl, by omega, HT.out.symm, by simp [HML.out], HD2.out, by rw [HF.out]; exact ho5, own_grown hB4 hown2 hs4 hg5⟩
          case measure => simp [intOf]; omega
        · have hbe : (ce != 0) = true := by simpa using h1
          have HQ2 := Lib.hid (HFAIL.out ce h1 rfl)
          clear h1 ho3 HD HFAIL
          go_wp2_with fail
          go_ret2
          exact bpost_err HQ2.out hB4
      · have hbe : (er != 0) = true := by simpa using h0
        have HQ2 := Lib.hid (HFAIL.out er h0 (by rw [HC.out, if_neg h0]))
        clear h0 hr1 HD HFAIL
        go_wp2_with fail
        go_ret2
        exact bpost_err HQ2.out hB2
    · obtain rfl : j = n := by omega
      have hz : drerr r = 0 := by rw [HE.out, List.drop_eq_nil_of_le (by rw [HN.out]; exact Nat.le_refl _)]; rfl
      have hq : q = wput fs := by
        rw [← HQ.out]; unfold drow
        rw [if_pos hz, HFS.out, List.take_of_length_le (by rw [HN.out]; exact Nat.le_refl _)]
      have hok : ∀ f ∈ fs, FldOk f := by
        intro f hf
        rw [HFS.out] at hf
        obtain ⟨v, _, rfl⟩ := List.mem_map.1 hf
        exact ⟨by simp [drfld], by simp [drfld], by simp [drfld]⟩
      have hput := rputs_any fs A2 c2 (by rw [HML.out]; have := HM.out; omega) hok wr (by have := Rd.of_own hown; exact this)
      have hput2 : Calls Tryd.prog 32 #[.slice A2 fs.length c2] wr (BPost (wput fs) wr) := hput
      rw [← hq, HML.out] at hput2
      clear hput hok hq hz HE hlt hown
      go_wp2_with fail
      refine hput2.mono ?_
      rintro e w3 ⟨A3, c3, rfl, ho3, hB3⟩
      go_wp2_with fail
      go_ret2
      exact ⟨A3, c3, rfl, own_base ho3 hs, bel_step hB hB3⟩
end Go.Proofs.YtanfnjlndckhkaaDoor

/- WALK: dataset.Put -/
namespace Go.Proofs.YtanfnjlndckhkaaDoor
open Go.RowKit Plain

set_option maxRecDepth 100000 in
set_option maxHeartbeats 2000000 in
theorem dput_any (d : DS) (hok : DSOk d) (w : World) (hd : d.At w w.heap.size) (hK : Kinds w) :
    Calls Tryd.prog 13 #[d.agg] w (BPost (dput d.cols d.types d.plain) w) := by
  obtain ⟨q, hq⟩ : ∃ q, dput d.cols d.types d.plain = q := ⟨_, rfl⟩
  rw [hq]
  have hhead := fun h16 ht W hW => dhead_any d h16 ht hok W hW
  have HD := Lib.hid hd
  have HOK := Lib.hid hok
  have HK := Lib.hid hK
  have HQ := Lib.hid hq
  have b1 := hok.l1
  have b2 := hok.l2
  have b3 := hok.l3
  clear hd hok hK hq
  obtain ⟨A1, c1, cols, A2, c2, types, A3, c3, rows⟩ := d
  simp only at b1 b2 b3
  unfold DS.agg at hhead ⊢
  simp only at hhead ⊢
  obtain ⟨n, hn⟩ : ∃ n, cols.length = n := ⟨_, rfl⟩
  obtain ⟨t, ht⟩ : ∃ n, types.length = n := ⟨_, rfl⟩
  obtain ⟨m, hm⟩ : ∃ n, rows.length = n := ⟨_, rfl⟩
  rw [hn, ht, hm] at hhead ⊢
  rw [hn] at b1
  rw [ht] at b2
  rw [hm] at b3
  have HN := Lib.hid hn
  have HT := Lib.hid ht
  have HM := Lib.hid hm
  clear hn ht hm
  have hE0 : Below w.heap.size w (w.alloc (Obj.cells #[.slice A1 n c1, .slice A2 t c2, .slice A3 m c3] 26)) := (Below.refl _ w).alloc (Nat.le_refl _) _
  have hD0 : BoxD (w.alloc (Obj.cells #[.slice A1 n c1, .slice A2 t c2, .slice A3 m c3] 26)) w.heap.size (.slice A1 n c1) (.slice A2 t c2) (.slice A3 m c3) := World.alloc_heap_new w _
  go_enter Tryd.func13, Tryd.ntmps13
  by_cases h1 : 16 < n
  · have hd1 : decide ((16 : Int) < (n : Int)) = true := decide_eq_true (by omega)
    have hq : q = ([], 6) := by rw [← HQ.out]; unfold dput; rw [if_pos (.inl (by rw [HN.out]; exact h1))]
    have HQ2 := Lib.hid hq
    clear h1 hq hhead
    go_wp2_with fail
    go_ret2
    exact bpost_err HQ2.out hE0
  by_cases h2 : 32 < m
  · have hd1 : decide ((16 : Int) < (n : Int)) = false := decide_eq_false (by omega)
    have hd2 : decide ((32 : Int) < (m : Int)) = true := decide_eq_true (by omega)
    have hq : q = ([], 6) := by rw [← HQ.out]; unfold dput; rw [if_pos (.inr (by simp only [DS.plain, List.length_map]; rw [HM.out]; exact h2))]
    have HQ2 := Lib.hid hq
    clear h1 h2 hq hhead
    go_wp2_with fail
    go_ret2
    exact bpost_err HQ2.out hE0
  have hlow : ¬ (16 < cols.length ∨ 32 < (DS.plain ⟨A1, c1, cols, A2, c2, types, A3, c3, rows⟩).length) := by
    simp only [DS.plain, List.length_map]
    rw [HN.out, HM.out]
    omega
  have hd1 : decide ((16 : Int) < (n : Int)) = false := decide_eq_false (by omega)
  have hd2 : decide ((32 : Int) < (m : Int)) = false := decide_eq_false (by omega)
  by_cases h3 : t = n
  · have hq2 : q = if derrs cols.length (rows.map RowH.vals) = 0 then wput (dhead cols types ++ (rows.map RowH.vals).map drfl) else ([], derrs cols.length (rows.map RowH.vals)) := by
      rw [← HQ.out]; unfold dput
      rw [if_neg hlow, if_pos (by rw [HT.out, HN.out]; exact h3)]
      rfl
    subst h3
    have HQ2 := Lib.hid hq2
    have H16 : Hid (t ≤ 16 ∧ m ≤ 32) := Lib.hid ⟨by omega, by omega⟩
    clear hlow hq2 h1 h2 b1 b2 b3
    go_wp2_with fail
    have hdA := (HD.out.below hE0 (Nat.le_refl _)).more hE0.size
    generalize hW0 : w.alloc (Obj.cells #[.slice A1 t c1, .slice A2 t c2, .slice A3 m c3] 26) = W0 at *
    refine (hhead H16.out.1 (by trivial) _ hdA).mono ?_
    rintro e w1 ⟨A4, c4, rfl, ho, hB1⟩
    obtain ⟨x0, x1, x2⟩ := (hD0.below hB1).cells
    obtain ⟨H, hH⟩ : ∃ H, dhead cols types = H := ⟨_, rfl⟩
    rw [hH] at ho ⊢
    obtain ⟨k0, hk0⟩ : ∃ k, H.length = k := ⟨_, rfl⟩
    rw [hk0] at ho ⊢
    have HH := Lib.hid hH
    have HK0 := Lib.hid hk0
    have hk0b : k0 ≤ 100 := by rw [← hk0, ← hH]; unfold dhead; simp only [List.length_append, List.length_map]; rw [HN.out, HT.out]; have := H16.out; split <;> simp <;> omega
    have HKB := Lib.hid hk0b
    have h0s : w.heap.size < W0.heap.size := by rw [← hW0]; simp
    clear hhead hW0 hH hk0 hk0b
    go_wp2_with fail
    go_loopw [4, 30] (fun o i wr => ∃ (j k : Nat) (A : Option Addr) (c : Nat), i = .int .i64 j ∧ o = .slice A k c ∧ j ≤ m ∧ k = k0 + j ∧ wr.ownsRow W0.heap.size 64 4 (.slice A k c) k (flc (H ++ ((rows.map RowH.vals).take j).map drfl)) ∧ derrs cols.length (rows.map RowH.vals) = derrs cols.length ((rows.map RowH.vals).drop j) ∧ Below W0.heap.size W0 wr) (fun _ i _ => m - (intOf i).toNat)
    case atStart => exact ⟨0, k0, A4, c4, rfl, rfl, Nat.zero_le _, rfl, by simpa using ho, rfl, hB1⟩
    case round =>
      clear ho hB1 x0 x1 x2
      obtain ⟨j, k, A, c, rfl, rfl, hj, hk, hown, he, hB⟩ := hrel
      have hs := hB.size
      have hm32 : m ≤ 32 := H16.out.2
      have hkb : k ≤ 200 := by have := HKB.out; have := H16.out; omega
      have HKK := Lib.hid hk
      have HE := Lib.hid he
      clear hk he
      obtain ⟨x0, x1, x2⟩ := (hD0.below hB).cells
      by_cases hlt : j < m
      · obtain ⟨r, hr⟩ : ∃ r, rows[j]? = some r := ⟨_, List.getElem?_eq_getElem (by rw [HM.out]; exact hlt)⟩
        have hrm := List.mem_of_getElem? hr
        have HLT := Lib.hid hlt
        have hrj : (rows.map RowH.vals)[j]? = some r.vals := by rw [List.getElem?_map, hr]; rfl
        have hrd := (hdA.rs r hrm).below hB (Nat.le_refl _)
        have hvok := HOK.out.vs r hrm
        have hdd := drop_cons hrj
        have HST : Hid (((rows.map RowH.vals).take (j + 1)).map drfl = ((rows.map RowH.vals).take j).map drfl ++ [drfl r.vals]) := Lib.hid (by rw [List.take_add_one, hrj]; simp)
        have HDE : Hid (derrs cols.length (rows.map RowH.vals) = if r.vals.length = t then (if (drow r.vals).2 = 0 then derrs cols.length ((rows.map RowH.vals).drop (j + 1)) else (drow r.vals).2) else 4) := Lib.hid (by rw [HE.out, hdd, derrs, HN.out])
        have hr3 : Rd wr W0.heap.size A3 (rcl rows) := hdA.r3.below hB (Nat.le_refl _)
        obtain ⟨b1, o1, rfl, hb1, g0⟩ := one_at hr3 hr
        obtain ⟨adr, cap, vals⟩ := r
        simp only at g0 hvok hrd
        obtain ⟨L, hL⟩ : ∃ L, vals.length = L := ⟨_, rfl⟩
        rw [hL] at g0
        simp only [hL] at HDE
        have HL := Lib.hid hL
        clear hrj hdd hr hrm hr3 HE hL
        have hfail : ∀ e : Int, ¬ e = 0 → derrs cols.length (rows.map RowH.vals) = e → q = ([], e) := fun e h0 h1 => by rw [HQ2.out, h1, if_neg h0]
        have HFAIL := Lib.hid hfail
        clear hfail
        by_cases hLt : L = t
        · subst hLt
          have HDE2 := Lib.hid (show derrs cols.length (rows.map RowH.vals) = if (drow vals).2 = 0 then derrs cols.length ((rows.map RowH.vals).drop (j + 1)) else (drow vals).2 by have := HDE.out; rwa [if_pos rfl] at this)
          have hrow := fun W hW hKW => drow_any vals adr cap (by rw [HL.out]; exact H16.out.1) hvok W hW hKW
          rw [HL.out] at hrow
          unfold BPost at hrow
          have HF : Hid (drfl vals = ⟨4, 2, 0, ⟨(drow vals).1.toArray⟩⟩) := Lib.hid rfl
          obtain ⟨cq, hcq⟩ : ∃ cq, drow vals = cq := ⟨_, rfl⟩
          rw [hcq] at hrow HDE2 HF
          obtain ⟨cb, ce⟩ := cq
          simp only at hrow HDE2 HF
          clear hcq HDE hvok
          go_wp2_with fail
          go_quiet (fail)
          have hB2 : Below W0.heap.size W0 (wr.drewN nq) := below_drewN hB nq
          have hown2 : (wr.drewN nq).ownsRow W0.heap.size 64 4 (.slice A k c) k (flc (H ++ ((rows.map RowH.vals).take j).map drfl)) := hown
          have hrd2 : Rd (wr.drewN nq) W0.heap.size adr (vvl vals) := hrd
          have g02 : (wr.drewN nq).cell? ⟨b1, o1 + j, none⟩ = some (.slice adr L cap) := g0
          have hs2 : W0.heap.size ≤ (wr.drewN nq).heap.size := hs
          clear hB hown hrd g0 x0 x1 x2 hs
          generalize wr.drewN nq = W3 at *
          obtain ⟨x0, x1, x2⟩ := (hD0.below hB2).cells
          go_wp2_with fail
          refine (hrow W3 (hrd2.more hs2) (HK.out.below (bel_step hE0 hB2) HK.out.pos)).mono ?_
          rintro e w4 ⟨A6, c6, rfl, ho6, hB6⟩
          have hown3 := own_kept hown2 hB6 (Nat.le_refl _)
          have hB7 := hB2.trans (hB6.mono hs2)
          clear hrow hown2 hrd2 g02 hs2 hB2 hB6 x0 x1 x2
          by_cases h0 : ce = 0
          · subst h0
            have htx := dtext_any 4 A6 cb.length c6 cb rfl w4 (Rd.of_own ho6)
            unfold Fld.cells at htx
            have HD3 : Hid (derrs cols.length (rows.map RowH.vals) = derrs cols.length ((rows.map RowH.vals).drop (j + 1))) := Lib.hid (by have := HDE2.out; rwa [if_pos rfl] at this)
            clear ho6 HDE2 HFAIL
            go_wp2_with fail
            refine htx.mono ?_
            rintro e w5 ⟨rfl, hB8⟩
            have hown4 := own_kept hown3 hB8 (Nat.le_refl _)
            have hB9 := hB7.trans (hB8.mono hB7.size)
            have hs9 := hB9.size
            clear htx hown3 hB8 hB7
            go_wp2_with (at_builtin; refine wpList_appF1 rfl _ _ rfl rfl hown4 ⟨4, 2, 0, ⟨cb.toArray⟩⟩ rfl (by simp) (by omega) hs9 ?_; intro A7 c7 w7 ho7 hg7)
            go_roundw
            case rel => exact ⟨j + 1, k + 1, A7, c7, by go_num, rfl, by have := HLT.out; omega, by have := HKK.out; omega, by rw [HST.out, HF.out, ← List.append_assoc]; exact ho7, HD3.out, own_grown hB9 hown4 hs9 hg7⟩
            case measure => have := HLT.out; simp [intOf]; omega
          · have hbe : (ce != 0) = true := by simpa using h0
            have HQ3 := Lib.hid (HFAIL.out ce h0 (by have := HDE2.out; rwa [if_neg h0] at this))
            clear h0 ho6 HDE2 HFAIL
            go_wp2_with fail
            go_ret2
            exact bpost_err HQ3.out (bel_step hE0 hB7)
        · have hbe : ((L : Int) != (t : Int)) = true := by simp; omega
          have HQ3 := Lib.hid (HFAIL.out 4 (by decide) (by have := HDE.out; rwa [if_neg hLt] at this))
          clear hLt HFAIL HDE
          go_wp2_with fail
          go_quiet (fail)
          go_wp2_with fail
          go_ret2
          exact bpost_err HQ3.out (bel_step hE0 (below_drewN hB nq))
      · obtain rfl : j = m := by omega
        have hrl : (rows.map RowH.vals).length = j := by rw [List.length_map]; exact HM.out
        have hz : derrs cols.length (rows.map RowH.vals) = 0 := by rw [HE.out, List.drop_eq_nil_of_le (by rw [hrl]; exact Nat.le_refl _)]; rfl
        rw [List.take_of_length_le (by rw [hrl]; exact Nat.le_refl _)] at hown
        obtain ⟨l, hl⟩ : ∃ l, H ++ (rows.map RowH.vals).map drfl = l := ⟨_, rfl⟩
        have hq : q = wput l := by rw [HQ2.out, if_pos hz, HH.out, hl]
        have hll : l.length = k := by rw [← hl, List.length_append, HK0.out, List.length_map, hrl, ← HKK.out]
        have hlok : ∀ f ∈ l, FldOk f := by
          intro f hf
          rw [← hl, ← HH.out] at hf
          have hn16 := H16.out
          have hn := HN.out
          have hty := HOK.out.ty
          simp only at hty
          unfold dhead at hf
          simp only [List.mem_append, List.mem_map] at hf
          rcases hf with ((hf | ⟨s, _, rfl⟩) | ⟨x, hx, rfl⟩) | ⟨x, _, rfl⟩
          · split at hf
            · cases hf
            · obtain rfl : f = _ := by simpa using hf
              refine ⟨by simp, by simp, ?_⟩
              simp only
              omega
          · exact ⟨by simp, by simp, by simp⟩
          · have := hty x hx
            refine ⟨by simp, by simp, ?_⟩
            simp only
            omega
          · exact ⟨by simp [drfl], by simp [drfl], by simp [drfl]⟩
        rw [hl] at hown
        have hput := puts_any l A c (by omega) hlok wr (Rd.of_own hown)
        have hput2 : Calls Tryd.prog 36 #[.slice A l.length c] wr (BPost (wput l) wr) := hput
        rw [← hq, hll] at hput2
        have hW := bel_step hE0 hB
        clear hput hlok hq hll hl hz hrl hlt hown HE
        go_wp2_with fail
        refine hput2.mono ?_
        rintro e w5 ⟨A5, c5, rfl, ho5, hB5⟩
        go_wp2_with fail
        go_ret2
        exact ⟨A5, c5, rfl, own_base ho5 hW.size, bel_step hW hB5⟩
  · have hb : ((t : Int) != (n : Int)) = true := by simp; omega
    have hq : q = ([], 4) := by rw [← HQ.out]; unfold dput; rw [if_neg hlow, if_neg (by rw [HT.out, HN.out]; exact h3)]
    have HQ2 := Lib.hid hq
    clear h3 hq hhead h1 h2 hlow
    go_wp2_with fail
    go_ret2
    exact bpost_err HQ2.out hE0
end Go.Proofs.YtanfnjlndckhkaaDoor
