/- WALKS: dataset.Cell, Column -/
import Derived.Test.YtlgokfgbcohioaaDoorDsLM
import Derived.Laws.ResultCell
namespace Go.Proofs.YtlgokfgbcohioaaDoor
open Go.RowKit Plain

set_option maxRecDepth 100000 in
set_option maxHeartbeats 2000000 in
/-- a place that is none -/
theorem cell_out (d : DS) (r c : Int) (hok : DSOk d) (w : World) (hd : d.At w w.heap.size) (hout : r < 0 ∨ (d.rows.length : Int) ≤ r) :
    Calls Tryd.prog 22 #[d.agg, .int .i64 r, .int .i64 c] w fun e w' => e = .returned (.tuple #[.agg VV.zero.cells, .bool false]) ∧ Below w.heap.size w w' := by
  obtain ⟨A1, c1, cols, A2, c2, types, A3, c3, rows⟩ := d
  simp only at hout
  have b3 := hok.l3
  simp only at b3
  clear hok hd
  unfold DS.agg
  simp only
  generalize cols.length = n1 at *
  generalize types.length = n2 at *
  generalize rows.length = n3 at *
  by_cases h0 : r < 0
  · clear hout
    go_enter Tryd.func22, Tryd.ntmps22
    go_wp2_with fail
    refine bodyPost_ret (v := .tuple #[.agg VV.zero.cells, .bool false]) ?_ rfl ⟨rfl, ?_⟩
    · rw [results_cell_tmp rfl]; go_simp; rfl
    · exact ((Below.refl _ w).alloc (Nat.le_refl _) _).alloc (by simp) _
  · have h1 : (n3 : Int) ≤ r := by omega
    clear hout
    go_enter Tryd.func22, Tryd.ntmps22
    go_wp2_with fail
    refine bodyPost_ret (v := .tuple #[.agg VV.zero.cells, .bool false]) ?_ rfl ⟨rfl, ?_⟩
    · rw [results_cell_tmp rfl]; go_simp; rfl
    · exact ((Below.refl _ w).alloc (Nat.le_refl _) _).alloc (by simp) _
set_option maxRecDepth 100000 in
set_option maxHeartbeats 2000000 in
/-- a place of a row that is there -/
theorem cell_in (d : DS) (j : Nat) (c : Int) (hok : DSOk d) (w : World) (hd : d.At w w.heap.size) (r : RowH) (hr : d.rows[j]? = some r) :
    (c < 0 ∨ (r.vals.length : Int) ≤ c → Calls Tryd.prog 22 #[d.agg, .int .i64 j, .int .i64 c] w fun e w' => e = .returned (.tuple #[.agg VV.zero.cells, .bool false]) ∧ Below w.heap.size w w') ∧
    (∀ (i : Nat) (v : VV), c = i → r.vals[i]? = some v → Calls Tryd.prog 22 #[d.agg, .int .i64 j, .int .i64 c] w fun e w' => e = .returned (.tuple #[.agg v.cells, .bool true]) ∧ Below w.heap.size w w') := by
  have hrs := hd.rs r (List.mem_of_getElem? hr)
  have hlt := (List.getElem?_eq_some_iff.1 hr).1
  have hl := hok.ls r (List.mem_of_getElem? hr)
  obtain ⟨A1, c1, cols, A2, c2, types, A3, c3, rows⟩ := d
  simp only at hlt hr
  have b3 := hok.l3
  have hr3 := hd.r3
  simp only at b3 hr3
  obtain ⟨b1, o1, rfl, hb1, g0⟩ := one_at hr3 hr
  clear hok hd hr hr3
  unfold DS.agg
  simp only
  generalize cols.length = n1 at *
  generalize types.length = n2 at *
  generalize rows.length = n3 at *
  obtain ⟨adr, cap, vals⟩ := r
  simp only at hrs hl g0 ⊢
  obtain ⟨L, hL⟩ : ∃ L, vals.length = L := ⟨_, rfl⟩
  rw [hL] at g0 hl ⊢
  have HL := Lib.hid hL
  have hlt2 : ¬ (n3 : Int) ≤ (j : Int) := by omega
  clear hL
  refine ⟨fun hout => ?_, fun i v hi hv => ?_⟩
  · clear hrs
    by_cases h0 : c < 0
    · clear hout
      go_enter Tryd.func22, Tryd.ntmps22
      go_wp2_with fail
      refine bodyPost_ret (v := .tuple #[.agg VV.zero.cells, .bool false]) ?_ rfl ⟨rfl, ?_⟩
      · rw [results_cell_tmp rfl]; go_simp; rfl
      · exact ((Below.refl _ w).alloc (Nat.le_refl _) _).alloc (by simp) _
    · have h1 : (L : Int) ≤ c := by omega
      clear hout
      go_enter Tryd.func22, Tryd.ntmps22
      go_wp2_with fail
      refine bodyPost_ret (v := .tuple #[.agg VV.zero.cells, .bool false]) ?_ rfl ⟨rfl, ?_⟩
      · rw [results_cell_tmp rfl]; go_simp; rfl
      · exact ((Below.refl _ w).alloc (Nat.le_refl _) _).alloc (by simp) _
  · subst hi
    have hiL : i < L := by rw [← HL.out]; exact (List.getElem?_eq_some_iff.1 hv).1
    have hiL2 : ¬ (L : Int) ≤ (i : Int) := by omega
    obtain ⟨b2, o2, rfl, hb2, e0, e1, e2⟩ := val_at hrs hv
    obtain ⟨k, n, s⟩ := v
    simp only at e0 e1 e2
    clear hrs hv
    go_enter Tryd.func22, Tryd.ntmps22
    go_wp2_with fail
    refine bodyPost_ret (v := .tuple #[.agg #[.int .i64 k, .int .u64 n, .string s], .bool true]) ?_ rfl ⟨rfl, ?_⟩
    · rw [results_cell_tmp rfl]; go_simp
    · exact ((Below.refl _ w).alloc (Nat.le_refl _) _).alloc (by simp) _
/-- the place of a text in a list, counted from k; -1: none -/
def sidx (s : ByteArray) : List ByteArray → Nat → Int
  | [], _ => -1
  | x :: l, k => if (s.toList == x.toList) = true then (k : Int) else sidx s l (k + 1)
set_option maxRecDepth 100000 in
set_option maxHeartbeats 2000000 in
theorem index_any (l : List ByteArray) (s : ByteArray) (A : Option Addr) (c : Nat) (hl : l.length ≤ 9223372036854775807) (w : World) (hr : Rd w w.heap.size A (scl l)) :
    Calls Tryd.prog 46 #[.slice A l.length c, .string s] w fun e w' => e = .returned (.int .i64 (sidx s l 0)) ∧ Below w.heap.size w w' := by
  obtain ⟨q, hq⟩ : ∃ q, sidx s l 0 = q := ⟨_, rfl⟩
  rw [hq]
  have HQ := Lib.hid hq
  have HR := Lib.hid hr
  obtain ⟨n, hn⟩ : ∃ n, l.length = n := ⟨_, rfl⟩
  rw [hn] at hl ⊢
  have HN := Lib.hid hn
  clear hq hr hn
  go_enter Tryd.func46, Tryd.ntmps46
  go_wp2_with fail
  go_loopw [8] (fun i wr => ∃ j : Nat, i = .int .i64 j ∧ j ≤ n ∧ sidx s (l.drop j) j = q ∧ wr = w) (fun i _ => n - (intOf i).toNat)
  case atStart => exact ⟨0, rfl, Nat.zero_le _, HQ.out, rfl⟩
  case round =>
    obtain ⟨j, rfl, hj, he, rfl⟩ := hrel
    have HE := Lib.hid he
    clear he
    by_cases hlt : j < n
    · obtain ⟨x, hx⟩ : ∃ x, l[j]? = some x := ⟨_, List.getElem?_eq_getElem (by rw [HN.out]; exact hlt)⟩
      obtain ⟨b1, o1, rfl, hb1, g0⟩ := one_at HR.out hx
      have he2 := HE.out
      rw [drop_cons hx, sidx] at he2
      clear hx HE
      by_cases heq : (s.toList == x.toList) = true
      · have hb := heq
        rw [if_pos heq] at he2
        have HE := Lib.hid he2
        clear he2 heq
        go_wp2_with fail
        go_ret
        exact ⟨ret_int HE.out, Below.refl _ _⟩
      · have hb : (s.toList == x.toList) = false := by simpa using heq
        rw [if_neg heq] at he2
        have HE := Lib.hid he2
        clear he2 heq
        go_wp2_with fail
        go_roundw
        case rel => exact ⟨j + 1, by go_num, by omega, HE.out, by trivial⟩
        case measure => simp [intOf]; omega
    · rw [List.drop_eq_nil_of_le (by rw [HN.out]; omega)] at HE
      have HE2 : Hid (-1 = q) := Lib.hid HE.out
      clear HE
      go_wp2_with fail
      go_ret
      exact ⟨ret_int HE2.out, Below.refl _ _⟩
set_option maxRecDepth 100000 in
set_option maxHeartbeats 2000000 in
theorem column_any (d : DS) (s : ByteArray) (hok : DSOk d) (w : World) (hd : d.At w w.heap.size) :
    Calls Tryd.prog 23 #[d.agg, .string s] w fun e w' => e = .returned (.int .i64 (sidx s d.cols 0)) ∧ Below w.heap.size w w' := by
  have hi := fun W (hB : Below w.heap.size w W) => index_any d.cols s d.A1 d.c1 hok.l1 W ((hd.r1.below hB (Nat.le_refl _)).more hB.size)
  obtain ⟨A1, c1, cols, A2, c2, types, A3, c3, rows⟩ := d
  unfold DS.agg
  simp only at hi ⊢
  generalize sidx s cols 0 = q at *
  generalize cols.length = n1 at *
  generalize types.length = n2 at *
  generalize rows.length = n3 at *
  clear hok hd
  have hE0 : Below w.heap.size w (w.alloc (Obj.cells #[.slice A1 n1 c1, .slice A2 n2 c2, .slice A3 n3 c3] 26)) := (Below.refl _ w).alloc (Nat.le_refl _) _
  go_enter Tryd.func23, Tryd.ntmps23
  go_wp2_with fail
  refine (hi _ hE0).mono ?_
  rintro e w1 ⟨rfl, hB1⟩
  go_wp2_with fail
  go_ret
  exact ⟨rfl, bel_step hE0 hB1⟩
end Go.Proofs.YtlgokfgbcohioaaDoor
