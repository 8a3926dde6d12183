/- Several texts in one: words, plain laws and walks that the statement's proof imports. -/
import Derived.Test.YtanfnjlndckhkaaDoorK1
import Derived.Laws.BitsAllLaws
import Derived.RangeFuncRecord
import Derived.Lib.AppendStr
import Derived.LoopTactic
import Derived.Laws.ResultCell
import Derived.Deep.Slices
import Derived.Deep.Strs
/- WALKS: fixed.lay at both widths, Put4, Put8. -/
namespace Go.Proofs.YtanfnjlndckhkaaDoor
open Go.RowKit Plain

theorem leB_val (n j : Nat) : (n : Int) / 2 ^ (8 * j) % 256 = ((leB n j).toNat : Int) := by
  have e : (2 : Int) ^ (8 * j) = ((256 ^ j : Nat) : Int) := by rw [show 256 ^ j = 2 ^ (8 * j) by rw [Nat.pow_mul]]; simp
  rw [e]
  simp only [leB, UInt8.toNat_ofNat']
  omega
theorem bcl_set (l : List UInt8) (j : Nat) (c : UInt8) : (bcl l).set j (.int .u8 (c.toNat : Int)) = bcl (l.set j c) := by
  simp [bcl, List.map_set]
theorem bcl_zero (k : Nat) : List.replicate k (Value.int .u8 0) = bcl (List.replicate k 0) := by simp [bcl]
theorem bcl_get {l : List UInt8} {i : Nat} (h : i < l.length) : (bcl l)[i]? = some (.int .u8 (l[i].toNat : Int)) := by
  simp [bcl, h]

set_option maxHeartbeats 400000 in
theorem lay32_any (n k : Nat) (_hn : n < 4294967296) (hk : k ≤ 4) (w : World) :
    Calls Tryd.prog 110 #[.int .u32 n, .int .i64 k] w fun e w' => ∃ A c, e = .returned (.slice A k c) ∧
      w'.ownsRow w.heap.size 5 1 (.slice A k c) k (bcl (le k n)) ∧ Below w.heap.size w w' := by
  obtain ⟨i0, hi, hz0, hz1, hz2⟩ := elemB.info
  go_enter Tryd.func110, Tryd.ntmps110
  go_wp2_with (at_make; refine wpList_make_full _ rfl _ _ 27 rfl w.heap.size 5 i0 (.int .u8 0) 1 elemB.ht hi hz0 hz1 .i64 .i64 _ _ k rfl rfl rfl rfl (by rw [hz2]; omega) (by unfold maxLen; omega) (Nat.le_refl _) ?_; intro w1 hown hgrow)
  have hB := (Below.refl w.heap.size w).grown hgrow (Nat.le_refl _) (fun _ h => by cases h)
  have hown2 : w1.ownsRow w.heap.size 5 1 (.slice (some ⟨w.heap.size, 0, none⟩) k k) k (bcl (leTo k 0 n)) := by
    rw [leTo_zero, ← bcl_zero, ← toList_madeCells_one]; simpa [Value.cells] using hown
  clear hgrow hz0 hz1 hz2 hi hown
  go_loopw [10] (fun i wr => ∃ j : Nat, i = .int .i64 j ∧ j ≤ k ∧ wr.ownsRow w.heap.size 5 1 (.slice (some ⟨w.heap.size, 0, none⟩) k k) k (bcl (leTo k j n)) ∧ Below w.heap.size w wr) (fun i _ => k - (intOf i).toNat)
  case atStart => exact ⟨0, rfl, by omega, hown2, hB⟩
  case round =>
    clear hown2 hB
    obtain ⟨j, rfl, hj, hx, hB⟩ := hrel
    by_cases hlt : j < k
    · have hc : wr.cell? ⟨w.heap.size, j, none⟩ = some (.int .u8 ((leTo k j n)[j]'(by rw [leTo_length n hj]; exact hlt)).toNat) := by
        rw [hx.cellAt j (by omega), bcl_get (by rw [leTo_length n hj]; exact hlt)]
      have hf := hx.frozenAt j
      go_wp2
      go_roundw
      case rel =>
        rw [leB_val] at *
        obtain ⟨h1, h2⟩ := hx.stored j (.int .u8 ((leB n j).toNat : Int))
        rw [bcl_set, leTo_set n hlt] at h1
        exact ⟨j + 1, by go_num, hlt, h1, hB.grown h2 hB.size (fun g e => by cases e; exact Nat.le_refl _)⟩
      case measure => simp [intOf]; omega
    · go_wp2
      go_ret
      obtain rfl : j = k := by omega
      exact ⟨_, _, rfl, by rw [← leTo_end]; exact hx, hB⟩
set_option maxHeartbeats 400000 in
theorem lay64_any (n k : Nat) (_hn : n < 18446744073709551616) (hk : k ≤ 8) (w : World) :
    Calls Tryd.prog 109 #[.int .u64 n, .int .i64 k] w fun e w' => ∃ A c, e = .returned (.slice A k c) ∧
      w'.ownsRow w.heap.size 5 1 (.slice A k c) k (bcl (le k n)) ∧ Below w.heap.size w w' := by
  obtain ⟨i0, hi, hz0, hz1, hz2⟩ := elemB.info
  go_enter Tryd.func109, Tryd.ntmps109
  go_wp2_with (at_make; refine wpList_make_full _ rfl _ _ 27 rfl w.heap.size 5 i0 (.int .u8 0) 1 elemB.ht hi hz0 hz1 .i64 .i64 _ _ k rfl rfl rfl rfl (by rw [hz2]; omega) (by unfold maxLen; omega) (Nat.le_refl _) ?_; intro w1 hown hgrow)
  have hB := (Below.refl w.heap.size w).grown hgrow (Nat.le_refl _) (fun _ h => by cases h)
  have hown2 : w1.ownsRow w.heap.size 5 1 (.slice (some ⟨w.heap.size, 0, none⟩) k k) k (bcl (leTo k 0 n)) := by
    rw [leTo_zero, ← bcl_zero, ← toList_madeCells_one]; simpa [Value.cells] using hown
  clear hgrow hz0 hz1 hz2 hi hown
  go_loopw [10] (fun i wr => ∃ j : Nat, i = .int .i64 j ∧ j ≤ k ∧ wr.ownsRow w.heap.size 5 1 (.slice (some ⟨w.heap.size, 0, none⟩) k k) k (bcl (leTo k j n)) ∧ Below w.heap.size w wr) (fun i _ => k - (intOf i).toNat)
  case atStart => exact ⟨0, rfl, by omega, hown2, hB⟩
  case round =>
    clear hown2 hB
    obtain ⟨j, rfl, hj, hx, hB⟩ := hrel
    by_cases hlt : j < k
    · have hc : wr.cell? ⟨w.heap.size, j, none⟩ = some (.int .u8 ((leTo k j n)[j]'(by rw [leTo_length n hj]; exact hlt)).toNat) := by
        rw [hx.cellAt j (by omega), bcl_get (by rw [leTo_length n hj]; exact hlt)]
      have hf := hx.frozenAt j
      go_wp2
      go_roundw
      case rel =>
        rw [leB_val] at *
        obtain ⟨h1, h2⟩ := hx.stored j (.int .u8 ((leB n j).toNat : Int))
        rw [bcl_set, leTo_set n hlt] at h1
        exact ⟨j + 1, by go_num, hlt, h1, hB.grown h2 hB.size (fun g e => by cases e; exact Nat.le_refl _)⟩
      case measure => simp [intOf]; omega
    · go_wp2
      go_ret
      obtain rfl : j = k := by omega
      exact ⟨_, _, rfl, by rw [← leTo_end]; exact hx, hB⟩


theorem put4_any (n : Nat) (hn : n < 4294967296) (w : World) :
    Calls Tryd.prog 85 #[.int .u32 n] w fun e w' => ∃ A c, e = .returned (.slice A 4 c) ∧
      w'.ownsRow w.heap.size 5 1 (.slice A 4 c) 4 (bcl (le 4 n)) ∧ Below w.heap.size w w' := by
  go_enter Tryd.func85, Tryd.ntmps85
  go_wp2_with fail
  refine (lay32_any n 4 hn (by omega) _).mono ?_
  rintro e w1 ⟨A, c, rfl, hown, hB⟩
  go_wp2
  go_ret
  exact ⟨A, c, rfl, hown, hB⟩
theorem put8_any (n : Nat) (hn : n < 18446744073709551616) (w : World) :
    Calls Tryd.prog 84 #[.int .u64 n] w fun e w' => ∃ A c, e = .returned (.slice A 8 c) ∧
      w'.ownsRow w.heap.size 5 1 (.slice A 8 c) 8 (bcl (le 8 n)) ∧ Below w.heap.size w w' := by
  go_enter Tryd.func84, Tryd.ntmps84
  go_wp2_with fail
  refine (lay64_any n 8 hn (by omega) _).mono ?_
  rintro e w1 ⟨A, c, rfl, hown, hB⟩
  go_wp2
  go_ret
  exact ⟨A, c, rfl, hown, hB⟩
end Go.Proofs.YtanfnjlndckhkaaDoor

/- WALK: wire.put -/
namespace Go.Proofs.YtanfnjlndckhkaaDoor
open Go.RowKit Plain

def wenc (num kind : Nat) (val : Nat) (text : List UInt8) : List UInt8 :=
  vput (8 * num + kind) ++ (if kind = 0 then vput val else if kind = 1 then le 8 val else if kind = 5 then le 4 val else vput text.length ++ text)

theorem tag_or {num kind : Nat} (hnum : num < 536870912) (hkind : kind < 8) : bits BinOp.or IntKind.u64 ((num : Int) * 8) (kind : Int) = ((8 * num + kind : Nat) : Int) := by
  rw [show ((num : Int) * 8) = ((num * 8 : Nat) : Int) by omega, u64_or_nat _ _ (by omega) (by omega), nat_join 3 _ _ (by omega) (by omega)]
  congr 1
  omega
/-- block B is the box of a field -/
def BoxF (W : World) (B : Nat) (num kind : Int) (val : Nat) (text : ByteArray) : Prop := W.heap[B]? = some (.cells #[.int .i64 num, .int .i64 kind, .int .u64 val, .string text] 64 (0, 0))
theorem BoxF.new (W : World) (num kind : Int) (val : Nat) (text : ByteArray) : BoxF (W.alloc (Obj.cells #[Value.int IntKind.i64 num, Value.int IntKind.i64 kind, Value.int IntKind.u64 val, Value.string text] 64)) W.heap.size num kind val text := World.alloc_heap_new W _
theorem BoxF.lt {W : World} {B : Nat} {num kind : Int} {val : Nat} {text : ByteArray} (h : BoxF W B num kind val text) : B < W.heap.size := (Array.getElem?_eq_some_iff.1 h).1
theorem BoxF.below {W W' : World} {B C : Nat} {num kind : Int} {val : Nat} {text : ByteArray} (h : BoxF W B num kind val text) (hb : Below C W W') (hC : B < C) : BoxF W' B num kind val text := (hb.block B hC).trans h
theorem BoxF.row {W W' : World} {B : Nat} {num kind : Int} {val : Nat} {text : ByteArray} (h : BoxF W B num kind val text) {base n c : Nat} {A : Option Addr} {xs : List Value}
    (hr : W.ownsRow base 5 1 (.slice A n c) n xs) (hg : W.grownBy W' (Value.slice A n c).ownBlock) : BoxF W' B num kind val text := by
  refine (hg.block B h.lt ?_).trans h
  rcases hr.2 with ⟨hv, _⟩ | ⟨g, cap, cur, hv, _, hgb, _⟩
  · rw [hv]; simp [Value.ownBlock]
  · rw [hv]
    intro e'
    obtain rfl : B = g := by simpa [Value.ownBlock] using e'
    have := (show W.heap[B]? = _ from h).symm.trans hgb
    simp at this
theorem BoxF.cells {W : World} {B : Nat} {num kind : Int} {val : Nat} {text : ByteArray} (h : BoxF W B num kind val text) :
    W.cell? ⟨B, 0, none⟩ = some (.int .i64 num) ∧ W.cell? ⟨B, 1, none⟩ = some (.int .i64 kind) ∧ W.cell? ⟨B, 2, none⟩ = some (.int .u64 val) ∧ W.cell? ⟨B, 3, none⟩ = some (.string text) := by
  refine ⟨?_, ?_, ?_, ?_⟩ <;> simp [World.cell?, show W.heap[B]? = _ from h]
theorem hStr : Program.underlying Tryd.prog 9 = some .string := by kernel_rfl
section
variable {w : World} {ops : Array Oper} {rest : List Oper} {o : Oper} {a : Act} {Q : Exit → Act → World → Prop}
/-- append of a string's bytes onto a row of the call's own -/
theorem wpList_appS (hgd : o.guard = none) (s x : Operand)
    (ho : o.op = .call { callee := .builtin .append, args := #[s, x], argTypes := #[27, 9] })
    {base n c : Nat} {A : Option Addr} {l : List UInt8} (hs : a.eval s = .slice A n c)
    (hown : w.ownsRow base 5 1 (.slice A n c) n (bcl l)) {t : ByteArray} (hx : a.eval x = .string t)
    (N : Nat) (hN : n + t.size = N) (hbd : N ≤ 140737488355328) (hbase : base ≤ w.heap.size)
    (h : ∀ A' c' w', w'.ownsRow base 5 1 (.slice A' N c') N (bcl (l ++ t.data.toList)) → w.grownBy w' (Value.slice A n c).ownBlock → wpList Tryd.prog ops Q rest (a.put o.dst (.slice A' N c')) w') :
    wpList Tryd.prog ops Q (o :: rest) a w := by
  subst hN
  obtain ⟨i0, hi, hz0, hz1, hz2⟩ := elemB.info
  have hm : n + t.size ≤ maxLen := by unfold maxLen; omega
  refine Go.Lib.wpList_append_own_string w hgd s x _ _ ho base 5 i0 elemB.ht hStr hi hz0 hz1 hz2 _ n _ hs hown t hx hm hbd hbase fun v' w' h1 h2 _ => ?_
  obtain ⟨A', c', rfl⟩ := own_form h1
  refine h A' c' w' ?_ h2
  rw [show bcl (l ++ t.data.toList) = bcl l ++ Go.Lib.strCells t by simp [bcl, Go.Lib.strCells]]
  exact h1
end
theorem wput_end {w w0 : World} {base N c : Nat} {A : Option Addr} {L L2 : List UInt8} (h : w.ownsRow base 5 1 (.slice A N c) N (bcl L)) (hL : L2 = L) (hN : N = L.length) (hB : Below base w0 w) :
    ∃ A' c', Ending.returned (.slice A N c) = .returned (.slice A' L2.length c') ∧ w.ownsRow base 5 1 (.slice A' L2.length c') L2.length (bcl L2) ∧ Below base w0 w := by
  subst hL hN
  exact ⟨A, c, rfl, h, hB⟩
set_option maxHeartbeats 1000000 in
theorem wput_any (num kind : Nat) (val : Nat) (text : ByteArray) (A : Option Addr) (c : Nat) (lo : List UInt8) (hnum : num < 536870912) (hkind : kind = 0 ∨ kind = 1 ∨ kind = 2 ∨ kind = 5) (hv : val < 18446744073709551616) (h5 : kind = 5 → val < 4294967296) (w0 w : World) (base : Nat) (hB0 : Below base w0 w) (hbw : base ≤ w0.heap.size) (hown : w.ownsRow base 5 1 (.slice A lo.length c) lo.length (bcl lo)) (hlen : lo.length + text.size ≤ 1048576) :
    Calls Tryd.prog 59 #[.slice A lo.length c, .agg #[.int .i64 num, .int .i64 kind, .int .u64 val, .string text]] w fun e w' => ∃ A' c', e = .returned (.slice A' (lo ++ wenc num kind val text.data.toList).length c') ∧
      w'.ownsRow base 5 1 (.slice A' (lo ++ wenc num kind val text.data.toList).length c') (lo ++ wenc num kind val text.data.toList).length (bcl (lo ++ wenc num kind val text.data.toList)) ∧ Below base w0 w' := by
  obtain ⟨T, hT, htag⟩ : ∃ T : Nat, 8 * num + kind = T ∧ bits BinOp.or IntKind.u64 ((num : Int) * 8) (kind : Int) = (T : Int) := ⟨_, rfl, tag_or hnum (by omega)⟩
  have HT := Lib.hid hT
  have hT64 : T < 18446744073709551616 := by omega
  clear hT
  have hB1 := hB0.alloc (by have := hB0.size; omega) (Obj.cells #[Value.int IntKind.i64 num, Value.int IntKind.i64 kind, Value.int IntKind.u64 val, Value.string text] 64)
  have hown1 := hown.alloc (Obj.cells #[Value.int IntKind.i64 num, Value.int IntKind.i64 kind, Value.int IntKind.u64 val, Value.string text] 64)
  have hbd := vsize_bd T
  go_enter Tryd.func59, Tryd.ntmps59
  go_wp2_with fail
  refine (put_any T hT64 _).mono ?_
  rintro e w1 ⟨A1, c1, rfl, ho1, hB2⟩
  have hF := (BoxF.new w (num : Int) (kind : Int) val text).below hB2 (by simp)
  have hbw2 : base ≤ w.heap.size := by have := hB0.size; omega
  have hown2 := own_kept hown1 hB2 (by simp)
  have hB3 := hB1.trans (hB2.mono (by simp; omega))
  have hr1 := Rd.of_own ho1
  have hbw3 := hB3.size
  clear hown1 hown ho1 hB1 hB2 hB0
  go_wp2_with (at_builtin; go_loud (refine wpList_appB rfl (.tmp 5) (.tmp 14) rfl rfl hown2 rfl hr1 rfl (lo.length + vsize T) rfl (by omega) (by omega) ?_); intro A3 c3 w3 ho3 hg3; have hF3 := hF.row hown2 hg3; have hB4 := own_grown hB3 hown2 (by omega) hg3; obtain ⟨d0, d1, d2, d3⟩ := hF3.cells; clear hg3 hown2 hr1 hB3 hF)
  all_goals have hvs := vsize_bd val
  · have hk0 : kind = 0 := by have := eq_of_beq (by assumption : ((kind : Int) == 0) = true); omega
    refine (put_any val hv _).mono ?_
    rintro e w4 ⟨A4, c4, rfl, ho4, hB5⟩
    have hbw4 := hB4.size
    have ho3' := own_kept ho3 hB5 (by omega)
    have hr4 := Rd.of_own ho4
    have hB6 := hB4.trans (hB5.mono (by omega))
    have hbw6 := hB6.size
    clear ho3 ho4 hB4 hB5
    go_wp2_with (at_builtin; refine wpList_appB rfl _ _ rfl rfl ho3' rfl hr4 rfl (lo.length + vsize T + vsize val) rfl (by omega) (by omega) ?_; intro A5 c5 w5 ho5 hg5)
    go_ret
    exact wput_end ho5 (by unfold wenc; rw [if_pos hk0, HT.out, List.append_assoc]) (by simp [vsize]; omega) (own_grown hB6 ho3' (by omega) hg5)
  · have hk1 : kind = 1 := by have := eq_of_beq (by assumption : ((kind : Int) == 1) = true); omega
    refine (put8_any val hv _).mono ?_
    rintro e w4 ⟨A4, c4, rfl, ho4, hB5⟩
    have hbw4 := hB4.size
    have ho3' := own_kept ho3 hB5 (by omega)
    have hr4 := Rd.of_own ho4
    have hB6 := hB4.trans (hB5.mono (by omega))
    have hbw6 := hB6.size
    clear ho3 ho4 hB4 hB5
    go_wp2_with (at_builtin; refine wpList_appB rfl _ _ rfl rfl ho3' rfl hr4 (le_length _ _) (lo.length + vsize T + 8) rfl (by omega) (by omega) ?_; intro A5 c5 w5 ho5 hg5)
    go_ret
    exact wput_end ho5 (by unfold wenc; rw [if_neg (by omega), if_pos hk1, HT.out, List.append_assoc]) (by simp [vsize, le_length]; omega) (own_grown hB6 ho3' (by omega) hg5)
  · have hk5 : kind = 5 := by have := eq_of_beq (by assumption : ((kind : Int) == 5) = true); omega
    have hv4 := h5 hk5
    clear h5
    have hv5 : ((val : Int) % 4294967296) = (val : Int) := Int.emod_eq_of_lt (by omega) (by omega)
    rw [hv5]
    refine (put4_any val hv4 _).mono ?_
    rintro e w4 ⟨A4, c4, rfl, ho4, hB5⟩
    have hbw4 := hB4.size
    have ho3' := own_kept ho3 hB5 (by omega)
    have hr4 := Rd.of_own ho4
    have hB6 := hB4.trans (hB5.mono (by omega))
    have hbw6 := hB6.size
    clear ho3 ho4 hB4 hB5 hv5 hv4
    go_wp2_with (at_builtin; refine wpList_appB rfl _ _ rfl rfl ho3' rfl hr4 (le_length _ _) (lo.length + vsize T + 4) rfl (by omega) (by omega) ?_; intro A5 c5 w5 ho5 hg5)
    go_ret
    exact wput_end ho5 (by unfold wenc; rw [if_neg (by omega), if_neg (by omega), if_pos hk5, HT.out, List.append_assoc]) (by simp [vsize, le_length]; omega) (own_grown hB6 ho3' (by omega) hg5)
  · have hk2 : kind = 2 := by
      have a0 : ¬ (kind : Int) = 0 := by simpa using (by assumption : ((kind : Int) == 0) = false)
      have a1 : ¬ (kind : Int) = 1 := by simpa using (by assumption : ((kind : Int) == 1) = false)
      have a5 : ¬ (kind : Int) = 5 := by simpa using (by assumption : ((kind : Int) == 5) = false)
      omega
    clear h5
    refine (put_any text.size (by omega) _).mono ?_
    rintro e w4 ⟨A4, c4, rfl, ho4, hB5⟩
    have hbw4 := hB4.size
    have ho3' := own_kept ho3 hB5 (by omega)
    have hr4 := Rd.of_own ho4
    have hB6 := hB4.trans (hB5.mono (by omega))
    have hbw6 := hB6.size
    have hF4 := hF3.below hB5 hF3.lt
    clear ho3 ho4 hB4 hB5
    have hts := vsize_bd text.size
    clear d0 d1 d2 d3 hF3
    go_wp2_with (at_builtin; first
      | (refine wpList_appB rfl _ _ rfl rfl ho3' rfl hr4 rfl (lo.length + vsize T + vsize text.size) rfl (by omega) (by omega) ?_; intro A5 c5 w5 ho5 hg5; have hF5 := hF4.row ho3' hg5; have hB7 := own_grown hB6 ho3' (by omega) hg5; have hbw7 := hB7.size; obtain ⟨_, _, _, e3⟩ := hF5.cells; clear hg5 hF5 hF4 ho3' hB6 hr4)
      | (refine wpList_appS rfl _ _ rfl rfl ho5 rfl (lo.length + vsize T + vsize text.size + text.size) rfl (by omega) (by omega) ?_; intro A6 c6 w6 ho6 hg6))
    go_ret
    exact wput_end ho6 (by unfold wenc; rw [if_neg (by omega), if_neg (by omega), if_neg (by omega), HT.out]; simp) (by simp [vsize]; omega) (own_grown hB7 ho5 (by omega) hg6)
end Go.Proofs.YtanfnjlndckhkaaDoor

/- PLAIN LAW: fields as bytes. -/
namespace Go.Proofs.YtanfnjlndckhkaaDoor
open Go.RowKit Plain

def werrF (f : Fld) : Int := wwrong f.num f.kind f.val f.text.toList.isEmpty
def wencF (f : Fld) : List UInt8 := wenc f.num.toNat f.kind.toNat f.val f.text.data.toList
def werrs : List Fld → Int
  | [] => 0
  | f :: l => if werrF f = 0 then werrs l else werrF f
def wencs (l : List Fld) : List UInt8 := l.flatMap wencF
/-- what wire.Put answers -/
def wput (l : List Fld) : List UInt8 × Int :=
  if werrs l = 0 then if 256 < l.length then ([], 6) else if 4096 < (wencs l).length then ([], 3) else (wencs l, 0) else ([], werrs l)

theorem werrs_mem {l : List Fld} (h : werrs l = 0) : ∀ f ∈ l, werrF f = 0 := by
  induction l with
  | nil => simp
  | cons f l ih =>
    rw [werrs] at h
    split at h
    · intro g hg
      rcases List.mem_cons.1 hg with rfl | hg
      · assumption
      · exact ih h g hg
    · omega
theorem werrF_ok {f : Fld} (h : werrF f = 0) : 1 ≤ f.num ∧ f.num < 536870912 ∧ (f.kind = 0 ∨ f.kind = 1 ∨ f.kind = 2 ∨ f.kind = 5) ∧ (f.kind = 5 → f.val < 4294967296) ∧ (f.kind = 2 → f.val = 0) ∧ (¬ f.kind = 2 → f.text.toList.isEmpty = true) := by
  unfold werrF wwrong at h
  split at h; · omega
  split at h; · omega
  split at h; · omega
  split at h; · omega
  rename_i h1 h2 h3 h4
  refine ⟨by omega, by omega, by omega, by omega, by omega, fun hk => ?_⟩
  cases he : f.text.toList.isEmpty
  · exact absurd (.inl ⟨hk, he⟩) h3
  · rfl
theorem wencs_take {l : List Fld} {j : Nat} {f : Fld} (h : l[j]? = some f) : wencs (l.take (j + 1)) = wencs (l.take j) ++ wencF f := by
  obtain ⟨h1, h2⟩ := List.getElem?_eq_some_iff.1 h
  rw [List.take_add_one, h]
  simp [wencs]
theorem wencs_len (l : List Fld) (j : Nat) : (wencs (l.take j)).length ≤ (wencs l).length := by
  have e : wencs l = wencs (l.take j) ++ wencs (l.drop j) := by unfold wencs; rw [← List.flatMap_append, List.take_append_drop]
  rw [e, List.length_append]
  omega
theorem wenc_text (num kind val : Nat) (text : List UInt8) (h : kind = 2) : text.length ≤ (wenc num kind val text).length := by
  unfold wenc; rw [if_neg (by omega), if_neg (by omega), if_neg (by omega)]; simp; omega
theorem wenc_len (num kind val : Nat) (text : List UInt8) (h : text.length ≤ 1048576) : (wenc num kind val text).length ≤ 1048600 := by
  have h1 := vsize_bd (8 * num + kind)
  have h2 := vsize_bd val
  have h3 := vsize_bd text.length
  simp only [vsize] at h1 h2 h3
  unfold wenc
  split
  · simp; omega
  split
  · simp [le_length]; omega
  split
  · simp [le_length]; omega
  · simp; omega
end Go.Proofs.YtanfnjlndckhkaaDoor

/- WALK: wire.Put -/
namespace Go.Proofs.YtanfnjlndckhkaaDoor
open Go.RowKit Plain

theorem size_empty {s : ByteArray} (h : s.toList.isEmpty = true) : s.size = 0 := by
  rw [ByteArray.toList_eq] at h
  have h2 : s.data = #[] := by simpa using h
  show s.data.size = 0
  rw [h2]
  rfl
def PutsPost (l : List Fld) (w : World) (e : Ending) (w' : World) : Prop :=
  ∃ A c, e = .returned (.tuple #[.slice A (wput l).1.length c, .int .i64 (wput l).2]) ∧ w'.ownsRow w.heap.size 5 1 (.slice A (wput l).1.length c) (wput l).1.length (bcl (wput l).1) ∧ Below w.heap.size w w'
theorem puts_err {l : List Fld} {w w' : World} {e : Int} (h : wput l = ([], e)) (hB : Below w.heap.size w w') : PutsPost l w (.returned (.tuple #[.slice none 0 0, .int .i64 e])) w' :=
  ⟨none, 0, by rw [h]; rfl, by rw [h]; exact World.ownsRow_nil w' _ _ _, hB⟩

set_option maxHeartbeats 1000000 in
theorem puts_any (l : List Fld) (A : Option Addr) (c : Nat) (hl : l.length ≤ 9223372036854775807) (hwf : ∀ f ∈ l, FldOk f) (w : World) (hr : Rd w w.heap.size A (flc l)) :
    Calls Tryd.prog 36 #[.slice A l.length c] w (PutsPost l w) := by
  have HR := Lib.hid hr
  have HWF := Lib.hid hwf
  clear hr hwf
  go_enter Tryd.func36, Tryd.ntmps36
  go_wp2_with fail
  go_loopw [12] (fun i wr => ∃ j : Nat, i = .int .i64 j ∧ j ≤ l.length ∧ werrs l = werrs (l.drop j) ∧ Below w.heap.size w wr) (fun i _ => l.length - (intOf i).toNat)
  case atStart => exact ⟨0, rfl, Nat.zero_le _, rfl, Below.refl _ _⟩
  case round =>
    obtain ⟨j, rfl, hj, he, hB⟩ := hrel
    have HE := Lib.hid he
    clear he
    by_cases hlt : j < l.length
    · obtain ⟨f, hf⟩ : ∃ f, l[j]? = some f := ⟨_, List.getElem?_eq_getElem hlt⟩
      obtain ⟨b1, o1, rfl, hb1, g0, g1, g2, g3⟩ := fld_at (HR.out.below hB (Nat.le_refl _)) hf
      have HD := Lib.hid (drop_cons hf)
      have hBA := hB.alloc hB.size (Obj.cells #[.int .i64 f.num, .int .i64 f.kind, .int .u64 f.val, .string f.text] 64)
      by_cases h0 : werrF f = 0
      · have H0 := Lib.hid h0
        clear h0 hf
        go_wp2_with (go_at_call 58; refine (wwrong_any _ _ _ _ _).mono ?_; rintro e w1 ⟨rfl, hB1⟩; rw [show wwrong f.num f.kind f.val f.text.toList.isEmpty = 0 from H0.out]; replace hBA := bel_step hBA hB1)
        go_roundw
        case rel => exact ⟨j + 1, by go_num, by omega, by rw [HE.out, HD.out, werrs, if_pos H0.out], hBA⟩
        case measure => simp [intOf]; omega
      · obtain ⟨E, hE⟩ : ∃ E, werrF f = E := ⟨_, rfl⟩
        have h0b : (E != 0) = true := by rw [← hE]; simpa using h0
        have H0 := Lib.hid hE
        have HW : Hid (werrs l = E) := Lib.hid (by rw [HE.out, HD.out, werrs, if_neg h0, hE])
        have HN := Lib.hid h0
        clear h0 hf hE
        go_wp2_with (go_at_call 58; refine (wwrong_any _ _ _ _ _).mono ?_; rintro e w1 ⟨rfl, hB1⟩; rw [show wwrong f.num f.kind f.val f.text.toList.isEmpty = E from H0.out]; replace hBA := bel_step hBA hB1)
        go_ret2
        exact puts_err (by unfold wput; rw [if_neg (by rw [HW.out, ← H0.out]; exact HN.out), HW.out]) hBA
    · have hz : werrs l = 0 := by rw [HE.out, List.drop_eq_nil_of_le (by omega)]; rfl
      have HZ := Lib.hid hz
      clear hz HE
      have HB := Lib.hid hB
      by_cases hfull : 256 < l.length
      · have hb : decide ((256 : Int) < (l.length : Int)) = true := by simp; omega
        go_wp2_with fail
        go_ret2
        exact puts_err (by unfold wput; rw [if_pos HZ.out, if_pos hfull]) hB
      · go_wp2_with fail
        clear hB hlt hj
        have hB := HB.out
        go_loopw [7, 27] (fun o i wr => ∃ (j : Nat) (A2 : Option Addr) (c2 N : Nat), i = .int .i64 j ∧ o = .slice A2 N c2 ∧ j ≤ l.length ∧ N = (wencs (l.take j)).length ∧ N ≤ 4096 ∧ wr.ownsRow w.heap.size 5 1 (.slice A2 N c2) N (bcl (wencs (l.take j))) ∧ Below w.heap.size w wr) (fun _ i _ => l.length - (intOf i).toNat)
        case atStart => exact ⟨0, none, 0, 0, rfl, rfl, Nat.zero_le _, rfl, by omega, World.ownsRow_nil _ _ _ _, hB⟩
        case round =>
          clear hB HB
          obtain ⟨j, A2, c2, N, rfl, rfl, hj, hN, hN4, hown, hB⟩ := hrel
          have HNN := Lib.hid hN
          by_cases hlt : j < l.length
          · obtain ⟨f, hf⟩ : ∃ f, l[j]? = some f := ⟨_, List.getElem?_eq_getElem hlt⟩
            obtain ⟨b1, o1, rfl, hb1, g0, g1, g2, g3⟩ := fld_at (HR.out.below hB (Nat.le_refl _)) hf
            have HT := Lib.hid (wencs_take hf)
            obtain ⟨k0, k1, k2, k3, k4, k5⟩ := werrF_ok (werrs_mem HZ.out f (List.mem_of_getElem? hf))
            have hval := (HWF.out f (List.mem_of_getElem? hf)).2.2
            have hle := wencs_len l (j + 1)
            rw [wencs_take hf, List.length_append, ← hN] at hle
            clear hN hf
            obtain ⟨fnum, fkind, fval, ftext⟩ := f
            obtain ⟨num, rfl⟩ := Int.eq_ofNat_of_zero_le (show 0 ≤ fnum by simp at k0; omega)
            obtain ⟨kind, rfl⟩ := Int.eq_ofNat_of_zero_le (show 0 ≤ fkind by simp at k2; omega)
            have k1' : (num : Int) < 536870912 := k1
            have k2' : (kind : Int) = 0 ∨ (kind : Int) = 1 ∨ (kind : Int) = 2 ∨ (kind : Int) = 5 := k2
            have k3' : (kind : Int) = 5 → fval < 4294967296 := k3
            clear k1 k2 k3
            have HTW : Hid (wencF ⟨num, kind, fval, ftext⟩ = wenc num kind fval ftext.data.toList) := Lib.hid rfl
            have htx : ftext.size ≤ (wenc num kind fval ftext.data.toList).length := by
              by_cases hk2 : kind = 2
              · exact wenc_text _ _ _ _ hk2
              · have := k5 (by simp; omega)
                have e0 : ftext.size = 0 := size_empty this
                omega
            simp only [HTW.out] at hle
            clear k4 k5
            by_cases hlong : 4096 - (N : Int) < ftext.size
            · go_wp2_with fail
              go_ret2
              exact puts_err (by unfold wput; rw [if_pos HZ.out, if_neg hfull, if_pos (by omega)]) (hB.alloc hB.size _)
            · have HTX := Lib.hid htx
              clear htx
              have hBA := hB.alloc hB.size (Obj.cells #[.int .i64 num, .int .i64 kind, .int .u64 fval, .string ftext] 64)
              have hrun := hown.alloc (Obj.cells #[.int .i64 num, .int .i64 kind, .int .u64 fval, .string ftext] 64)
              go_wp2_with fail
              have e := HNN.out
              subst e
              refine (wput_any num kind fval ftext A2 c2 _ (by omega) (by omega) hval (fun h => k3' (by omega)) w _ w.heap.size hBA (Nat.le_refl _) hrun (by omega)).mono ?_
              rintro e w1 ⟨A3, c3, rfl, hown3, hB3⟩
              rw [← HTW.out, ← HT.out] at hown3 ⊢
              have hle2 := wencs_len l (j + 1)
              by_cases hfin : 4096 < (wencs (l.take (j + 1))).length
              · have hb : decide ((4096 : Int) < ((wencs (l.take (j + 1))).length : Int)) = true := by simp; omega
                go_wp2_with fail
                go_ret2
                exact puts_err (by unfold wput; rw [if_pos HZ.out, if_neg hfull, if_pos (by omega)]) hB3
              · have hb : decide ((4096 : Int) < ((wencs (l.take (j + 1))).length : Int)) = false := by simp; omega
                go_wp2_with fail
                go_roundw
                case rel => exact ⟨j + 1, A3, c3, _, by go_num, rfl, by omega, rfl, by omega, hown3, hB3⟩
                case measure => simp [intOf]; omega
          · have e : l.take j = l := List.take_of_length_le (by omega)
            rw [e] at hown hN HNN
            subst hN
            go_wp2_with fail
            go_ret2
            have hw : wput l = (wencs l, 0) := by unfold wput; rw [if_pos HZ.out, if_neg hfull, if_neg (by omega)]
            exact ⟨A2, c2, by rw [hw]; rfl, by rw [hw]; exact hown, hB⟩
end Go.Proofs.YtanfnjlndckhkaaDoor

/- PLAIN LAW: tables as bytes; how a table lies in memory. -/
namespace Go.Proofs.YtanfnjlndckhkaaDoor
open Go.RowKit Plain

/-- a row: where it lies, and its values -/
structure RowH where
  adr : Option Addr
  cap : Nat
  vals : List VV
/-- the bytes of a value -/
def dcell (v : VV) : List UInt8 × Int := if verr v.k v.n v.s.toList.isEmpty 1 false = 0 then wput (vfls v.k v.n v.s 1 false) else ([], verr v.k v.n v.s.toList.isEmpty 1 false)
def drerr : List VV → Int
  | [] => 0
  | v :: l => if (dcell v).2 = 0 then drerr l else (dcell v).2
def drfld (v : VV) : Fld := ⟨1, 2, 0, ⟨(dcell v).1.toArray⟩⟩
/-- the bytes of a row -/
def drow (r : List VV) : List UInt8 × Int := if drerr r = 0 then wput (r.map drfld) else ([], drerr r)
def dhead (cols : List ByteArray) (types : List Nat) : List Fld := (if cols.length = 0 then [] else [⟨1, 0, cols.length, ⟨#[]⟩⟩]) ++ cols.map (fun s => ⟨2, 2, 0, s⟩) ++ types.map (fun n => ⟨3, 0, n, ⟨#[]⟩⟩)
def derrs (n : Nat) : List (List VV) → Int
  | [] => 0
  | r :: l => if r.length = n then (if (drow r).2 = 0 then derrs n l else (drow r).2) else 4
def drfl (r : List VV) : Fld := ⟨4, 2, 0, ⟨(drow r).1.toArray⟩⟩
/-- what dataset.Put answers -/
def dput (cols : List ByteArray) (types : List Nat) (rows : List (List VV)) : List UInt8 × Int :=
  if 16 < cols.length ∨ 32 < rows.length then ([], 6) else if types.length = cols.length then (if derrs cols.length rows = 0 then wput (dhead cols types ++ rows.map drfl) else ([], derrs cols.length rows)) else ([], 4)

def scl (l : List ByteArray) : List Value := l.map .string
def ucl (l : List Nat) : List Value := l.map fun (n : Nat) => .int .u32 n
def vvl (l : List VV) : List Value := l.flatMap fun v => v.cells.toList
def rcl (l : List RowH) : List Value := l.map fun r => .slice r.adr r.vals.length r.cap
structure DS where
  A1 : Option Addr
  c1 : Nat
  cols : List ByteArray
  A2 : Option Addr
  c2 : Nat
  types : List Nat
  A3 : Option Addr
  c3 : Nat
  rows : List RowH
def DS.agg (d : DS) : Value := .agg #[.slice d.A1 d.cols.length d.c1, .slice d.A2 d.types.length d.c2, .slice d.A3 d.rows.length d.c3]
def DS.plain (d : DS) : List (List VV) := d.rows.map RowH.vals
structure DS.At (d : DS) (W : World) (B : Nat) : Prop where
  r1 : Rd W B d.A1 (scl d.cols)
  r2 : Rd W B d.A2 (ucl d.types)
  r3 : Rd W B d.A3 (rcl d.rows)
  rs : ∀ r ∈ d.rows, Rd W B r.adr (vvl r.vals)
theorem DS.At.below {d : DS} {W W' : World} {B C : Nat} (h : d.At W B) (hb : Below C W W') (hC : B ≤ C) : d.At W' B := ⟨h.r1.below hb hC, h.r2.below hb hC, h.r3.below hb hC, fun r hr => (h.rs r hr).below hb hC⟩
theorem DS.At.more {d : DS} {W : World} {B C : Nat} (h : d.At W B) (hC : B ≤ C) : d.At W C := ⟨h.r1.more hC, h.r2.more hC, h.r3.more hC, fun r hr => (h.rs r hr).more hC⟩
def VVOk (v : VV) : Prop := -9223372036854775808 ≤ v.k ∧ v.k ≤ 9223372036854775807 ∧ v.n < 18446744073709551616
structure DSOk (d : DS) : Prop where
  l1 : d.cols.length ≤ 9223372036854775807
  l2 : d.types.length ≤ 9223372036854775807
  l3 : d.rows.length ≤ 9223372036854775807
  ls : ∀ r ∈ d.rows, r.vals.length ≤ 9223372036854775807
  ty : ∀ n ∈ d.types, n < 4294967296
  vs : ∀ r ∈ d.rows, ∀ v ∈ r.vals, VVOk v
/-- bytes and an error, the bytes in a row of the call's own -/
def BPost (q : List UInt8 × Int) (w : World) (e : Ending) (w' : World) : Prop :=
  ∃ A c, e = .returned (.tuple #[.slice A q.1.length c, .int .i64 q.2]) ∧ w'.ownsRow w.heap.size 5 1 (.slice A q.1.length c) q.1.length (bcl q.1) ∧ Below w.heap.size w w'
theorem bpost_err {q : List UInt8 × Int} {w w' : World} {e : Int} (h : q = ([], e)) (hB : Below w.heap.size w w') : BPost q w (.returned (.tuple #[.slice none 0 0, .int .i64 e])) w' :=
  ⟨none, 0, by rw [h]; rfl, by rw [h]; exact World.ownsRow_nil w' _ _ _, hB⟩
theorem strB {w : World} {B : Nat} {A : Option Addr} {l : List UInt8} (hr : Rd w B A (bcl l)) {n : Nat} (hn : l.length = n) (c : Nat) :
    (convert 27 9 (.slice A n c)).run Tryd.prog w = .ok (.string ⟨l.toArray⟩) w :=
  hn ▸ run_str _ _ _ Tryd.underlying27 Tryd.underlying5 Tryd.underlying9 hr c

theorem vvl_len (l : List VV) : (vvl l).length = 3 * l.length := by
  induction l with
  | nil => rfl
  | cons f l ih => simp only [vvl, List.flatMap_cons, List.length_append, List.length_cons] at *; rw [ih]; simp [VV.cells]; omega
theorem vvl_at : ∀ {l : List VV} {i : Nat} {f : VV}, l[i]? = some f → ∀ j, j < 3 → (vvl l)[3 * i + j]? = f.cells[j]? := by
  intro l
  induction l with
  | nil => intro i f h; simp at h
  | cons g l ih =>
    intro i f h j hj
    simp only [vvl, List.flatMap_cons]
    cases i with
    | zero =>
      obtain rfl : g = f := by simpa using h
      rw [List.getElem?_append_left (by simp [VV.cells]; omega)]
      simp
    | succ i =>
      rw [List.getElem?_append_right (by simp [VV.cells]; omega)]
      have := ih (by simpa using h) j hj
      rw [← this]
      congr 1
      simp [VV.cells]; omega
theorem val_at {w : World} {B : Nat} {A : Option Addr} {l : List VV} {j : Nat} {f : VV} (hr : Rd w B A (vvl l)) (hf : l[j]? = some f) :
    ∃ b o, A = some ⟨b, o, none⟩ ∧ b < B ∧ w.cell? ⟨b, o + j * 3, none⟩ = some (.int .i64 f.k) ∧ w.cell? ⟨b, o + j * 3 + 1, none⟩ = some (.int .u64 f.n) ∧ w.cell? ⟨b, o + j * 3 + 2, none⟩ = some (.string f.s) := by
  have hlen := vvl_len l
  have hlt := (List.getElem?_eq_some_iff.1 hf).1
  obtain ⟨b, o, rfl, hb, hc⟩ := hr.some_ (by omega)
  have g : ∀ i, i < 3 → w.cell? ⟨b, o + j * 3 + i, none⟩ = f.cells[i]? := fun i hi => by
    rw [show o + j * 3 + i = o + (3 * j + i) by omega]; exact (hc _ (by omega)).trans (vvl_at hf i hi)
  exact ⟨b, o, rfl, hb, g 0 (by omega), g 1 (by omega), g 2 (by omega)⟩
/-- an element of a slice whose elements are one cell wide -/
theorem one_at {α : Type} {w : World} {B : Nat} {A : Option Addr} {l : List α} {f : α → Value} {j : Nat} {a : α} (hr : Rd w B A (l.map f)) (hf : l[j]? = some a) :
    ∃ b o, A = some ⟨b, o, none⟩ ∧ b < B ∧ w.cell? ⟨b, o + j, none⟩ = some (f a) := by
  have hlt := (List.getElem?_eq_some_iff.1 hf).1
  obtain ⟨b, o, rfl, hb, hc⟩ := hr.some_ (by simp; omega)
  exact ⟨b, o, rfl, hb, by rw [hc j (by simp; omega), List.getElem?_map, hf]; rfl⟩
theorem dput_flds {cols : List ByteArray} {types : List Nat} (h16 : cols.length ≤ 16) (hty : ∀ n ∈ types, n < 4294967296) (rows : List (List VV)) : ∀ f ∈ dhead cols types ++ rows.map drfl, FldOk f := by
  intro f hf
  unfold dhead at hf
  simp only [List.mem_append, List.mem_map] at hf
  rcases hf with ((hf | ⟨s, _, rfl⟩) | ⟨x, hx, rfl⟩) | ⟨x, _, rfl⟩
  · split at hf
    · cases hf
    · obtain rfl : f = _ := by simpa using hf
      refine ⟨by simp, by simp, ?_⟩
      simp only
      omega
  · exact ⟨by simp, by simp, by simp⟩
  · have := hty x hx
    refine ⟨by simp, by simp, ?_⟩
    simp only
    omega
  · exact ⟨by simp [drfl], by simp [drfl], by simp [drfl]⟩
theorem results_cell1 {fn : Func} {p : Tmp} {ty : TypeId} (h : fn.results = #[.cell p ty]) (tmps : Array Value) (P : Program) (w : World) :
    (results fn tmps).run P w = ((asAddr (tmps.getD p undef)).run P w).andThen fun a w₁ => (loadVar ty a).run P w₁ := by
  simp only [results, h]
  simp [Sem.run_bind]
end Go.Proofs.YtanfnjlndckhkaaDoor

/- api.DataSet opened. -/
namespace Go.Proofs.YtanfnjlndckhkaaDoor
open Go.ChangeShapes Go.WideShapes Go.ChangeAt Go.RowKit

theorem flat_at {α : Type} {cells : α → List Value} {size : Nat} (hcl : ∀ a, (cells a).length = size) : ∀ {l : List α} {i : Nat} {a : α}, l[i]? = some a → ∀ j, j < size → (l.flatMap cells)[size * i + j]? = (cells a)[j]? := by
  intro l
  induction l with
  | nil => intro i a h; simp at h
  | cons g l ih =>
    intro i a h j hj
    simp only [List.flatMap_cons]
    have hg := hcl g
    cases i with
    | zero =>
      obtain rfl : g = a := by simpa using h
      rw [Nat.mul_zero, Nat.zero_add, List.getElem?_append_left (by omega)]
    | succ i =>
      have e : size * (i + 1) = size * i + size := Nat.mul_succ _ _
      rw [List.getElem?_append_right (by omega), ← ih (by simpa using h) j hj]
      congr 1
      omega
theorem flat_len {α : Type} {cells : α → List Value} {size : Nat} (hcl : ∀ a, (cells a).length = size) (l : List α) : (l.flatMap cells).length = size * l.length := by
  induction l with
  | nil => simp
  | cons g l ih => rw [List.flatMap_cons, List.length_append, ih, hcl, List.length_cons, Nat.mul_succ]; omega
theorem map_flat {α : Type} (f : α → Value) (l : List α) : l.map f = l.flatMap fun a => [f a] := by
  induction l with
  | nil => rfl
  | cons a l ih => rw [List.map_cons, List.flatMap_cons, ih]; rfl
/-- a slice opened, its elements by a law of their own -/
theorem open_list {H : Type} {enc : TypeId × Value → H} {W : World} {α : Type} (a0 : α) {t e : TypeId} (hu : Tryd.prog.underlying t = some (.slice e)) (size : Nat) (hs : Tryd.prog.cellsOf e = size) (hpos : 0 < size) (cells : α → List Value) (hcl : ∀ a, (cells a).length = size) (P : α → Prop)
    (ho : ∀ n cs y, DataW.trod enc Tryd.prog W 0 (fun _ => true) true n e cs = some y → ∃ a, cs = cells a ∧ P a)
    {fuel : Nat} {v : Value} {x : DataW H × List MemPlace} (h : DataW.trod enc Tryd.prog W 0 (fun _ => true) true fuel t [v] = some x) :
    ∃ A c, ∃ l : List α, v = .slice A l.length c ∧ l.length ≤ c ∧ c ≤ maxLen ∧ Rd W W.heap.size A (l.flatMap cells) ∧ (∀ a ∈ l, P a) ∧ (l = [] ∨ ∃ es sp, x.1 = .slice es sp ∧ es.length = l.length) := by
  rcases Go.Deep.open_slice hu h with ⟨hcs, _⟩ | ⟨y, len, cap, m, n', D, Pl, hcs, _, hl, hm, hmm, hx, hel⟩
  · obtain rfl : v = _ := by simpa using hcs
    exact ⟨none, 0, [], rfl, Nat.le_refl _, by simp [maxLen], Rd.nil, by simp, .inl rfl⟩
  · obtain rfl : v = _ := by simpa using hcs
    simp only [if_true] at hmm
    subst hmm
    have hF0 : ∀ i, ∃ f : α, i < m → W.cells? 0 (y.add (i * size)) size = some (cells f) ∧ P f := fun i => by
      by_cases hi : i < m
      · obtain ⟨cs', h1, h2⟩ := hel i hi
        rw [hs] at h1
        obtain ⟨f, rfl, hf⟩ := ho _ _ _ h2
        exact ⟨f, fun _ => ⟨h1, hf⟩⟩
      · exact ⟨a0, fun h => absurd h hi⟩
    obtain ⟨F, hF⟩ := Classical.axiomOfChoice hF0
    refine ⟨some y, m, (List.range len).map F, by simp, by simpa using hl, hm, ?_, ?_, .inr ⟨_, _, by rw [hx], by simp⟩⟩
    · rcases Nat.eq_zero_or_pos len with rfl | hn
      · exact .inl rfl
      · have hc : ∀ i, i < m → ∀ r, r < size → W.cell? (y.add (i * size + r)) = (cells (F i))[r]? := fun i hi r hr => by
          have h := World.cells?_some (hF i hi).1
          have e : (y.add (i * size)).add r = y.add (i * size + r) := Addr.add_add _ _ _
          rw [← e]
          exact h.2.2 r hr
        obtain ⟨b, off, spot⟩ := y
        have h0 := hc 0 (by omega) 0 hpos
        have hlt0 : (cells (F 0))[0]? = some ((cells (F 0))[0]'(by rw [hcl]; exact hpos)) := List.getElem?_eq_getElem _
        rw [hlt0] at h0
        have hspot : spot = none := by simpa [Addr.add] using World.cell?_spot h0
        subst hspot
        rw [Addr.add_lit] at h0
        refine .inr ⟨b, off, rfl, World.block_lt_of_cell? W _ h0, fun i hi => ?_⟩
        rw [flat_len hcl] at hi
        simp only [List.length_map, List.length_range] at hi
        have hq : i / size < len := Nat.div_lt_of_lt_mul hi
        have hr : i % size < size := Nat.mod_lt _ hpos
        have h := hc (i / size) (by omega) (i % size) hr
        have hdm : i / size * size + i % size = i := by rw [Nat.mul_comm]; exact Nat.div_add_mod i size
        rw [Addr.add_lit, hdm] at h
        rw [h, ← flat_at hcl (l := (List.range len).map F) (i := i / size) (a := F (i / size)) (by simp [hq]) (i % size) hr, Nat.div_add_mod]
    · intro f hf
      obtain ⟨i, hi, rfl⟩ := List.mem_map.1 hf
      exact (hF i (by have := List.mem_range.1 hi; omega)).2
set_option maxRecDepth 100000 in
theorem str_C : Tryd.prog.cellsOf 9 = 1 := by kernel_rfl
set_option maxRecDepth 100000 in
theorem u32_C : Tryd.prog.cellsOf 60 = 1 := by kernel_rfl
set_option maxRecDepth 100000 in
theorem vals_C : Tryd.prog.cellsOf 45 = 1 := by kernel_rfl
theorem maxLen_eq : maxLen = 9223372036854775807 := rfl
set_option maxRecDepth 100000 in
theorem open_strings {H : Type} {enc : TypeId × Value → H} {W : World} {fuel : Nat} {v : Value} {x : DataW H × List MemPlace} (h : DataW.trod enc Tryd.prog W 0 (fun _ => true) true fuel 22 [v] = some x) :
    ∃ A c, ∃ l : List ByteArray, v = .slice A l.length c ∧ l.length ≤ c ∧ c ≤ maxLen ∧ Rd W W.heap.size A (scl l) := by
  obtain ⟨A, c, l, h1, h2, h3, h4, _, _⟩ := open_list ByteArray.empty Tryd.underlying22 1 str_C (by omega) (fun s => [.string s]) (fun _ => rfl) (fun _ => True)
    (fun n cs y h => by obtain ⟨s, e, _, _⟩ := DataW.trod_string Tryd.underlying9 h; exact ⟨s, e, trivial⟩) h
  exact ⟨A, c, l, h1, h2, h3, by rw [show scl l = l.flatMap fun s => [.string s] from map_flat _ _]; exact h4⟩
set_option maxRecDepth 100000 in
theorem open_u32s {H : Type} {enc : TypeId × Value → H} {W : World} {fuel : Nat} {v : Value} {x : DataW H × List MemPlace} (h : DataW.trod enc Tryd.prog W 0 (fun _ => true) true fuel 23 [v] = some x) :
    ∃ A c, ∃ l : List Nat, v = .slice A l.length c ∧ l.length ≤ c ∧ c ≤ maxLen ∧ Rd W W.heap.size A (ucl l) ∧ ∀ n ∈ l, n < 4294967296 := by
  obtain ⟨A, c, l, h1, h2, h3, h4, h5, _⟩ := open_list 0 Tryd.underlying23 1 u32_C (by omega) (fun (n : Nat) => [.int .u32 n]) (fun _ => rfl) (fun n => n < 4294967296)
    (fun n cs y h => by
      obtain ⟨a, e, _, w⟩ := DataW.trod_int Tryd.underlying60 h
      obtain ⟨m, rfl, b⟩ := nat_of_u32 w
      exact ⟨m, e, b⟩) h
  exact ⟨A, c, l, h1, h2, h3, by rw [show ucl l = l.flatMap fun (n : Nat) => [.int .u32 n] from map_flat _ _]; exact h4, h5⟩
set_option maxRecDepth 100000 in
theorem trod_value {H : Type} {enc : TypeId × Value → H} {W : World} {n : Nat} {cs : List Value} {x : DataW H × List MemPlace} (h : DataW.trod enc Tryd.prog W 0 (fun _ => true) true n 42 cs = some x) : ∃ v : VV, cs = v.cells.toList ∧ VVOk v := by
  obtain ⟨f0, f1, f2, hu, h1, t0, t1, t2⟩ := val_U
  obtain ⟨y0, y1, y2, n', rfl, hl, r0, r1, r2⟩ := Go.Deep.trod_struct3 hu h
  rw [val_C] at hl
  obtain ⟨o0, k0⟩ := Go.Deep.hone_of h1 0 f0 rfl
  obtain ⟨o1, k1⟩ := Go.Deep.hone_of h1 1 f1 rfl
  obtain ⟨o2, k2⟩ := Go.Deep.hone_of h1 2 f2 rfl
  match cs, hl with
  | [v0, v1, v2], _ =>
    have r0 : DataW.trod enc Tryd.prog W 0 (fun _ => true) true n' f0.type [v0] = some y0 := by simpa [o0, k0] using r0
    have r1 : DataW.trod enc Tryd.prog W 0 (fun _ => true) true n' f1.type [v1] = some y1 := by simpa [o1, k1] using r1
    have r2 : DataW.trod enc Tryd.prog W 0 (fun _ => true) true n' f2.type [v2] = some y2 := by simpa [o2, k2] using r2
    rw [t0] at r0
    rw [t1] at r1
    rw [t2] at r2
    obtain ⟨a, e0, _, w0⟩ := DataW.trod_int Tryd.underlying3 r0
    obtain ⟨m, e1, _, w1⟩ := DataW.trod_int Tryd.underlying40 r1
    obtain ⟨s, e2, _, _⟩ := DataW.trod_string Tryd.underlying9 r2
    obtain rfl : v0 = _ := by simpa using e0
    obtain rfl : v1 = _ := by simpa using e1
    obtain rfl : v2 = _ := by simpa using e2
    obtain ⟨m', rfl, bm⟩ := nat_of_u64 w1
    have ba := bd_of_i64 w0
    exact ⟨⟨a, m', s⟩, rfl, ba.1, ba.2, bm⟩
set_option maxRecDepth 100000 in
theorem open_vals {H : Type} {enc : TypeId × Value → H} {W : World} {fuel : Nat} {v : Value} {x : DataW H × List MemPlace} (h : DataW.trod enc Tryd.prog W 0 (fun _ => true) true fuel 45 [v] = some x) :
    ∃ A c, ∃ l : List VV, v = .slice A l.length c ∧ l.length ≤ c ∧ c ≤ maxLen ∧ Rd W W.heap.size A (vvl l) ∧ ∀ u ∈ l, VVOk u := by
  obtain ⟨A, c, l, h1, h2, h3, h4, h5, _⟩ := open_list VV.zero Tryd.underlying45 3 val_C (by omega) (fun v : VV => v.cells.toList) (fun _ => rfl) VVOk (fun n cs y h => trod_value h) h
  exact ⟨A, c, l, h1, h2, h3, h4, h5⟩
set_option maxRecDepth 100000 in
theorem one_of {H : Type} {enc : TypeId × Value → H} {W : World} {n : Nat} {cs : List Value} {x : DataW H × List MemPlace} (h : DataW.trod enc Tryd.prog W 0 (fun _ => true) true n 45 cs = some x) : ∃ v, cs = [v] := by
  rcases Go.Deep.open_slice Tryd.underlying45 h with ⟨hcs, _⟩ | ⟨y, len, cap, m, n', D, Pl, hcs, _⟩
  · exact ⟨_, hcs⟩
  · exact ⟨_, hcs⟩
set_option maxRecDepth 100000 in
theorem open_rows {H : Type} {enc : TypeId × Value → H} {W : World} {fuel : Nat} {v : Value} {x : DataW H × List MemPlace} (h : DataW.trod enc Tryd.prog W 0 (fun _ => true) true fuel 24 [v] = some x) :
    ∃ A c, ∃ l : List RowH, v = .slice A l.length c ∧ l.length ≤ c ∧ c ≤ maxLen ∧ Rd W W.heap.size A (rcl l) ∧ ∀ r ∈ l, Rd W W.heap.size r.adr (vvl r.vals) ∧ r.vals.length ≤ r.cap ∧ r.cap ≤ maxLen ∧ ∀ u ∈ r.vals, VVOk u := by
  obtain ⟨A, c, l, h1, h2, h3, h4, h5, _⟩ := open_list (⟨none, 0, []⟩ : RowH) Tryd.underlying24 1 vals_C (by omega) (fun r : RowH => [.slice r.adr r.vals.length r.cap]) (fun _ => rfl)
    (fun r => Rd W W.heap.size r.adr (vvl r.vals) ∧ r.vals.length ≤ r.cap ∧ r.cap ≤ maxLen ∧ ∀ u ∈ r.vals, VVOk u)
    (fun n cs y h => by
      obtain ⟨u, rfl⟩ := one_of h
      obtain ⟨A, c, l, rfl, h2, h3, h4, h5⟩ := open_vals h
      exact ⟨⟨A, c, l⟩, rfl, h4, h2, h3, h5⟩) h
  exact ⟨A, c, l, h1, h2, h3, by rw [show rcl l = l.flatMap fun r : RowH => [.slice r.adr r.vals.length r.cap] from map_flat _ _]; exact h4, h5⟩
set_option maxRecDepth 100000 in
theorem ds_U : ∃ f0 f1 f2, Tryd.prog.underlying 26 = some (.struct #[f0, f1, f2]) ∧ Go.Deep.oneCellFields Tryd.prog #[f0, f1, f2] = true ∧ f0.type = 22 ∧ f1.type = 23 ∧ f2.type = 24 :=
  ⟨_, _, _, Tryd.underlying26, by kernel_rfl, rfl, rfl, rfl⟩
set_option maxRecDepth 100000 in
theorem ds_C : Tryd.prog.cellsOf 26 = 3 := by kernel_rfl
set_option maxRecDepth 100000 in
theorem open_dataset {H : Type} {enc : TypeId × Value → H} {r : Reach} {b0 : Nat} {W : World} {v : Value} {d : DataW H} {p : List MemPlace} (hv : Value.okWide Tryd.prog W r b0 26 v) (h : DataW.Trod enc Tryd.prog W 0 (fun _ => true) true 26 v d p) :
    ∃ D : DS, v = D.agg ∧ D.At W W.heap.size ∧ DSOk D ∧ (D.cols.length ≤ D.c1 ∧ D.types.length ≤ D.c2 ∧ D.rows.length ≤ D.c3 ∧ ∀ r ∈ D.rows, r.vals.length ≤ r.cap) := by
  obtain ⟨f0, f1, f2, hu, h1, t0, t1, t2⟩ := ds_U
  obtain ⟨v0, v1, v2, y0, y1, y2, n, rfl, rfl, rfl, r0, r1, r2⟩ := Go.Joins.open_agg3 hu h1 ds_C hv h
  rw [t0] at r0
  rw [t1] at r1
  rw [t2] at r2
  obtain ⟨A1, c1, cols, rfl, a1, m1, q1⟩ := open_strings r0
  obtain ⟨A2, c2, types, rfl, a2, m2, q2, k2⟩ := open_u32s r1
  obtain ⟨A3, c3, rows, rfl, a3, m3, q3, k3⟩ := open_rows r2
  rw [maxLen_eq] at m1 m2 m3
  refine ⟨⟨A1, c1, cols, A2, c2, types, A3, c3, rows⟩, rfl, ⟨q1, q2, q3, fun r hr => (k3 r hr).1⟩, ⟨Nat.le_trans a1 m1, Nat.le_trans a2 m2, Nat.le_trans a3 m3, fun r hr => ?_, k2, fun r hr => (k3 r hr).2.2.2⟩, a1, a2, a3, fun r hr => (k3 r hr).2.1⟩
  have h1 := (k3 r hr).2.1
  have h2 := (k3 r hr).2.2.1
  rw [maxLen_eq] at h2
  omega
end Go.Proofs.YtanfnjlndckhkaaDoor

/- WALKS: the reference of layer 1: Put; what Get needs. -/
namespace Go.Proofs.YtanfnjlndckhkaaDoor
open Go.RowKit Plain

set_option maxHeartbeats 400000 in
theorem rvput_any (n : Nat) (hn : n < 18446744073709551616) (w : World) :
    Calls Tryd.prog 78 #[.int .u64 n] w fun e w' => ∃ A c, e = .returned (.slice A (vsize n) c) ∧
      w'.ownsRow w.heap.size 5 1 (.slice A (vsize n) c) (vsize n) (bcl (vput n)) ∧ Below w.heap.size w w' := by
  go_enter Tryd.func78, Tryd.ntmps78
  go_wp2
  go_loopw [3, 4] (fun v a wr => ∃ (m : Nat) (acc : List UInt8) (A : Option Addr) (c : Nat), m < 18446744073709551616 ∧ a = .int .u64 m ∧ v = .slice A acc.length c ∧
      wr.ownsRow w.heap.size 5 1 (.slice A acc.length c) acc.length (bcl acc) ∧ vput n = acc ++ vput m ∧ Below w.heap.size w wr) (fun _ a _ => (intOf a).toNat)
  case atStart => exact ⟨n, [], _, _, hn, rfl, rfl, World.ownsRow_nil _ _ _ _, rfl, Below.refl _ _⟩
  case round =>
    obtain ⟨m, acc, A, c, hm, rfl, rfl, hown, hv, hB⟩ := hrel
    have hlen : acc.length + (vput m).length ≤ 10 := by have e := congrArg List.length hv; rw [List.length_append] at e; have h2 := vsize_bd n; unfold vsize at h2; omega
    have hl1 : 1 ≤ (vput m).length := (vsize_bd m).1
    have HV := Lib.hid hv
    clear hv
    have hb0 := hB.size
    by_cases h0 : m < 128
    · have hd : decide ((128 : Int) ≤ (m : Int)) = false := by simp; omega
      have H0 := Lib.hid h0
      clear h0
      go_wp2_with (at_builtin; refine wpList_app1 rfl _ _ _ rfl elemB rfl hown rfl rfl (by intro u hu; simp at hu; subst hu; rfl) (by unfold maxLen; omega) (by omega) hb0 ?_; intro A1 c1 w2 hown2 hg2 _)
      go_ret
      obtain ⟨e1, e2⟩ := put_last HV.out H0.out
      rw [show (m : Int) % 256 = (m : Int) by have := H0.out; omega] at hown2
      exact ⟨A1, c1, by rw [e1]; rfl, by rw [e1, e2]; exact hown2, own_grown hB hown hb0 hg2⟩
    · have hd : decide ((128 : Int) ≤ (m : Int)) = true := by simp; omega
      have H0 := Lib.hid h0
      clear h0
      go_wp2_with (at_builtin; refine wpList_app1 rfl _ _ _ rfl elemB rfl hown rfl rfl (by intro u hu; simp at hu; subst hu; rfl) (by unfold maxLen; omega) (by omega) hb0 ?_; intro A1 c1 w2 hown2 hg2 _)
      go_roundw
      case rel =>
        refine ⟨m / 128, acc ++ [UInt8.ofNat (m % 128 + 128)], A1, c1, by omega, by go_num, by simp, ?_, ?_, own_grown hB hown hb0 hg2⟩
        · rw [List.length_append, bcl_snoc _ _ (by omega)]; exact hown2
        · rw [HV.out, vput_ge H0.out hm, List.append_assoc]; rfl
      case measure => have := H0.out; simp [intOf]; omega
/-! the reference's Get -/
theorem vget_arg (l : List UInt8) (p : Int) (h : p < 0 ∨ (l.length : Int) < p) : vget l p = (0, 0, 1) := by unfold vget; rw [if_pos h]
/-- what is left to do behind i bytes -/
theorem vgo_stop {i v : Nat} : ∀ {l : List UInt8}, l = [] → i < 10 → vgo (10 - i) i v l = (0, 0, 2) := by
  intro l hl hi
  subst hl
  obtain ⟨f, hf⟩ : ∃ f, 10 - i = f + 1 := ⟨9 - i, by omega⟩
  rw [hf]; rfl
theorem vgo_cons {i v : Nat} {c : UInt8} {l : List UInt8} (hi : i < 10) : vgo (10 - i) i v (c :: l) =
    if i = 9 ∧ 1 < c.toNat then (0, 0, 3) else if c.toNat < 128 then (v + c.toNat * 128 ^ i, i + 1, 0) else vgo (10 - (i + 1)) (i + 1) (v + c.toNat % 128 * 128 ^ i) l := by
  obtain ⟨f, hf⟩ : ∃ f, 10 - i = f + 1 := ⟨9 - i, by omega⟩
  have hf2 : 10 - (i + 1) = f := by omega
  rw [hf, hf2]; rfl
end Go.Proofs.YtanfnjlndckhkaaDoor

/- WALK: the reference's varint Get computes vget. -/
namespace Go.Proofs.YtanfnjlndckhkaaDoor
open Go.RowKit Plain

theorem vget_of {l : List UInt8} {q : Nat} {r : Nat × Nat × Nat} (h : vgo 10 0 0 (l.drop q) = r) (hq : q ≤ l.length) :
    vget l q = if r.2.2 = 0 then (r.1, q + r.2.1, 0) else (0, 0, r.2.2) := by
  unfold vget
  rw [if_neg (by omega), Int.toNat_natCast, h]
theorem pow7 (i : Nat) : (2 : Int) ^ (7 * i) = ((128 ^ i : Nat) : Int) := by
  rw [show 128 ^ i = 2 ^ (7 * i) by rw [Nat.pow_mul]]; simp
theorem vstep_lt {v x i : Nat} (hi : i < 10) (hv : v < 128 ^ i) (h9 : i = 9 → x ≤ 1) : v + x % 128 * 128 ^ i < 18446744073709551616 := by
  by_cases h : i = 9
  · subst h
    have := h9 rfl
    have e : (128 : Nat) ^ 9 = 9223372036854775808 := by decide
    rw [e] at hv ⊢
    omega
  · have hp : 128 ^ (i + 1) ≤ 128 ^ 9 := Nat.pow_le_pow_right (by omega) (by omega)
    have e : (128 : Nat) ^ 9 = 9223372036854775808 := by decide
    rw [e, Nat.pow_succ] at hp
    have hm : x % 128 * 128 ^ i ≤ 127 * 128 ^ i := Nat.mul_le_mul_right _ (by omega)
    omega
theorem vstepE {v x i : Nat} (hi : i < 10) (hv : v < 128 ^ i) (h9 : i = 9 → x ≤ 1) :
    ((v : Int) + (x : Int) % 128 * 2 ^ (7 * i) % 18446744073709551616) % 18446744073709551616 = ((v + x % 128 * 128 ^ i : Nat) : Int) := by
  have h := vstep_lt hi hv h9
  rw [pow7]
  generalize hq : x % 128 * 128 ^ i = q at *
  have e : (x : Int) % 128 * ((128 ^ i : Nat) : Int) = (q : Int) := by rw [← hq, Int.natCast_mul]; rfl
  rw [e]
  omega
theorem vstep_pow {v x i : Nat} (hv : v < 128 ^ i) : v + x % 128 * 128 ^ i < 128 ^ (i + 1) := by
  have hm : x % 128 * 128 ^ i ≤ 127 * 128 ^ i := Nat.mul_le_mul_right _ (by omega)
  rw [Nat.pow_succ]
  omega

set_option maxHeartbeats 800000 in
set_option maxRecDepth 100000 in
theorem rvget_any (A : Option Addr) (n c : Nat) (l : List UInt8) (hn : l.length = n) (hl : l.length ≤ 140737488355328) (p : Int) (B : Nat) (w : World) (hr : Rd w B A (bcl l)) :
    Calls Tryd.prog 75 #[.slice A n c, .int .i64 p] w fun e w' =>
      e = .returned (.tuple #[.int .u64 (vget l p).1, .int .i64 (vget l p).2.1, .int .i64 (vget l p).2.2]) ∧ w = w' := by
  subst hn
  by_cases h0 : p < 0 ∨ (l.length : Int) < p
  · rw [vget_arg _ _ h0]
    by_cases h1 : p < 0
    · go_enter Tryd.func75, Tryd.ntmps75
      go_wp2
      go_ret3
      exact ⟨rfl, rfl⟩
    · have h2 : (l.length : Int) < p := by omega
      clear h0
      go_enter Tryd.func75, Tryd.ntmps75
      go_wp2
      go_ret3
      exact ⟨rfl, rfl⟩
  · obtain ⟨q, rfl⟩ : ∃ q : Nat, p = q := ⟨p.toNat, by omega⟩
    have h1 : q ≤ l.length := by omega
    clear h0
    have HR := Lib.hid hr
    clear hr
    go_enter Tryd.func75, Tryd.ntmps75
    go_wp2
    go_loop [7, 8, 9] (fun a b _ => ∃ i v : Nat, b = .int .i64 i ∧ i ≤ 10 ∧ a = .int .u64 v ∧ v < 128 ^ i ∧ q + i ≤ l.length ∧ vgo 10 0 0 (l.drop q) = vgo (10 - i) i v (l.drop (q + i))) (fun _ b _ => (10 - intOf b).toNat)
    case atStart => exact ⟨0, 0, rfl, by omega, rfl, by simp, h1, rfl⟩
    case round =>
      obtain ⟨i, v, rfl, hi, rfl, hv, hq, he⟩ := hrel
      have HE := Lib.hid he
      have HV := Lib.hid hv
      clear he hv
      by_cases hi10 : i = 10
      · subst hi10
        go_wp2
        go_ret3
        have e := vget_of (r := (0, 0, 3)) (HE.out.trans rfl) h1
        rw [e]
        exact ⟨rfl, rfl⟩
      · by_cases hend : q + i = l.length
        · have hd : decide (l.length ≤ q + i) = true := by simp; omega
          have hlt : i < 10 := by omega
          have e := vget_of (r := (0, 0, 2)) (HE.out.trans (vgo_stop (by simp; omega) hlt)) h1
          have E := Lib.hid e
          clear e hi10
          go_wp2
          go_ret3
          rw [E.out]
          exact ⟨rfl, rfl⟩
        · have hlt : i < 10 := by omega
          have hq2 : q + i < l.length := by omega
          have hd : decide (l.length ≤ q + i) = false := by simp; omega
          have hcons : vgo (10 - i) i v (l.drop (q + i)) = _ := (congrArg (vgo (10 - i) i v) (List.drop_eq_getElem_cons hq2)).trans (vgo_cons hlt)
          obtain ⟨b, off, rfl, hb, hcell⟩ := HR.out.some_ (by simp [bcl]; omega)
          have hcj := hcell (q + i) (by simp [bcl]; omega)
          rw [bcl_get hq2] at hcj
          have hx : (l[q + i]'hq2).toNat < 256 := (l[q + i]'hq2).toNat_lt
          clear hcell
          generalize (l[q + i]'hq2).toNat = x at *
          have HC := Lib.hid (HE.out.trans hcons)
          clear hcons HE hi10 hend
          by_cases h9 : i = 9 ∧ 1 < x
          · have e := vget_of (r := (0, 0, 3)) (HC.out.trans (if_pos h9)) h1
            have E := Lib.hid e
            obtain ⟨rfl, hx1⟩ := h9
            clear e HC
            go_wp2
            go_ret3
            rw [E.out]
            exact ⟨rfl, rfl⟩
          · have HC2 := Lib.hid (HC.out.trans (if_neg h9))
            clear HC
            have hvs := vstepE hlt HV.out (fun e => (by omega : x ≤ 1))
            have HVS := Lib.hid hvs
            clear hvs
            by_cases hi9 : i = 9
            · subst hi9
              have hx1 : x ≤ 1 := by omega
              have hm : x % 128 = x := by omega
              have e : vget l q = (v + x * 128 ^ 9, q + (9 + 1), 0) := (vget_of (HC2.out.trans (if_pos (by omega))) h1).trans (if_pos rfl)
              have E := Lib.hid e
              have HM := Lib.hid hm
              clear e HC2 hm h9
              go_wp2
              go_ret3
              rw [E.out]
              refine ⟨ret3_int ?_ (by simp only; omega) rfl, rfl⟩
              have e := HVS.out
              rw [HM.out] at e
              simp only [IntKind.wrap_u64]
              rw [← e]
              omega
            · have hi9' : ((i : Int) == 9) = false := by rw [beq_eq_false_iff_ne]; omega
              have HI := Lib.hid hi9
              clear h9 hi9
              go_wp2
              · go_ret3
                have hx2 : x < 128 := by omega
                have hm : x % 128 = x := by omega
                have e : vget l q = (v + x * 128 ^ i, q + (i + 1), 0) := (vget_of (HC2.out.trans (if_pos hx2)) h1).trans (if_pos rfl)
                rw [e]
                refine ⟨ret3_int ?_ (by simp only; omega) rfl, rfl⟩
                have e := HVS.out
                rw [hm] at e
                simp only [IntKind.wrap_u64]
                exact e
              · go_round
                case rel =>
                  have hx2 : ¬ x < 128 := by omega
                  have hlt2 := HI.out
                  refine ⟨i + 1, v + x % 128 * 128 ^ i, by go_num, by omega, ?_, vstep_pow HV.out, by omega, ?_⟩
                  · simp only [IntKind.wrap_u64]; rw [HVS.out]
                  · exact HC2.out.trans (if_neg hx2)
                case measure => simp [intOf]; omega
end Go.Proofs.YtanfnjlndckhkaaDoor

/- PLAIN LAW: bytes as fields. -/
namespace Go.Proofs.YtanfnjlndckhkaaDoor
open Go.RowKit Plain

/-- what has been read: the place, the groups that are open, the fields -/
structure RSt where
  at_ : Nat
  opn : List Nat
  out : List Fld
def emptyT : ByteArray := ⟨#[]⟩
/-- what stands behind a tag: number, text, place behind, error -/
structure WV where
  val : Nat
  text : ByteArray
  to : Nat
  err : Nat
def wval (b : List UInt8) (p kind : Nat) : WV :=
  if kind = 0 then ⟨(vget b p).1, emptyT, (vget b p).2.1, (vget b p).2.2⟩
  else if kind = 1 then ⟨(fget 8 b p).1, emptyT, (fget 8 b p).2.1, (fget 8 b p).2.2⟩
  else if kind = 5 then ⟨(fget 4 b p).1, emptyT, (fget 4 b p).2.1, (fget 4 b p).2.2⟩
  else if kind = 2 then
    if (vget b p).2.2 = 0 then
      if b.length - (vget b p).2.1 < (vget b p).1 then ⟨0, emptyT, 0, 2⟩
      else ⟨0, ⟨((b.drop (vget b p).2.1).take (vget b p).1).toArray⟩, (vget b p).2.1 + (vget b p).1, 0⟩
    else ⟨0, emptyT, 0, (vget b p).2.2⟩
  else ⟨0, emptyT, 0, 11⟩
/-- one step: error (0: none) and what has been read then -/
def wnext (b : List UInt8) (s : RSt) : Nat × RSt :=
  if (vget b s.at_).2.2 = 0 then
    if (vget b s.at_).1 / 8 < 1 ∨ 536870912 ≤ (vget b s.at_).1 / 8 then (5, s)
    else if (vget b s.at_).1 % 8 = 3 then if 8 ≤ s.opn.length then (12, s) else (0, ⟨(vget b s.at_).2.1, s.opn ++ [(vget b s.at_).1 / 8], s.out⟩)
    else if (vget b s.at_).1 % 8 = 4 then if s.opn.getLast? = some ((vget b s.at_).1 / 8) then (0, ⟨(vget b s.at_).2.1, s.opn.dropLast, s.out⟩) else (4, s)
    else if (wval b (vget b s.at_).2.1 ((vget b s.at_).1 % 8)).err = 0 then
      if s.opn.length = 0 then
        if 256 ≤ s.out.length then (6, s)
        else (0, ⟨(wval b (vget b s.at_).2.1 ((vget b s.at_).1 % 8)).to, s.opn, s.out ++ [⟨((vget b s.at_).1 / 8 : Nat), ((vget b s.at_).1 % 8 : Nat), (wval b (vget b s.at_).2.1 ((vget b s.at_).1 % 8)).val, (wval b (vget b s.at_).2.1 ((vget b s.at_).1 % 8)).text⟩]⟩)
      else (0, ⟨(wval b (vget b s.at_).2.1 ((vget b s.at_).1 % 8)).to, s.opn, s.out⟩)
    else ((wval b (vget b s.at_).2.1 ((vget b s.at_).1 % 8)).err, s)
  else ((vget b s.at_).2.2, s)
def wrun (b : List UInt8) : Nat → RSt → List Fld × Nat
  | 0, s => if s.opn.length = 0 then (s.out, 0) else ([], 2)
  | n + 1, s => if s.at_ < b.length then (if (wnext b s).1 = 0 then wrun b n (wnext b s).2 else ([], (wnext b s).1)) else if s.opn.length = 0 then (s.out, 0) else ([], 2)
def wof (b : List UInt8) : List Fld × Nat := if 4096 < b.length then ([], 3) else wrun b b.length ⟨0, [], []⟩

theorem vgo_to : ∀ (f i v : Nat) (l : List UInt8), (vgo f i v l).2.2 = 0 → i < (vgo f i v l).2.1 ∧ (vgo f i v l).2.1 ≤ i + l.length := by
  intro f
  induction f with
  | zero => intro i v l h; simp [vgo] at h
  | succ f ih =>
    intro i v l h
    cases l with
    | nil => simp [vgo] at h
    | cons c l =>
      rw [vgo] at h ⊢
      split
      · rename_i h1; rw [if_pos h1] at h; simp at h
      · rename_i h1
        rw [if_neg h1] at h
        split
        · simp
        · rename_i h2
          rw [if_neg h2] at h
          have := ih _ _ _ h
          simp only [List.length_cons]
          omega
theorem vget_to {b : List UInt8} {p : Nat} (h : (vget b p).2.2 = 0) : p < (vget b p).2.1 ∧ (vget b p).2.1 ≤ b.length ∧ p ≤ b.length := by
  unfold vget at h ⊢
  split
  · rename_i h1; rw [if_pos h1] at h; simp at h
  · rename_i h1
    rw [if_neg h1] at h
    split
    · rename_i h2
      have := vgo_to _ _ _ _ h2
      simp only [List.length_drop, Int.toNat_natCast] at this ⊢
      omega
    · rename_i h2
      rw [if_neg h2] at h
      simp only at h
      exact absurd h h2
theorem fget_to {k : Nat} {b : List UInt8} {p : Nat} (h : (fget k b p).2.2 = 0) : (fget k b p).2.1 = p + k ∧ p + k ≤ b.length := by
  unfold fget at h ⊢
  split
  · rename_i h1; rw [if_pos h1] at h; simp at h
  · rename_i h1
    rw [if_neg h1] at h
    split
    · rename_i h2; rw [if_pos h2] at h; simp at h
    · simp; omega
theorem vgo_lt : ∀ (f i v : Nat) (l : List UInt8), f + i = 10 → v < 128 ^ i → (vgo f i v l).1 < 18446744073709551616 := by
  intro f
  induction f with
  | zero => intro i v l _ _; simp [vgo]
  | succ f ih =>
    intro i v l hf hv
    cases l with
    | nil => simp [vgo]
    | cons c l =>
      rw [vgo]
      have hc : c.toNat < 256 := c.toNat_lt
      split
      · simp
      · rename_i h1
        split
        · rename_i h2
          simp only
          rcases Nat.lt_or_ge i 9 with h9 | h9
          · have e1 : c.toNat * 128 ^ i ≤ 127 * 128 ^ i := Nat.mul_le_mul_right _ (by omega)
            have e2 : 128 * 128 ^ i ≤ 128 ^ 9 := by
              rw [← Nat.pow_succ']
              exact Nat.pow_le_pow_right (by omega) (by omega)
            have e3 : (128 : Nat) ^ 9 = 9223372036854775808 := by decide
            omega
          · obtain rfl : i = 9 := by omega
            have e3 : (128 : Nat) ^ 9 = 9223372036854775808 := by decide
            have : c.toNat ≤ 1 := by omega
            rw [e3] at hv ⊢
            have : c.toNat * 9223372036854775808 ≤ 1 * 9223372036854775808 := Nat.mul_le_mul_right _ this
            omega
        · refine ih _ _ _ (by omega) ?_
          have e1 : c.toNat % 128 * 128 ^ i ≤ 127 * 128 ^ i := Nat.mul_le_mul_right _ (by omega)
          rw [Nat.pow_succ']
          omega
theorem vget_lt (b : List UInt8) (p : Int) : (vget b p).1 < 18446744073709551616 := by
  unfold vget
  split
  · simp
  · split
    · exact vgo_lt 10 0 0 _ rfl (by simp)
    · simp
theorem wval_to {b : List UInt8} {p k : Nat} (h : (wval b p k).err = 0) : p ≤ (wval b p k).to ∧ (wval b p k).to ≤ b.length := by
  unfold wval at h ⊢
  split
  · rename_i h0; rw [if_pos h0] at h; have := vget_to h; simp only; omega
  rename_i h0; rw [if_neg h0] at h
  split
  · rename_i h1; rw [if_pos h1] at h; have := fget_to h; simp only; omega
  rename_i h1; rw [if_neg h1] at h
  split
  · rename_i h5; rw [if_pos h5] at h; have := fget_to h; simp only; omega
  rename_i h5; rw [if_neg h5] at h
  split
  · rename_i h2; rw [if_pos h2] at h
    split
    · rename_i he; rw [if_pos he] at h
      have := vget_to he
      split
      · rename_i hl; rw [if_pos hl] at h; simp at h
      · simp only; omega
    · rename_i he; rw [if_neg he] at h; exact absurd h he
  · rename_i h2; rw [if_neg h2] at h; simp at h
theorem wnext_to {b : List UInt8} {s : RSt} (h : (wnext b s).1 = 0) : s.at_ < (wnext b s).2.at_ ∧ (wnext b s).2.at_ ≤ b.length := by
  unfold wnext at h ⊢
  split
  · rename_i h0; rw [if_pos h0] at h
    have hv := vget_to h0
    split
    · rename_i h1; rw [if_pos h1] at h; simp at h
    rename_i h1; rw [if_neg h1] at h
    split
    · rename_i h2; rw [if_pos h2] at h
      split
      · rename_i h3; rw [if_pos h3] at h; simp at h
      · simp only; omega
    rename_i h2; rw [if_neg h2] at h
    split
    · rename_i h3; rw [if_pos h3] at h
      split
      · simp only; omega
      · rename_i h4; rw [if_neg h4] at h; simp at h
    rename_i h3; rw [if_neg h3] at h
    split
    · rename_i h4; rw [if_pos h4] at h
      have hw := wval_to h4
      split
      · rename_i h5; rw [if_pos h5] at h
        split
        · rename_i h6; rw [if_pos h6] at h; simp at h
        · simp only; omega
      · simp only; omega
    · rename_i h4; rw [if_neg h4] at h; exact absurd h h4
  · rename_i h0; rw [if_neg h0] at h; exact absurd h h0
end Go.Proofs.YtanfnjlndckhkaaDoor

/- PLAIN LAW: one message behind another. -/
namespace Go.Proofs.YtanfnjlndckhkaaDoor
open Go.RowKit Plain

theorem vgo_app : ∀ (f i v : Nat) (l r : List UInt8), (vgo f i v l).2.2 = 0 → vgo f i v (l ++ r) = vgo f i v l := by
  intro f
  induction f with
  | zero => intro i v l r h; simp [vgo] at h
  | succ f ih =>
    intro i v l r h
    cases l with
    | nil => simp [vgo] at h
    | cons c l =>
      rw [List.cons_append, vgo, vgo]
      rw [vgo] at h
      split
      · rfl
      · rename_i h1
        rw [if_neg h1] at h
        split
        · rfl
        · rename_i h2
          rw [if_neg h2] at h
          exact ih _ _ _ _ h
theorem vget_app {a b : List UInt8} {p : Nat} (h : (vget a p).2.2 = 0) : vget (a ++ b) p = vget a p := by
  have hp := (vget_to h).2.2
  unfold vget at h ⊢
  have h1 : ¬ ((p : Int) < 0 ∨ (a.length : Int) < (p : Int)) := by omega
  have h2 : ¬ ((p : Int) < 0 ∨ ((a ++ b).length : Int) < (p : Int)) := by simp; omega
  rw [if_neg h1] at h ⊢
  rw [if_neg h2]
  have h3 : (vgo 10 0 0 (a.drop (p : Int).toNat)).2.2 = 0 := by
    split at h
    · assumption
    · exact h
  rw [Int.toNat_natCast] at h3 ⊢
  rw [List.drop_append_of_le_length hp, vgo_app _ _ _ _ _ h3]
theorem fget_app {k : Nat} {a b : List UInt8} {p : Nat} (h : (fget k a p).2.2 = 0) : fget k (a ++ b) p = fget k a p := by
  have hp := (fget_to h).2
  unfold fget at h ⊢
  have h1 : ¬ ((p : Int) < 0 ∨ (a.length : Int) < (p : Int)) := by omega
  have h2 : ¬ ((p : Int) < 0 ∨ ((a ++ b).length : Int) < (p : Int)) := by simp; omega
  have h3 : ¬ ((a.length : Int) - (p : Int) < (k : Int)) := by omega
  have h4 : ¬ (((a ++ b).length : Int) - (p : Int) < (k : Int)) := by simp; omega
  rw [if_neg h1, if_neg h3, if_neg h2, if_neg h4]
  rw [Int.toNat_natCast, List.drop_append_of_le_length (by omega), List.take_append_of_le_length (by first | (simp; done) | (simp; omega))]
theorem wval_app {a b : List UInt8} {p k : Nat} (h : (wval a p k).err = 0) : wval (a ++ b) p k = wval a p k := by
  unfold wval at h ⊢
  split
  · rename_i h0; rw [if_pos h0] at h; rw [vget_app h]
  rename_i h0; rw [if_neg h0] at h
  split
  · rename_i h1; rw [if_pos h1] at h; rw [fget_app h]
  rename_i h1; rw [if_neg h1] at h
  split
  · rename_i h5; rw [if_pos h5] at h; rw [fget_app h]
  rename_i h5; rw [if_neg h5] at h
  split
  · rename_i h2; rw [if_pos h2] at h
    have he : (vget a p).2.2 = 0 := by
      split at h
      · assumption
      · exact h
    have ht := vget_to he
    rw [if_pos he] at h
    rw [vget_app he, if_pos he]
    have hl : ¬ a.length - (vget a p).2.1 < (vget a p).1 := by
      intro hx; rw [if_pos hx] at h; simp at h
    rw [if_neg hl, if_neg (by first | (simp; done) | (simp; omega)), if_pos he]
    rw [List.drop_append_of_le_length ht.2.1, List.take_append_of_le_length (by first | (simp; done) | (simp; omega))]
  · rename_i h2; simp [h2] at h
theorem wnext_app {a b : List UInt8} {s : RSt} (h : (wnext a s).1 = 0) : wnext (a ++ b) s = wnext a s := by
  have he : (vget a s.at_).2.2 = 0 := by
    unfold wnext at h
    split at h
    · assumption
    · exact h
  unfold wnext at h ⊢
  rw [vget_app he]
  rw [if_pos he] at h ⊢
  split
  · rfl
  rename_i h1; rw [if_neg h1] at h
  split
  · rfl
  rename_i h2; rw [if_neg h2] at h
  split
  · rfl
  rename_i h3; rw [if_neg h3] at h
  have hv : (wval a (vget a s.at_).2.1 ((vget a s.at_).1 % 8)).err = 0 := by
    split at h
    · assumption
    · exact h
  rw [wval_app hv]
theorem vget_behind (a b : List UInt8) (p : Nat) : vget (a ++ b) ((a.length + p : Nat) : Int) = if (vget b p).2.2 = 0 then ((vget b p).1, a.length + (vget b p).2.1, 0) else (0, 0, (vget b p).2.2) := by
  unfold vget
  by_cases hp : b.length < p
  · rw [if_pos (show ((a.length + p : Nat) : Int) < 0 ∨ (((a ++ b).length : Nat) : Int) < ((a.length + p : Nat) : Int) by right; simp; omega), if_pos (show (p : Int) < 0 ∨ (b.length : Int) < (p : Int) by omega)]
    simp
  · rw [if_neg (show ¬ (((a.length + p : Nat) : Int) < 0 ∨ (((a ++ b).length : Nat) : Int) < ((a.length + p : Nat) : Int)) by simp; omega), if_neg (show ¬ ((p : Int) < 0 ∨ (b.length : Int) < (p : Int)) by omega)]
    rw [Int.toNat_natCast, Int.toNat_natCast, show (a ++ b).drop (a.length + p) = b.drop p by simp]
    split
    · rename_i h
      simp [Nat.add_assoc]
    · simp
theorem fget_behind (k : Nat) (a b : List UInt8) (p : Nat) : fget k (a ++ b) ((a.length + p : Nat) : Int) = if (fget k b p).2.2 = 0 then ((fget k b p).1, a.length + (fget k b p).2.1, 0) else (0, 0, (fget k b p).2.2) := by
  unfold fget
  by_cases hp : b.length < p
  · rw [if_pos (show ((a.length + p : Nat) : Int) < 0 ∨ (((a ++ b).length : Nat) : Int) < ((a.length + p : Nat) : Int) by right; simp; omega), if_pos (show (p : Int) < 0 ∨ (b.length : Int) < (p : Int) by omega)]
    simp
  · rw [if_neg (show ¬ (((a.length + p : Nat) : Int) < 0 ∨ (((a ++ b).length : Nat) : Int) < ((a.length + p : Nat) : Int)) by simp; omega), if_neg (show ¬ ((p : Int) < 0 ∨ (b.length : Int) < (p : Int)) by omega)]
    by_cases hk : (b.length : Int) - (p : Int) < (k : Int)
    · rw [if_pos (show (((a ++ b).length : Nat) : Int) - ((a.length + p : Nat) : Int) < (k : Int) by simp; omega), if_pos hk]
      simp
    · rw [if_neg (show ¬ (((a ++ b).length : Nat) : Int) - ((a.length + p : Nat) : Int) < (k : Int) by simp; omega), if_neg hk]
      rw [Int.toNat_natCast, Int.toNat_natCast, show (a ++ b).drop (a.length + p) = b.drop p by simp]
      simp [Nat.add_assoc]
theorem wval_e0 (l : List UInt8) (q : Nat) : wval l q 0 = ⟨(vget l q).1, emptyT, (vget l q).2.1, (vget l q).2.2⟩ := by unfold wval; rw [if_pos rfl]
theorem wval_e1 (l : List UInt8) (q : Nat) : wval l q 1 = ⟨(fget 8 l q).1, emptyT, (fget 8 l q).2.1, (fget 8 l q).2.2⟩ := by unfold wval; rw [if_neg (by omega), if_pos rfl]
theorem wval_e5 (l : List UInt8) (q : Nat) : wval l q 5 = ⟨(fget 4 l q).1, emptyT, (fget 4 l q).2.1, (fget 4 l q).2.2⟩ := by unfold wval; rw [if_neg (by omega), if_neg (by omega), if_pos rfl]
theorem wval_e2 (l : List UInt8) (q : Nat) : wval l q 2 = if (vget l q).2.2 = 0 then if l.length - (vget l q).2.1 < (vget l q).1 then ⟨0, emptyT, 0, 2⟩ else ⟨0, ⟨((l.drop (vget l q).2.1).take (vget l q).1).toArray⟩, (vget l q).2.1 + (vget l q).1, 0⟩ else ⟨0, emptyT, 0, (vget l q).2.2⟩ := by
  unfold wval; rw [if_neg (by omega), if_neg (by omega), if_neg (by omega), if_pos rfl]
theorem wval_behind (a b : List UInt8) (p k : Nat) (h : (wval b p k).err = 0) : wval (a ++ b) (a.length + p) k = ⟨(wval b p k).val, (wval b p k).text, a.length + (wval b p k).to, 0⟩ := by
  by_cases h0 : k = 0
  · subst h0
    rw [wval_e0] at h
    rw [wval_e0, wval_e0, vget_behind, if_pos h]
  by_cases h1 : k = 1
  · subst h1
    rw [wval_e1] at h
    rw [wval_e1, wval_e1, fget_behind, if_pos h]
  by_cases h5 : k = 5
  · subst h5
    rw [wval_e5] at h
    rw [wval_e5, wval_e5, fget_behind, if_pos h]
  by_cases h2 : k = 2
  · subst h2
    rw [wval_e2] at h
    have he : (vget b p).2.2 = 0 := by
      split at h
      · assumption
      · exact h
    rw [if_pos he] at h
    have hl : ¬ b.length - (vget b p).2.1 < (vget b p).1 := by
      intro hx; rw [if_pos hx] at h; simp at h
    rw [wval_e2, wval_e2, vget_behind, if_pos he, if_pos rfl, if_pos he, if_neg hl, if_neg (by simp; omega)]
    simp [Nat.add_assoc]
  · exfalso
    unfold wval at h
    rw [if_neg h0, if_neg h1, if_neg h5, if_neg h2] at h
    simp at h
theorem wnext_behind (a b : List UInt8) (l : List Fld) (s : RSt) (h : (wnext b s).1 = 0) (hf : l.length + (wnext b s).2.out.length ≤ 256) :
    wnext (a ++ b) ⟨a.length + s.at_, s.opn, l ++ s.out⟩ = (0, ⟨a.length + (wnext b s).2.at_, (wnext b s).2.opn, l ++ (wnext b s).2.out⟩) := by
  have he : (vget b s.at_).2.2 = 0 := by
    unfold wnext at h
    split at h
    · assumption
    · exact h
  unfold wnext at h hf ⊢
  simp only [vget_behind, if_pos he] at h hf ⊢
  by_cases h1 : (vget b s.at_).1 / 8 < 1 ∨ 536870912 ≤ (vget b s.at_).1 / 8
  · rw [if_pos h1] at h; simp at h
  rw [if_neg h1] at h hf ⊢
  rw [if_neg h1]
  by_cases h3 : (vget b s.at_).1 % 8 = 3
  · rw [if_pos h3] at h hf ⊢
    rw [if_pos h3]
    by_cases h8 : 8 ≤ s.opn.length
    · rw [if_pos h8] at h; simp at h
    · rw [if_neg h8, if_neg h8]
      simp
  rw [if_neg h3] at h hf ⊢
  rw [if_neg h3]
  by_cases h4 : (vget b s.at_).1 % 8 = 4
  · rw [if_pos h4] at h hf ⊢
    rw [if_pos h4]
    by_cases h8 : s.opn.getLast? = some ((vget b s.at_).1 / 8)
    · rw [if_pos h8, if_pos h8]
      simp
    · rw [if_neg h8] at h; simp at h
  rw [if_neg h4] at h hf ⊢
  rw [if_neg h4]
  have hv : (wval b (vget b s.at_).2.1 ((vget b s.at_).1 % 8)).err = 0 := by
    split at h
    · assumption
    · exact h
  rw [wval_behind _ _ _ _ hv]
  rw [if_pos hv] at h hf ⊢
  simp only [if_true]
  by_cases ho : s.opn.length = 0
  · rw [if_pos ho] at h hf ⊢
    rw [if_pos ho]
    by_cases hfl : 256 ≤ s.out.length
    · rw [if_pos hfl] at h; simp at h
    · rw [if_neg hfl] at hf ⊢
      simp only [List.length_append, List.length_singleton] at hf
      rw [if_neg (by simp; omega)]
      simp
  · rw [if_neg ho]
    rw [if_neg ho]
theorem wrun_end2 {b : List UInt8} {f : Nat} {s : RSt} (h : ¬ s.at_ < b.length) : wrun b f s = if s.opn.length = 0 then (s.out, 0) else ([], 2) := by
  cases f with
  | zero => rfl
  | succ f => rw [wrun, if_neg h]
theorem wrun_ends {s : RSt} {l : List Fld} (h : (if s.opn.length = 0 then (s.out, 0) else (([] : List Fld), 2)) = (l, 0)) : s.opn = [] ∧ s.out = l := by
  split at h
  · rename_i h0
    exact ⟨List.eq_nil_of_length_eq_zero h0, (Prod.mk.inj h).1⟩
  · have := (Prod.mk.inj h).2
    omega
theorem wrun_first (a b : List UInt8) (l : List Fld) (g : Nat) : ∀ (f : Nat) (s : RSt), wrun a f s = (l, 0) → a.length ≤ f + s.at_ → s.at_ ≤ a.length → ∃ g', g ≤ g' ∧ wrun (a ++ b) (f + g) s = wrun (a ++ b) g' ⟨a.length, [], l⟩ := by
  intro f
  induction f with
  | zero =>
    intro s h h1 h2
    rw [wrun] at h
    obtain ⟨e1, e2⟩ := wrun_ends h
    obtain ⟨p, o, u⟩ := s
    simp only at e1 e2 h1 h2
    obtain rfl : p = a.length := by omega
    subst e1 e2
    exact ⟨0 + g, by omega, rfl⟩
  | succ f ih =>
    intro s h h1 h2
    rw [wrun] at h
    by_cases hlt : s.at_ < a.length
    · rw [if_pos hlt] at h
      by_cases he : (wnext a s).1 = 0
      · rw [if_pos he] at h
        have ht := wnext_to he
        obtain ⟨g', hg, hw⟩ := ih _ h (by omega) ht.2
        refine ⟨g', hg, ?_⟩
        rw [show f + 1 + g = (f + g) + 1 by omega, wrun, if_pos (by simp; omega), wnext_app he, if_pos he, hw]
      · rw [if_neg he] at h
        have := (Prod.mk.inj h).2
        omega
    · rw [if_neg hlt] at h
      obtain ⟨e1, e2⟩ := wrun_ends h
      obtain ⟨p, o, u⟩ := s
      simp only at e1 e2 h1 h2 hlt
      obtain rfl : p = a.length := by omega
      subst e1 e2
      exact ⟨f + 1 + g, by omega, rfl⟩
theorem wnext_out {b : List UInt8} {s : RSt} : s.out.length ≤ (wnext b s).2.out.length := by
  unfold wnext
  split
  · split
    · exact Nat.le_refl _
    split
    · split <;> exact Nat.le_refl _
    split
    · split <;> exact Nat.le_refl _
    split
    · split
      · split
        · exact Nat.le_refl _
        · simp
      · exact Nat.le_refl _
    · exact Nat.le_refl _
  · exact Nat.le_refl _
theorem wrun_out (b : List UInt8) (m : List Fld) : ∀ (f : Nat) (s : RSt), wrun b f s = (m, 0) → s.out.length ≤ m.length := by
  intro f
  induction f with
  | zero =>
    intro s h
    rw [wrun] at h
    rw [(wrun_ends h).2]
    exact Nat.le_refl _
  | succ f ih =>
    intro s h
    rw [wrun] at h
    split at h
    · split at h
      · exact Nat.le_trans wnext_out (ih _ h)
      · rename_i he
        have := (Prod.mk.inj h).2
        omega
    · rw [(wrun_ends h).2]
      exact Nat.le_refl _
theorem wrun_second (a b : List UInt8) (l m : List Fld) (hm : l.length + m.length ≤ 256) : ∀ (f : Nat) (s : RSt) (g : Nat), wrun b f s = (m, 0) → b.length ≤ f + s.at_ → s.at_ ≤ b.length → f ≤ g → wrun (a ++ b) g ⟨a.length + s.at_, s.opn, l ++ s.out⟩ = (l ++ m, 0) := by
  intro f
  induction f with
  | zero =>
    intro s g h h1 h2 _
    rw [wrun] at h
    obtain ⟨e1, e2⟩ := wrun_ends h
    rw [wrun_end2 (by simp; omega), e1, e2]
    rfl
  | succ f ih =>
    intro s g h h1 h2 hg
    obtain ⟨g, rfl⟩ : ∃ k, g = k + 1 := ⟨g - 1, by omega⟩
    rw [wrun] at h
    by_cases hlt : s.at_ < b.length
    · rw [if_pos hlt] at h
      by_cases he : (wnext b s).1 = 0
      · rw [if_pos he] at h
        have ht := wnext_to he
        have hout := wrun_out b m _ _ h
        rw [wrun, if_pos (by simp; omega), wnext_behind a b l s he (by omega), if_pos rfl]
        exact ih _ _ h (by omega) ht.2 (by omega)
      · rw [if_neg he] at h
        have := (Prod.mk.inj h).2
        omega
    · rw [if_neg hlt] at h
      obtain ⟨e1, e2⟩ := wrun_ends h
      rw [wrun_end2 (by simp; omega), e1, e2]
      rfl
/-- what two messages tell, their bytes tell one behind the other -/
theorem wof_app {a b : List UInt8} {l m : List Fld} (ha : wof a = (l, 0)) (hb : wof b = (m, 0)) (hlen : a.length + b.length ≤ 4096) (hn : l.length + m.length ≤ 256) : wof (a ++ b) = (l ++ m, 0) := by
  unfold wof at ha hb ⊢
  rw [if_neg (by omega)] at ha hb
  rw [if_neg (by simp; omega), List.length_append]
  obtain ⟨g', hg, hw⟩ := wrun_first a b l b.length a.length ⟨0, [], []⟩ ha (by simp) (by simp)
  rw [hw]
  have := wrun_second a b l m hn b.length ⟨0, [], []⟩ g' hb (by simp) (by simp) hg
  simpa using this
end Go.Proofs.YtanfnjlndckhkaaDoor

/- PLAIN LAW: a number's bytes told again, with whatever behind. -/
namespace Go.Proofs.YtanfnjlndckhkaaDoor.Plain

theorem vgo_vb : ∀ (k i m v : Nat) (r : List UInt8), k + i = 9 → m < 128 ^ k * 2 → vgo (10 - i) i v (vb k m ++ r) = (v + m * 128 ^ i, i + (vb k m).length, 0) := by
  intro k
  induction k with
  | zero =>
    intro i m v r hi hm
    have h9 : i = 9 := by omega
    have hm2 : m < 2 := by simpa using hm
    subst h9
    simp only [vb, List.singleton_append]
    rw [vgo_cons (by omega)]
    have e : (UInt8.ofNat m).toNat = m := by rw [UInt8.toNat_ofNat', Nat.mod_eq_of_lt (by omega)]
    rw [e, if_neg (by omega), if_pos (by omega)]
    rfl
  | succ k ih =>
    intro i m v r hi hm
    have hi10 : i < 10 := by omega
    have hi9 : ¬ i = 9 := by omega
    rw [vb]
    by_cases h : m < 128
    · rw [if_pos h, List.singleton_append, vgo_cons hi10]
      have e : (UInt8.ofNat m).toNat = m := by rw [UInt8.toNat_ofNat', Nat.mod_eq_of_lt (by omega)]
      rw [e, if_neg (fun h => hi9 h.1), if_pos h]
      rfl
    · rw [if_neg h, List.cons_append, vgo_cons hi10]
      have e : (UInt8.ofNat (m % 128 + 128)).toNat = m % 128 + 128 := by rw [UInt8.toNat_ofNat', Nat.mod_eq_of_lt (by omega)]
      rw [e, if_neg (fun h => hi9 h.1), if_neg (by omega), ih (i + 1) (m / 128) _ r (by omega) (by
        rw [Nat.div_lt_iff_lt_mul (by omega)]
        rw [Nat.pow_succ] at hm
        have : 128 ^ k * 128 * 2 = 128 ^ k * 2 * 128 := by ac_rfl
        omega)]
      have e2 : (m % 128 + 128) % 128 = m % 128 := by omega
      have e3 : v + m % 128 * 128 ^ i + m / 128 * 128 ^ (i + 1) = v + m * 128 ^ i := by
        rw [Nat.pow_succ, Nat.mul_comm (128 ^ i) 128, ← Nat.mul_assoc, Nat.add_assoc, ← Nat.add_mul]
        congr 2
        have := Nat.mod_add_div m 128
        omega
      rw [e2, e3]
      simp only [List.length_cons]
      congr 2
      omega
theorem vgo_vput {n : Nat} (hn : n < 18446744073709551616) (r : List UInt8) : vgo 10 0 0 (vput n ++ r) = (n, vsize n, 0) := by
  have h := vgo_vb 9 0 n 0 r rfl (by
    have e : (128 : Nat) ^ 9 = 9223372036854775808 := by decide
    rw [e]; omega)
  simpa [vput, vsize] using h
theorem vget_mid {n : Nat} (l1 l2 : List UInt8) (hn : n < 18446744073709551616) : vget (l1 ++ vput n ++ l2) (l1.length : Nat) = (n, l1.length + vsize n, 0) := by
  have h : vgo 10 0 0 ((l1 ++ vput n ++ l2).drop l1.length) = (n, vsize n, 0) := by
    rw [List.append_assoc, List.drop_left]; exact vgo_vput hn l2
  unfold vget
  rw [if_neg (by simp; omega), Int.toNat_natCast, h]
  rfl

/-- L tells n, and may be told longer: ini go on, x is the last. -/
def Told (n : Nat) (L : List UInt8) (ini : List UInt8) (x : Nat) : Prop :=
  L = ini ++ [UInt8.ofNat x] ∧ x < 128 ∧ ini.length < 10 ∧ (ini.length = 9 → x ≤ 1) ∧ ∃ v, (∀ r, vgo 10 0 0 (ini ++ r) = vgo (10 - ini.length) ini.length v r) ∧ n = v + x * 128 ^ ini.length
theorem told_vb : ∀ (k : Nat) (ini : List UInt8) (n m v : Nat), k + ini.length = 9 → m < 128 ^ k * 2 → (∀ r, vgo 10 0 0 (ini ++ r) = vgo (10 - ini.length) ini.length v r) → n = v + m * 128 ^ ini.length →
    ∃ ini' x, Told n (ini ++ vb k m) ini' x := by
  intro k
  induction k with
  | zero =>
    intro ini n m v hi hm hv hn
    have hm2 : m < 2 := by simpa using hm
    exact ⟨ini, m, rfl, by omega, by omega, fun _ => by omega, v, hv, hn⟩
  | succ k ih =>
    intro ini n m v hi hm hv hn
    rw [vb]
    by_cases h : m < 128
    · rw [if_pos h]; exact ⟨ini, m, rfl, h, by omega, fun e => by omega, v, hv, hn⟩
    · rw [if_neg h]
      have e : (UInt8.ofNat (m % 128 + 128)).toNat = m % 128 + 128 := by rw [UInt8.toNat_ofNat', Nat.mod_eq_of_lt (by omega)]
      have hh := ih (ini ++ [UInt8.ofNat (m % 128 + 128)]) n (m / 128) (v + m % 128 * 128 ^ ini.length) (by simp; omega) (by
        rw [Nat.div_lt_iff_lt_mul (by omega)]
        rw [Nat.pow_succ] at hm
        have : 128 ^ k * 128 * 2 = 128 ^ k * 2 * 128 := by ac_rfl
        omega) (fun r => by
          rw [List.append_assoc, List.singleton_append, hv, vgo_cons (by omega), e, if_neg (by omega), if_neg (by omega)]
          rw [List.length_append, List.length_singleton]
          rw [show (m % 128 + 128) % 128 = m % 128 by omega]) (by
          rw [List.length_append, List.length_singleton, Nat.pow_succ, Nat.mul_comm (128 ^ ini.length) 128, ← Nat.mul_assoc, Nat.add_assoc, ← Nat.add_mul, hn]
          congr 2
          have := Nat.mod_add_div m 128
          omega)
      rw [List.append_assoc, List.singleton_append] at hh
      exact hh
theorem told_vput {n : Nat} (hn : n < 18446744073709551616) : ∃ ini x, Told n (vput n) ini x := by
  have e : (128 : Nat) ^ 9 = 9223372036854775808 := by decide
  exact told_vb 9 [] n n 0 rfl (by rw [e]; omega) (fun r => rfl) (by simp)
theorem told_more {n x : Nat} {L ini : List UInt8} (h : Told n L ini x) (h9 : ini.length + 1 < 9) : Told n (ini ++ [UInt8.ofNat (x + 128)] ++ [UInt8.ofNat 0]) (ini ++ [UInt8.ofNat (x + 128)]) 0 := by
  obtain ⟨rfl, hx, _, _, v, hv, hn⟩ := h
  have e : (UInt8.ofNat (x + 128)).toNat = x + 128 := by rw [UInt8.toNat_ofNat', Nat.mod_eq_of_lt (by omega)]
  refine ⟨rfl, by omega, by simp; omega, fun _ => by omega, v + x * 128 ^ ini.length, fun r => ?_, by rw [Nat.zero_mul]; exact hn⟩
  rw [List.append_assoc, List.singleton_append, hv, vgo_cons (by omega), e, if_neg (by omega), if_neg (by omega), List.length_append, List.length_singleton]
  rw [show (x + 128) % 128 = x by omega]
theorem told_get {n x : Nat} {L ini : List UInt8} (h : Told n L ini x) : vget L 0 = (n, L.length, 0) := by
  obtain ⟨rfl, hx, hl, h9, v, hv, hn⟩ := h
  have e : (UInt8.ofNat x).toNat = x := by rw [UInt8.toNat_ofNat', Nat.mod_eq_of_lt (by omega)]
  have hg : vgo 10 0 0 (ini ++ [UInt8.ofNat x]) = (n, ini.length + 1, 0) := by
    rw [hv, vgo_cons hl, e, if_neg (fun h => by have := h9 h.1; omega), if_pos hx, hn]
  unfold vget
  rw [if_neg (by simp; omega), Int.toNat_zero, List.drop_zero, hg]
  simp
theorem vget_open : ∀ i : Fin 13, vget (List.replicate i.val (UInt8.ofNat 128)) 0 = (0, 0, if i.val < 10 then 2 else 3) := by decide +kernel
end Go.Proofs.YtanfnjlndckhkaaDoor.Plain

/- PLAIN LAW: fields' bytes tell the fields. -/
namespace Go.Proofs.YtanfnjlndckhkaaDoor
open Go.RowKit Plain

theorem fget_at (k n : Nat) (l1 : List UInt8) (hn : n < 256 ^ k) : fget k (l1 ++ le k n) (l1.length : Nat) = (n, l1.length + k, 0) := by
  unfold fget
  rw [if_neg (by simp; omega), if_neg (by simp [le_length]; omega)]
  have h : (l1 ++ le k n).drop l1.length = le k n := by simp
  rw [Int.toNat_natCast, h, List.take_of_length_le (by rw [le_length]; exact Nat.le_refl _), un_le k n hn]
theorem vget_at {n : Nat} (l1 l2 : List UInt8) (hn : n < 18446744073709551616) : vget (l1 ++ (vput n ++ l2)) (l1.length : Nat) = (n, l1.length + vsize n, 0) := by
  rw [← List.append_assoc]; exact vget_mid l1 l2 hn
theorem vget_at0 {n : Nat} (l2 : List UInt8) (hn : n < 18446744073709551616) : vget (vput n ++ l2) 0 = (n, vsize n, 0) := by
  have := vget_at [] l2 hn
  simpa using this
theorem empty_of {s : ByteArray} (h : s.toList.isEmpty = true) : s = emptyT := by
  rw [ByteArray.toList_eq] at h
  have h2 : s.data = #[] := by simpa using h
  unfold emptyT
  rw [← h2]
/-- one field's bytes tell the field -/
theorem wof_one {f : Fld} (h : werrF f = 0) (hw : FldOk f) (hlen : (wencF f).length ≤ 4096) : wof (wencF f) = ([f], 0) := by
  obtain ⟨fnum, fkind, fval, ftext⟩ := f
  obtain ⟨k0, k1, k2, k3, k4, k5⟩ := werrF_ok h
  simp only at k0 k1 k2 k3 k4 k5
  have hval : fval < 18446744073709551616 := hw.2.2
  obtain ⟨num, rfl⟩ := Int.eq_ofNat_of_zero_le (show 0 ≤ fnum by omega)
  obtain ⟨kind, rfl⟩ := Int.eq_ofNat_of_zero_le (show 0 ≤ fkind by omega)
  have hT : 8 * num + kind < 18446744073709551616 := by omega
  have hd : (8 * num + kind) / 8 = num := by omega
  have hm : (8 * num + kind) % 8 = kind := by omega
  have hbd := vsize_bd (8 * num + kind)
  have hE : wencF ⟨num, kind, fval, ftext⟩ = wenc num kind fval ftext.data.toList := rfl
  rw [hE] at hlen ⊢
  -- what stands behind the tag
  have hv : wval (wenc num kind fval ftext.data.toList) (vsize (8 * num + kind)) kind = ⟨fval, ftext, (wenc num kind fval ftext.data.toList).length, 0⟩ := by
    have hk : kind = 0 ∨ kind = 1 ∨ kind = 2 ∨ kind = 5 := by omega
    have hvs : vsize (8 * num + kind) = (vput (8 * num + kind)).length := rfl
    rcases hk with rfl | rfl | rfl | rfl
    · have ht := empty_of (k5 (by decide))
      subst ht
      have e : wenc num 0 fval emptyT.data.toList = vput (8 * num + 0) ++ (vput fval ++ []) := by unfold wenc; simp
      rw [e, hvs, wval_e0, vget_at _ _ hval]
      simp [vsize]
    · have ht := empty_of (k5 (by decide))
      subst ht
      have e : wenc num 1 fval emptyT.data.toList = vput (8 * num + 1) ++ le 8 fval := by unfold wenc; simp
      rw [e, hvs, wval_e1, fget_at 8 fval _ (by simpa using hval)]
      simp [le_length]
    · have hv0 := k4 rfl
      subst hv0
      have e : wenc num 2 0 ftext.data.toList = vput (8 * num + 2) ++ (vput ftext.data.toList.length ++ ftext.data.toList) := by unfold wenc; simp
      have hl : ftext.data.toList.length < 18446744073709551616 := by rw [e] at hlen; simp at hlen ⊢; omega
      rw [e, hvs, wval_e2, vget_at _ _ hl]
      simp only [if_true]
      rw [if_neg (by simp [vsize]; omega)]
      have hdr : (vput (8 * num + 2) ++ (vput ftext.data.toList.length ++ ftext.data.toList)).drop ((vput (8 * num + 2)).length + vsize ftext.data.toList.length) = ftext.data.toList := by
        rw [← List.append_assoc, show (vput (8 * num + 2)).length + vsize ftext.data.toList.length = (vput (8 * num + 2) ++ vput ftext.data.toList.length).length by simp [vsize]]
        simp
      rw [hdr, List.take_of_length_le (Nat.le_refl _)]
      simp [vsize, Nat.add_assoc]
    · have ht := empty_of (k5 (by decide))
      subst ht
      have e : wenc num 5 fval emptyT.data.toList = vput (8 * num + 5) ++ le 4 fval := by unfold wenc; simp
      have h4 := k3 rfl
      rw [e, hvs, wval_e5, fget_at 4 fval _ (by simpa using h4)]
      simp [le_length]
  have hg : vget (wenc num kind fval ftext.data.toList) ((0 : Nat) : Int) = (8 * num + kind, vsize (8 * num + kind), 0) := by
    unfold wenc
    exact vget_at0 _ hT
  have hn : wnext (wenc num kind fval ftext.data.toList) ⟨0, [], []⟩ = (0, ⟨(wenc num kind fval ftext.data.toList).length, [], [⟨num, kind, fval, ftext⟩]⟩) := by
    unfold wnext
    simp only [hg, if_true, hd, hm, hv]
    rw [if_neg (by omega), if_neg (by omega), if_neg (by omega)]
    simp
  have hpos : 0 < (wenc num kind fval ftext.data.toList).length := by
    have : vsize (8 * num + kind) ≤ (wenc num kind fval ftext.data.toList).length := by unfold wenc; simp [vsize]
    omega
  unfold wof
  rw [if_neg (by omega)]
  obtain ⟨L, hL⟩ : ∃ L, (wenc num kind fval ftext.data.toList).length = L + 1 := ⟨(wenc num kind fval ftext.data.toList).length - 1, by omega⟩
  have hrun : ∀ g, wrun (wenc num kind fval ftext.data.toList) (g + 1) ⟨0, [], []⟩ = ([⟨num, kind, fval, ftext⟩], 0) := by
    intro g
    rw [wrun, if_pos hpos, hn, if_pos rfl, wrun_end2 (Nat.lt_irrefl _)]
    rfl
  have := hrun L
  rw [← hL] at this
  exact this
/-- what was put is read again -/
theorem wof_wencs : ∀ (l : List Fld), werrs l = 0 → (∀ f ∈ l, FldOk f) → l.length ≤ 256 → (wencs l).length ≤ 4096 → wof (wencs l) = (l, 0) := by
  intro l
  induction l with
  | nil => intro _ _ _ _; rfl
  | cons f l ih =>
    intro h hw hn hlen
    have hf := werrs_mem h
    have h2 : werrs l = 0 := by rw [werrs, if_pos (hf f (by simp))] at h; exact h
    have e : wencs (f :: l) = wencF f ++ wencs l := by simp [wencs]
    rw [e] at hlen ⊢
    rw [List.length_append] at hlen
    simp only [List.length_cons] at hn
    have := wof_app (wof_one (hf f (by simp)) (hw f (by simp)) (by omega)) (ih h2 (fun g hg => hw g (by simp [hg])) (by omega) (by omega)) hlen (by simp; omega)
    simpa using this
end Go.Proofs.YtanfnjlndckhkaaDoor
