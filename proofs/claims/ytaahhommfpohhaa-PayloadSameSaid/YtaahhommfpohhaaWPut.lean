/- WALK: wire.put -/
import Derived.Test.YtaahhommfpohhaaWireW
import Derived.Test.YtaahhommfpohhaaAppB
import Derived.Test.YtaahhommfpohhaaPut
import Derived.Test.YtaahhommfpohhaaLay
import Derived.Laws.BitsAllLaws
import Derived.RangeFuncRecord
import Derived.Lib.AppendStr
namespace Go.Proofs.Ytaahhommfpohhaa
open Go.RowKit Plain

def wenc (num kind : Nat) (val : Nat) (text : List UInt8) : List UInt8 :=
  vput (8 * num + kind) ++ (if kind = 0 then vput val else if kind = 1 then le 8 val else if kind = 5 then le 4 val else vput text.length ++ text)

theorem tag_or {num kind : Nat} (hnum : num < 536870912) (hkind : kind < 8) : bits BinOp.or IntKind.u64 ((num : Int) * 8) (kind : Int) = ((8 * num + kind : Nat) : Int) := by
  rw [show ((num : Int) * 8) = ((num * 8 : Nat) : Int) by omega, u64_or_nat _ _ (by omega) (by omega), nat_join 3 _ _ (by omega) (by omega)]
  congr 1
  omega
/-- block B is the box of a field -/
def BoxF (W : World) (B : Nat) (num kind : Int) (val : Nat) (text : ByteArray) : Prop := W.heap[B]? = some (.cells #[.int .i64 num, .int .i64 kind, .int .u64 val, .string text] 65 (0, 0))
theorem BoxF.new (W : World) (num kind : Int) (val : Nat) (text : ByteArray) : BoxF (W.alloc (Obj.cells #[Value.int IntKind.i64 num, Value.int IntKind.i64 kind, Value.int IntKind.u64 val, Value.string text] 65)) W.heap.size num kind val text := World.alloc_heap_new W _
theorem BoxF.lt {W : World} {B : Nat} {num kind : Int} {val : Nat} {text : ByteArray} (h : BoxF W B num kind val text) : B < W.heap.size := (Array.getElem?_eq_some_iff.1 h).1
theorem BoxF.below {W W' : World} {B C : Nat} {num kind : Int} {val : Nat} {text : ByteArray} (h : BoxF W B num kind val text) (hb : Below C W W') (hC : B < C) : BoxF W' B num kind val text := (hb.block B hC).trans h
theorem BoxF.row {W W' : World} {B : Nat} {num kind : Int} {val : Nat} {text : ByteArray} (h : BoxF W B num kind val text) {base n c : Nat} {A : Option Addr} {xs : List Value}
    (hr : W.ownsRow base 5 1 (.slice A n c) n xs) (hg : W.grownBy W' (Value.slice A n c).ownBlock) : BoxF W' B num kind val text := by
  refine (hg.block B h.lt ?_).trans h
  rcases hr.2 with ⟨hv, _⟩ | ⟨g, cap, cur, hv, _, hgb, _⟩
  · rw [hv]; simp [Value.ownBlock]
  · rw [hv]
    intro e'
    obtain rfl : B = g := by simpa [Value.ownBlock] using e'
    have := (show W.heap[B]? = _ from h).symm.trans hgb
    simp at this
theorem BoxF.cells {W : World} {B : Nat} {num kind : Int} {val : Nat} {text : ByteArray} (h : BoxF W B num kind val text) :
    W.cell? ⟨B, 0, none⟩ = some (.int .i64 num) ∧ W.cell? ⟨B, 1, none⟩ = some (.int .i64 kind) ∧ W.cell? ⟨B, 2, none⟩ = some (.int .u64 val) ∧ W.cell? ⟨B, 3, none⟩ = some (.string text) := by
  refine ⟨?_, ?_, ?_, ?_⟩ <;> simp [World.cell?, show W.heap[B]? = _ from h]
theorem hStr : Program.underlying Try.prog 9 = some .string := by kernel_rfl
section
variable {w : World} {ops : Array Oper} {rest : List Oper} {o : Oper} {a : Act} {Q : Exit → Act → World → Prop}
/-- append of a string's bytes onto a row of the call's own -/
theorem wpList_appS (hgd : o.guard = none) (s x : Operand)
    (ho : o.op = .call { callee := .builtin .append, args := #[s, x], argTypes := #[32, 9] })
    {base n c : Nat} {A : Option Addr} {l : List UInt8} (hs : a.eval s = .slice A n c)
    (hown : w.ownsRow base 5 1 (.slice A n c) n (bcl l)) {t : ByteArray} (hx : a.eval x = .string t)
    (N : Nat) (hN : n + t.size = N) (hbd : N ≤ 140737488355328) (hbase : base ≤ w.heap.size)
    (h : ∀ A' c' w', w'.ownsRow base 5 1 (.slice A' N c') N (bcl (l ++ t.data.toList)) → w.grownBy w' (Value.slice A n c).ownBlock → wpList Try.prog ops Q rest (a.put o.dst (.slice A' N c')) w') :
    wpList Try.prog ops Q (o :: rest) a w := by
  subst hN
  obtain ⟨i0, hi, hz0, hz1, hz2⟩ := elemB.info
  have hm : n + t.size ≤ maxLen := by unfold maxLen; omega
  refine Go.Lib.wpList_append_own_string w hgd s x _ _ ho base 5 i0 elemB.ht hStr hi hz0 hz1 hz2 _ n _ hs hown t hx hm hbd hbase fun v' w' h1 h2 _ => ?_
  obtain ⟨A', c', rfl⟩ := own_form h1
  refine h A' c' w' ?_ h2
  rw [show bcl (l ++ t.data.toList) = bcl l ++ Go.Lib.strCells t by simp [bcl, Go.Lib.strCells]]
  exact h1
end
theorem wput_end {w w0 : World} {base N c : Nat} {A : Option Addr} {L L2 : List UInt8} (h : w.ownsRow base 5 1 (.slice A N c) N (bcl L)) (hL : L2 = L) (hN : N = L.length) (hB : Below base w0 w) :
    ∃ A' c', Ending.returned (.slice A N c) = .returned (.slice A' L2.length c') ∧ w.ownsRow base 5 1 (.slice A' L2.length c') L2.length (bcl L2) ∧ Below base w0 w := by
  subst hL hN
  exact ⟨A, c, rfl, h, hB⟩
set_option maxHeartbeats 1000000 in
theorem wput_any (num kind : Nat) (val : Nat) (text : ByteArray) (A : Option Addr) (c : Nat) (lo : List UInt8) (hnum : num < 536870912) (hkind : kind = 0 ∨ kind = 1 ∨ kind = 2 ∨ kind = 5) (hv : val < 18446744073709551616) (h5 : kind = 5 → val < 4294967296) (w0 w : World) (base : Nat) (hB0 : Below base w0 w) (hbw : base ≤ w0.heap.size) (hown : w.ownsRow base 5 1 (.slice A lo.length c) lo.length (bcl lo)) (hlen : lo.length + text.size ≤ 1048576) :
    Calls Try.prog 55 #[.slice A lo.length c, .agg #[.int .i64 num, .int .i64 kind, .int .u64 val, .string text]] w fun e w' => ∃ A' c', e = .returned (.slice A' (lo ++ wenc num kind val text.data.toList).length c') ∧
      w'.ownsRow base 5 1 (.slice A' (lo ++ wenc num kind val text.data.toList).length c') (lo ++ wenc num kind val text.data.toList).length (bcl (lo ++ wenc num kind val text.data.toList)) ∧ Below base w0 w' := by
  obtain ⟨T, hT, htag⟩ : ∃ T : Nat, 8 * num + kind = T ∧ bits BinOp.or IntKind.u64 ((num : Int) * 8) (kind : Int) = (T : Int) := ⟨_, rfl, tag_or hnum (by omega)⟩
  have HT := Lib.hid hT
  have hT64 : T < 18446744073709551616 := by omega
  clear hT
  have hB1 := hB0.alloc (by have := hB0.size; omega) (Obj.cells #[Value.int IntKind.i64 num, Value.int IntKind.i64 kind, Value.int IntKind.u64 val, Value.string text] 65)
  have hown1 := hown.alloc (Obj.cells #[Value.int IntKind.i64 num, Value.int IntKind.i64 kind, Value.int IntKind.u64 val, Value.string text] 65)
  have hbd := vsize_bd T
  go_enter Try.func55, Try.ntmps55
  go_wp2_with fail
  refine (put_any T hT64 _).mono ?_
  rintro e w1 ⟨A1, c1, rfl, ho1, hB2⟩
  have hF := (BoxF.new w (num : Int) (kind : Int) val text).below hB2 (by simp)
  have hbw2 : base ≤ w.heap.size := by have := hB0.size; omega
  have hown2 := own_kept hown1 hB2 (by simp)
  have hB3 := hB1.trans (hB2.mono (by simp; omega))
  have hr1 := Rd.of_own ho1
  have hbw3 := hB3.size
  clear hown1 hown ho1 hB1 hB2 hB0
  go_wp2_with (at_builtin; go_loud (refine wpList_appB rfl (.tmp 5) (.tmp 14) rfl rfl hown2 rfl hr1 rfl (lo.length + vsize T) rfl (by omega) (by omega) ?_); intro A3 c3 w3 ho3 hg3; have hF3 := hF.row hown2 hg3; have hB4 := own_grown hB3 hown2 (by omega) hg3; obtain ⟨d0, d1, d2, d3⟩ := hF3.cells; clear hg3 hown2 hr1 hB3 hF)
  all_goals have hvs := vsize_bd val
  · have hk0 : kind = 0 := by have := eq_of_beq (by assumption : ((kind : Int) == 0) = true); omega
    refine (put_any val hv _).mono ?_
    rintro e w4 ⟨A4, c4, rfl, ho4, hB5⟩
    have hbw4 := hB4.size
    have ho3' := own_kept ho3 hB5 (by omega)
    have hr4 := Rd.of_own ho4
    have hB6 := hB4.trans (hB5.mono (by omega))
    have hbw6 := hB6.size
    clear ho3 ho4 hB4 hB5
    go_wp2_with (at_builtin; refine wpList_appB rfl _ _ rfl rfl ho3' rfl hr4 rfl (lo.length + vsize T + vsize val) rfl (by omega) (by omega) ?_; intro A5 c5 w5 ho5 hg5)
    go_ret
    exact wput_end ho5 (by unfold wenc; rw [if_pos hk0, HT.out, List.append_assoc]) (by simp [vsize]; omega) (own_grown hB6 ho3' (by omega) hg5)
  · have hk1 : kind = 1 := by have := eq_of_beq (by assumption : ((kind : Int) == 1) = true); omega
    refine (put8_any val hv _).mono ?_
    rintro e w4 ⟨A4, c4, rfl, ho4, hB5⟩
    have hbw4 := hB4.size
    have ho3' := own_kept ho3 hB5 (by omega)
    have hr4 := Rd.of_own ho4
    have hB6 := hB4.trans (hB5.mono (by omega))
    have hbw6 := hB6.size
    clear ho3 ho4 hB4 hB5
    go_wp2_with (at_builtin; refine wpList_appB rfl _ _ rfl rfl ho3' rfl hr4 (le_length _ _) (lo.length + vsize T + 8) rfl (by omega) (by omega) ?_; intro A5 c5 w5 ho5 hg5)
    go_ret
    exact wput_end ho5 (by unfold wenc; rw [if_neg (by omega), if_pos hk1, HT.out, List.append_assoc]) (by simp [vsize, le_length]; omega) (own_grown hB6 ho3' (by omega) hg5)
  · have hk5 : kind = 5 := by have := eq_of_beq (by assumption : ((kind : Int) == 5) = true); omega
    have hv4 := h5 hk5
    clear h5
    have hv5 : ((val : Int) % 4294967296) = (val : Int) := Int.emod_eq_of_lt (by omega) (by omega)
    rw [hv5]
    refine (put4_any val hv4 _).mono ?_
    rintro e w4 ⟨A4, c4, rfl, ho4, hB5⟩
    have hbw4 := hB4.size
    have ho3' := own_kept ho3 hB5 (by omega)
    have hr4 := Rd.of_own ho4
    have hB6 := hB4.trans (hB5.mono (by omega))
    have hbw6 := hB6.size
    clear ho3 ho4 hB4 hB5 hv5 hv4
    go_wp2_with (at_builtin; refine wpList_appB rfl _ _ rfl rfl ho3' rfl hr4 (le_length _ _) (lo.length + vsize T + 4) rfl (by omega) (by omega) ?_; intro A5 c5 w5 ho5 hg5)
    go_ret
    exact wput_end ho5 (by unfold wenc; rw [if_neg (by omega), if_neg (by omega), if_pos hk5, HT.out, List.append_assoc]) (by simp [vsize, le_length]; omega) (own_grown hB6 ho3' (by omega) hg5)
  · have hk2 : kind = 2 := by
      have a0 : ¬ (kind : Int) = 0 := by simpa using (by assumption : ((kind : Int) == 0) = false)
      have a1 : ¬ (kind : Int) = 1 := by simpa using (by assumption : ((kind : Int) == 1) = false)
      have a5 : ¬ (kind : Int) = 5 := by simpa using (by assumption : ((kind : Int) == 5) = false)
      omega
    clear h5
    refine (put_any text.size (by omega) _).mono ?_
    rintro e w4 ⟨A4, c4, rfl, ho4, hB5⟩
    have hbw4 := hB4.size
    have ho3' := own_kept ho3 hB5 (by omega)
    have hr4 := Rd.of_own ho4
    have hB6 := hB4.trans (hB5.mono (by omega))
    have hbw6 := hB6.size
    have hF4 := hF3.below hB5 hF3.lt
    clear ho3 ho4 hB4 hB5
    have hts := vsize_bd text.size
    clear d0 d1 d2 d3 hF3
    go_wp2_with (at_builtin; first
      | (refine wpList_appB rfl _ _ rfl rfl ho3' rfl hr4 rfl (lo.length + vsize T + vsize text.size) rfl (by omega) (by omega) ?_; intro A5 c5 w5 ho5 hg5; have hF5 := hF4.row ho3' hg5; have hB7 := own_grown hB6 ho3' (by omega) hg5; have hbw7 := hB7.size; obtain ⟨_, _, _, e3⟩ := hF5.cells; clear hg5 hF5 hF4 ho3' hB6 hr4)
      | (refine wpList_appS rfl _ _ rfl rfl ho5 rfl (lo.length + vsize T + vsize text.size + text.size) rfl (by omega) (by omega) ?_; intro A6 c6 w6 ho6 hg6))
    go_ret
    exact wput_end ho6 (by unfold wenc; rw [if_neg (by omega), if_neg (by omega), if_neg (by omega), HT.out]; simp) (by simp [vsize]; omega) (own_grown hB7 ho5 (by omega) hg6)
end Go.Proofs.Ytaahhommfpohhaa
