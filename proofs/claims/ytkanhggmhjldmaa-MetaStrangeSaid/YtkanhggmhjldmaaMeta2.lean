/- Several texts in one: words, plain laws and walks that the statement's proof imports. -/
import Derived.Test.YtkanhggmhjldmaaMeta1
import Derived.Laws.EntriesVeiled
import Derived.RangeFuncCalls
import Derived.RangeFuncRecord
import Derived.BigQuiet
import Derived.Deep.QuietTactic
import Derived.OrdersHeld
import Derived.RegionTactic
import Derived.Great.BuildSlice
import Derived.LoopTactic
import Derived.StillTailTactics
/- WALKS: the reference of layer 2: put, get and what is over them. -/
namespace Go.Proofs.Ytkanhggmhjldmaa
open Go.RowKit Plain

theorem leTo_snoc (k n : Nat) : le (k + 1) n = le k n ++ [leB n k] := by simp [le, List.range_succ]

set_option maxHeartbeats 400000 in
theorem rput_any (n k : Nat) (hn : n < 18446744073709551616) (hk : k ≤ 8) (w : World) :
    Calls Try.prog 69 #[.int .u64 n, .int .i64 k] w fun e w' => ∃ A c, e = .returned (.slice A k c) ∧
      w'.ownsRow w.heap.size 5 1 (.slice A k c) k (bcl (le k n)) ∧ Below w.heap.size w w' := by
  go_enter Try.func69, Try.ntmps69
  go_wp2
  go_loopw [5, 6, 7] (fun v x i wr => ∃ (j : Nat) (A : Option Addr) (c : Nat), i = .int .i64 j ∧ j ≤ k ∧ x = .int .u64 (n / 256 ^ j : Nat) ∧ v = .slice A j c ∧
      wr.ownsRow w.heap.size 5 1 (.slice A j c) j (bcl (le j n)) ∧ Below w.heap.size w wr) (fun _ _ i _ => k - (intOf i).toNat)
  case atStart => exact ⟨0, none, 0, rfl, by omega, by simp, rfl, World.ownsRow_nil _ _ _ _, Below.refl _ _⟩
  case round =>
    obtain ⟨j, A, c, rfl, hj, rfl, rfl, hx, hB⟩ := hrel
    have hb0 := hB.size
    have hq : n / 256 ^ j < 18446744073709551616 := Nat.lt_of_le_of_lt (Nat.div_le_self _ _) hn
    have hq2 : n / 256 ^ (j + 1) = n / 256 ^ j / 256 := by rw [Nat.pow_succ, Nat.div_div_eq_div_mul]
    have hq3 : (leB n j).toNat = n / 256 ^ j % 256 := by simp [leB]
    have HQ := Lib.hid hq2
    have HQ3 := Lib.hid hq3
    clear hq2 hq3
    generalize hm : n / 256 ^ j = m at *
    have HM := Lib.hid hm
    clear hm
    by_cases hlt : j < k
    · go_wp2_with (at_builtin; refine wpList_app1 rfl _ _ _ rfl elemB rfl hx rfl rfl (by intro u hu; simp at hu; subst hu; rfl) (by unfold maxLen; omega) (by omega) hb0 ?_; intro A1 c1 w2 hown2 hg2 _)
      go_roundw
      case rel =>
        refine ⟨j + 1, A1, c1, by go_num, hlt, by rw [HQ.out]; go_num, rfl, ?_, own_grown hB hx hb0 hg2⟩
        rw [leTo_snoc, byte_app]
        have e : bcl [leB n j] = [.int .u8 ((m : Int) % 256)] := by simp [bcl, HQ3.out]
        rw [e]
        simpa using hown2
      case measure => simp [intOf]; omega
    · obtain rfl : j = k := by omega
      go_wp2
      go_ret
      exact ⟨A, c, rfl, hx, hB⟩

theorem un_down {l : List UInt8} {q i k : Nat} (hi : i < k) (h : q + k ≤ l.length) :
    un ((l.drop (q + i)).take (k - i)) = 256 * un ((l.drop (q + (i + 1))).take (k - (i + 1))) + (l[q + i]'(by omega)).toNat := by
  rw [List.drop_eq_getElem_cons (show q + i < l.length by omega), show k - i = (k - (i + 1)) + 1 by omega, List.take_succ_cons, un]
  rw [Nat.add_comm, Nat.add_assoc]
theorem un_take_lt (l : List UInt8) (q k : Nat) (hk : k ≤ 7) : un ((l.drop q).take k) < 72057594037927936 := by
  have h := un_lt ((l.drop q).take k)
  have h2 : 256 ^ ((l.drop q).take k).length ≤ 256 ^ 7 := Nat.pow_le_pow_right (by omega) (by simp; omega)
  omega
theorem un_take_lt8 (l : List UInt8) (q k : Nat) (hk : k ≤ 8) : un ((l.drop q).take k) < 18446744073709551616 := by
  have h := un_lt ((l.drop q).take k)
  have h2 : 256 ^ ((l.drop q).take k).length ≤ 256 ^ 8 := Nat.pow_le_pow_right (by omega) (by simp; omega)
  omega

set_option maxHeartbeats 400000 in
theorem rget_any (A : Option Addr) (n c : Nat) (l : List UInt8) (hn : l.length = n) (hc : l.length ≤ 9223372036854775807) (p : Int) (k : Nat) (hk : k ≤ 8) (hk0 : 0 < k) (B : Nat) (w : World) (hr : Rd w B A (bcl l)) :
    Calls Try.prog 73 #[.slice A n c, .int .i64 p, .int .i64 k] w fun e w' =>
      e = .returned (.tuple #[.int .u64 (fget k l p).1, .int .i64 (fget k l p).2.1, .int .i64 (fget k l p).2.2]) ∧ w = w' := by
  subst hn
  by_cases h0 : p < 0 ∨ (l.length : Int) < p
  · rw [fget_arg _ _ _ h0]
    by_cases h1 : p < 0
    · go_enter Try.func73, Try.ntmps73
      go_wp2
      go_ret3
      exact ⟨rfl, rfl⟩
    · have h2 : (l.length : Int) < p := by omega
      clear h0
      go_enter Try.func73, Try.ntmps73
      go_wp2
      go_ret3
      exact ⟨rfl, rfl⟩
  · obtain ⟨q, rfl⟩ : ∃ q : Nat, p = q := ⟨p.toNat, by omega⟩
    have h1 : q ≤ l.length := by omega
    clear h0
    by_cases h2 : l.length < q + k
    · rw [fget_short _ _ _ h1 h2]
      go_enter Try.func73, Try.ntmps73
      go_wp2
      go_ret3
      exact ⟨rfl, rfl⟩
    · rw [fget_ok _ _ _ (by omega)]
      obtain ⟨b, off, rfl, hb, hcell⟩ := hr.some_ (by simp [bcl]; omega)
      clear hr
      have HC := Lib.hid hcell
      clear hcell
      go_enter Try.func73, Try.ntmps73
      go_wp2
      go_loop [9, 10] (fun v x => ∃ j : Nat, x = .int .i64 ((j : Int) - 1) ∧ j ≤ k ∧ v = .int .u64 (un ((l.drop (q + j)).take (k - j)) : Nat)) (fun _ x => (intOf x + 1).toNat)
      case atStart => exact ⟨k, rfl, by omega, by simp [un]⟩
      case round =>
        obtain ⟨j, rfl, hj, rfl⟩ := hrel
        by_cases hj0 : j = 0
        · subst hj0
          go_wp2
          go_ret3
          exact ⟨rfl, rfl⟩
        · obtain ⟨i, rfl⟩ : ∃ i, j = i + 1 := ⟨j - 1, by omega⟩
          rw [show (((i + 1 : Nat) : Int) - 1) = (i : Int) by omega]
          have hcj := HC.out (q + i) (by simp [bcl]; omega)
          rw [bcl_get (show q + i < l.length by omega)] at hcj
          have hv := un_take_lt l (q + (i + 1)) (k - (i + 1)) (by omega)
          have HU := Lib.hid (un_down (l := l) (q := q) (i := i) (k := k) (by omega) (by omega))
          have hlt := (l[q + i]'(by omega)).toNat_lt
          generalize un ((l.drop (q + (i + 1))).take (k - (i + 1))) = v at *
          generalize (l[q + i]'(by omega)).toNat = x at *
          go_wp2
          go_round
          case rel => exact ⟨i, by go_num, by omega, by rw [HU.out]; go_num⟩
          case measure => simp [intOf]

theorem fget_lt (l : List UInt8) (p : Int) : (fget 4 l p).1 < 4294967296 := by
  unfold fget
  split
  · simp
  · split
    · simp
    · have h := un_lt ((l.drop p.toNat).take 4)
      have h2 : 256 ^ ((l.drop p.toNat).take 4).length ≤ 256 ^ 4 := Nat.pow_le_pow_right (by omega) (by simp; omega)
      simp only
      omega
theorem rget4_any (A : Option Addr) (n c : Nat) (l : List UInt8) (hn : l.length = n) (hc : l.length ≤ 9223372036854775807) (p : Int) (B : Nat) (w : World) (hr : Rd w B A (bcl l)) :
    Calls Try.prog 59 #[.slice A n c, .int .i64 p] w fun e w' =>
      e = .returned (.tuple #[.int .u32 (fget 4 l p).1, .int .i64 (fget 4 l p).2.1, .int .i64 (fget 4 l p).2.2]) ∧ w = w' := by
  have hb := fget_lt l p
  go_enter Try.func59, Try.ntmps59
  go_wp2_with fail
  refine (rget_any A n c l hn hc p 4 (by omega) (by omega) B _ hr).mono ?_
  rintro e w1 ⟨rfl, rfl⟩
  go_wp2
  go_ret3
  exact ⟨rfl, rfl⟩
theorem rget8_any (A : Option Addr) (n c : Nat) (l : List UInt8) (hn : l.length = n) (hc : l.length ≤ 9223372036854775807) (p : Int) (B : Nat) (w : World) (hr : Rd w B A (bcl l)) :
    Calls Try.prog 58 #[.slice A n c, .int .i64 p] w fun e w' =>
      e = .returned (.tuple #[.int .u64 (fget 8 l p).1, .int .i64 (fget 8 l p).2.1, .int .i64 (fget 8 l p).2.2]) ∧ w = w' := by
  go_enter Try.func58, Try.ntmps58
  go_wp2_with fail
  refine (rget_any A n c l hn hc p 8 (by omega) (by omega) B _ hr).mono ?_
  rintro e w1 ⟨rfl, rfl⟩
  go_wp2
  go_ret3
  exact ⟨rfl, rfl⟩
theorem rput4_any (n : Nat) (hn : n < 4294967296) (w : World) :
    Calls Try.prog 53 #[.int .u32 n] w fun e w' => ∃ A c, e = .returned (.slice A 4 c) ∧
      w'.ownsRow w.heap.size 5 1 (.slice A 4 c) 4 (bcl (le 4 n)) ∧ Below w.heap.size w w' := by
  go_enter Try.func53, Try.ntmps53
  go_wp2_with fail
  refine (rput_any n 4 (by omega) (by omega) _).mono ?_
  rintro e w1 ⟨A, c, rfl, hown, hB⟩
  go_wp2
  go_ret
  exact ⟨A, c, rfl, hown, hB⟩
theorem rput8_any (n : Nat) (hn : n < 18446744073709551616) (w : World) :
    Calls Try.prog 52 #[.int .u64 n] w fun e w' => ∃ A c, e = .returned (.slice A 8 c) ∧
      w'.ownsRow w.heap.size 5 1 (.slice A 8 c) 8 (bcl (le 8 n)) ∧ Below w.heap.size w w' := by
  go_enter Try.func52, Try.ntmps52
  go_wp2_with fail
  refine (rput_any n 8 hn (by omega) _).mono ?_
  rintro e w1 ⟨A, c, rfl, hown, hB⟩
  go_wp2
  go_ret
  exact ⟨A, c, rfl, hown, hB⟩

end Go.Proofs.Ytkanhggmhjldmaa

/- WALK: the reference's wrong of layer 3. -/
namespace Go.Proofs.Ytkanhggmhjldmaa
open Go.RowKit Plain

set_option maxRecDepth 100000 in
set_option maxHeartbeats 1000000 in
theorem rwrong_any (num kind : Int) (val : Nat) (text : ByteArray) (w : World) :
    Calls Try.prog 37 #[.agg #[.int .i64 num, .int .i64 kind, .int .u64 val, .string text]] w fun e w' => e = .returned (.int .i64 (wwrong num kind val text.toList.isEmpty)) ∧ Below w.heap.size w w' := by
  obtain ⟨V, hV⟩ : ∃ V, wwrong num kind val text.toList.isEmpty = V := ⟨_, rfl⟩
  rw [hV]
  have HV := Lib.hid hV
  clear hV
  cases hb1 : decide (536870912 ≤ num) <;> cases hb4 : decide (4294967296 ≤ (val : Int))
  all_goals go_enter Try.func37, Try.ntmps37
  all_goals go_wp2
  all_goals go_ret
  all_goals refine ⟨congrArg (fun z => Ending.returned (.int .i64 z)) ?_, (Below.refl _ _).alloc (Nat.le_refl _) _⟩
  all_goals rw [← HV.out]
  all_goals clear HV
  all_goals unfold wwrong
  all_goals simp only [decide_eq_true_eq, decide_eq_false_iff_not, Int.not_le] at hb1 hb4
  all_goals try simp only [bne_iff_ne, ne_eq, bne_eq_false_iff_eq] at *
  all_goals first | (simp [*]; done) | (simp [*] <;> (repeat' split) <;> omega)
end Go.Proofs.Ytkanhggmhjldmaa

/- WALK: the reference's one of layer 3. -/
namespace Go.Proofs.Ytkanhggmhjldmaa
open Go.RowKit Plain


set_option maxHeartbeats 1000000 in
theorem rone_any (num kind : Nat) (val : Nat) (text : ByteArray) (hnum : num < 536870912) (hkind : kind = 0 ∨ kind = 1 ∨ kind = 2 ∨ kind = 5) (hv : val < 18446744073709551616) (h5 : kind = 5 → val < 4294967296) (hlen : text.size ≤ 1048576) (w : World) :
    Calls Try.prog 38 #[.agg #[.int .i64 num, .int .i64 kind, .int .u64 val, .string text]] w fun e w' => ∃ A' c', e = .returned (.slice A' (wenc num kind val text.data.toList).length c') ∧
      w'.ownsRow w.heap.size 5 1 (.slice A' (wenc num kind val text.data.toList).length c') (wenc num kind val text.data.toList).length (bcl (wenc num kind val text.data.toList)) ∧ Below w.heap.size w w' := by
  obtain ⟨T, hT⟩ : ∃ T : Nat, 8 * num + kind = T := ⟨_, rfl⟩
  have htag : (num : Int) * 8 + kind = T := by omega
  have HT := Lib.hid hT
  have hT64 : T < 18446744073709551616 := by omega
  clear hT
  have hB1 := (Below.refl w.heap.size w).alloc (Nat.le_refl _) (Obj.cells #[Value.int IntKind.i64 num, Value.int IntKind.i64 kind, Value.int IntKind.u64 val, Value.string text] 49)
  have hbd := vsize_bd T
  go_enter Try.func38, Try.ntmps38
  go_wp2_with fail
  refine (rvput_any T hT64 _).mono ?_
  rintro e w1 ⟨A1, c1, rfl, ho1, hB2⟩
  have hF := (BoxF.new w (num : Int) (kind : Int) val text).below hB2 (by simp)
  have hown2 := own_base ho1 (show w.heap.size ≤ _ by simp)
  have hB3 := hB1.trans (hB2.mono (by simp))
  have hbw3 := hB3.size
  obtain ⟨d0, d1, d2, d3⟩ := hF.cells
  clear ho1 hB2 hB1
  go_wp2_with fail
  all_goals have hvs := vsize_bd val
  · have hk1 : kind = 1 := by have := eq_of_beq (by assumption : ((kind : Int) == 1) = true); omega
    refine (rput8_any val hv _).mono ?_
    rintro e w4 ⟨A4, c4, rfl, ho4, hB5⟩
    have hbw4 := hB5.size
    have ho3' := own_kept hown2 hB5 (by omega)
    have hr4 := Rd.of_own ho4
    have hB6 := hB3.trans (hB5.mono (by omega))
    clear hown2 ho4 hB3 hB5
    go_wp2_with (at_builtin; refine wpList_appB rfl _ _ rfl rfl ho3' rfl hr4 (le_length _ _) (vsize T + 8) rfl (by omega) (by omega) ?_; intro A5 c5 w5 ho5 hg5)
    go_ret
    exact wput_end ho5 (by unfold wenc; rw [if_neg (by omega), if_pos hk1, HT.out]) (by simp [vsize, le_length]) (own_grown hB6 ho3' (by omega) hg5)
  · have hk5 : kind = 5 := by have := eq_of_beq (by assumption : ((kind : Int) == 5) = true); omega
    have hv4 := h5 hk5
    have hv5 : ((val : Int) % 4294967296) = (val : Int) := Int.emod_eq_of_lt (by omega) (by omega)
    rw [hv5]
    refine (rput4_any val hv4 _).mono ?_
    rintro e w4 ⟨A4, c4, rfl, ho4, hB5⟩
    have hbw4 := hB5.size
    have ho3' := own_kept hown2 hB5 (by omega)
    have hr4 := Rd.of_own ho4
    have hB6 := hB3.trans (hB5.mono (by omega))
    clear hown2 ho4 hB3 hB5 hv4 hv5 h5
    go_wp2_with (at_builtin; refine wpList_appB rfl _ _ rfl rfl ho3' rfl hr4 (le_length _ _) (vsize T + 4) rfl (by omega) (by omega) ?_; intro A5 c5 w5 ho5 hg5)
    go_ret
    exact wput_end ho5 (by unfold wenc; rw [if_neg (by omega), if_neg (by omega), if_pos hk5, HT.out]) (by simp [vsize, le_length]) (own_grown hB6 ho3' (by omega) hg5)
  · have hk2 : kind = 2 := by have := eq_of_beq (by assumption : ((kind : Int) == 2) = true); omega
    clear h5
    refine (rvput_any text.size (by omega) _).mono ?_
    rintro e w4 ⟨A4, c4, rfl, ho4, hB5⟩
    have hbw4 := hB5.size
    have ho3' := own_kept hown2 hB5 (by omega)
    have hr4 := Rd.of_own ho4
    have hB6 := hB3.trans (hB5.mono (by omega))
    have hF4 := hF.below hB5 hF.lt
    have hts := vsize_bd text.size
    clear hown2 ho4 hB3 hB5 d0 d1 d2 d3 hF
    go_wp2_with (at_builtin; first
      | (refine wpList_appB rfl _ _ rfl rfl ho3' rfl hr4 rfl (vsize T + vsize text.size) rfl (by omega) (by omega) ?_; intro A5 c5 w5 ho5 hg5; have hF5 := hF4.row ho3' hg5; have hB7 := own_grown hB6 ho3' (by omega) hg5; have hbw7 := hB7.size; obtain ⟨_, _, _, e3⟩ := hF5.cells; clear hg5 hF5 hF4 ho3' hB6 hr4)
      | (refine wpList_appS rfl _ _ rfl rfl ho5 rfl (vsize T + vsize text.size + text.size) rfl (by omega) (by omega) ?_; intro A6 c6 w6 ho6 hg6))
    go_ret
    exact wput_end ho6 (by unfold wenc; rw [if_neg (by omega), if_neg (by omega), if_neg (by omega), HT.out]; simp) (by simp [vsize]; omega) (own_grown hB7 ho5 (by omega) hg6)
  · have hk0 : kind = 0 := by
      have a1 : ¬ (kind : Int) = 1 := by simpa using (by assumption : ((kind : Int) == 1) = false)
      have a2 : ¬ (kind : Int) = 2 := by simpa using (by assumption : ((kind : Int) == 2) = false)
      have a5 : ¬ (kind : Int) = 5 := by simpa using (by assumption : ((kind : Int) == 5) = false)
      omega
    refine (rvput_any val hv _).mono ?_
    rintro e w4 ⟨A4, c4, rfl, ho4, hB5⟩
    have hbw4 := hB5.size
    have ho3' := own_kept hown2 hB5 (by omega)
    have hr4 := Rd.of_own ho4
    have hB6 := hB3.trans (hB5.mono (by omega))
    clear hown2 ho4 hB3 hB5
    go_wp2_with (at_builtin; refine wpList_appB rfl _ _ rfl rfl ho3' rfl hr4 rfl (vsize T + vsize val) rfl (by omega) (by omega) ?_; intro A5 c5 w5 ho5 hg5)
    go_ret
    exact wput_end ho5 (by unfold wenc; rw [if_pos hk0, HT.out]) (by simp [vsize]) (own_grown hB6 ho3' (by omega) hg5)
end Go.Proofs.Ytkanhggmhjldmaa

/- WALK: the reference's Put of layer 3. -/
namespace Go.Proofs.Ytkanhggmhjldmaa
open Go.RowKit Plain

set_option maxHeartbeats 1000000 in
theorem rputs_any (l : List Fld) (A : Option Addr) (c : Nat) (hl : l.length ≤ 9223372036854775807) (hwf : ∀ f ∈ l, FldOk f) (w : World) (hr : Rd w w.heap.size A (flc l)) :
    Calls Try.prog 18 #[.slice A l.length c] w (PutsPost l w) := by
  have HR := Lib.hid hr
  have HWF := Lib.hid hwf
  clear hr hwf
  go_enter Try.func18, Try.ntmps18
  go_wp2_with fail
  go_loopw [4] (fun i wr => ∃ j : Nat, i = .int .i64 j ∧ j ≤ l.length ∧ werrs l = werrs (l.drop j) ∧ Below w.heap.size w wr) (fun i _ => l.length - (intOf i).toNat)
  case atStart => exact ⟨0, rfl, Nat.zero_le _, rfl, Below.refl _ _⟩
  case round =>
    obtain ⟨j, rfl, hj, he, hB⟩ := hrel
    have HE := Lib.hid he
    clear he
    by_cases hlt : j < l.length
    · obtain ⟨f, hf⟩ : ∃ f, l[j]? = some f := ⟨_, List.getElem?_eq_getElem hlt⟩
      obtain ⟨b1, o1, rfl, hb1, g0, g1, g2, g3⟩ := fld_at (HR.out.below hB (Nat.le_refl _)) hf
      have HD := Lib.hid (drop_cons hf)
      have hBA := hB
      by_cases h0 : werrF f = 0
      · have H0 := Lib.hid h0
        clear h0 hf
        go_wp2_with (go_at_call 37; refine (rwrong_any _ _ _ _ _).mono ?_; rintro e w1 ⟨rfl, hB1⟩; rw [show wwrong f.num f.kind f.val f.text.toList.isEmpty = 0 from H0.out]; replace hBA := bel_step hBA hB1)
        go_roundw
        case rel => exact ⟨j + 1, by go_num, by omega, by rw [HE.out, HD.out, werrs, if_pos H0.out], hBA⟩
        case measure => simp [intOf]; omega
      · obtain ⟨E, hE⟩ : ∃ E, werrF f = E := ⟨_, rfl⟩
        have h0b : (E != 0) = true := by rw [← hE]; simpa using h0
        have H0 := Lib.hid hE
        have HW : Hid (werrs l = E) := Lib.hid (by rw [HE.out, HD.out, werrs, if_neg h0, hE])
        have HN := Lib.hid h0
        clear h0 hf hE
        go_wp2_with (go_at_call 37; refine (rwrong_any _ _ _ _ _).mono ?_; rintro e w1 ⟨rfl, hB1⟩; rw [show wwrong f.num f.kind f.val f.text.toList.isEmpty = E from H0.out]; replace hBA := bel_step hBA hB1)
        go_ret2
        exact puts_err (by unfold wput; rw [if_neg (by rw [HW.out, ← H0.out]; exact HN.out), HW.out]) hBA
    · have hz : werrs l = 0 := by rw [HE.out, List.drop_eq_nil_of_le (by omega)]; rfl
      have HZ := Lib.hid hz
      clear hz HE
      have HB := Lib.hid hB
      by_cases hfull : 256 < l.length
      · have hb : decide ((256 : Int) < (l.length : Int)) = true := by simp; omega
        go_wp2_with fail
        go_ret2
        exact puts_err (by unfold wput; rw [if_pos HZ.out, if_pos hfull]) hB
      · go_wp2_with fail
        clear hB hlt hj
        have hB := HB.out
        go_loopw [6, 7] (fun o i wr => ∃ (j : Nat) (A2 : Option Addr) (c2 N : Nat), i = .int .i64 j ∧ o = .slice A2 N c2 ∧ j ≤ l.length ∧ N = (wencs (l.take j)).length ∧ N ≤ 4096 ∧ wr.ownsRow w.heap.size 5 1 (.slice A2 N c2) N (bcl (wencs (l.take j))) ∧ Below w.heap.size w wr) (fun _ i _ => l.length - (intOf i).toNat)
        case atStart => exact ⟨0, none, 0, 0, rfl, rfl, Nat.zero_le _, rfl, by omega, World.ownsRow_nil _ _ _ _, hB⟩
        case round =>
          clear hB HB
          obtain ⟨j, A2, c2, N, rfl, rfl, hj, hN, hN4, hown, hB⟩ := hrel
          have HNN := Lib.hid hN
          by_cases hlt : j < l.length
          · obtain ⟨f, hf⟩ : ∃ f, l[j]? = some f := ⟨_, List.getElem?_eq_getElem hlt⟩
            obtain ⟨b1, o1, rfl, hb1, g0, g1, g2, g3⟩ := fld_at (HR.out.below hB (Nat.le_refl _)) hf
            have HT := Lib.hid (wencs_take hf)
            obtain ⟨k0, k1, k2, k3, k4, k5⟩ := werrF_ok (werrs_mem HZ.out f (List.mem_of_getElem? hf))
            have hval := (HWF.out f (List.mem_of_getElem? hf)).2.2
            have hle := wencs_len l (j + 1)
            rw [wencs_take hf, List.length_append, ← hN] at hle
            clear hN hf
            obtain ⟨fnum, fkind, fval, ftext⟩ := f
            obtain ⟨num, rfl⟩ := Int.eq_ofNat_of_zero_le (show 0 ≤ fnum by simp at k0; omega)
            obtain ⟨kind, rfl⟩ := Int.eq_ofNat_of_zero_le (show 0 ≤ fkind by simp at k2; omega)
            have k1' : (num : Int) < 536870912 := k1
            have k2' : (kind : Int) = 0 ∨ (kind : Int) = 1 ∨ (kind : Int) = 2 ∨ (kind : Int) = 5 := k2
            have k3' : (kind : Int) = 5 → fval < 4294967296 := k3
            clear k1 k2 k3
            have HTW : Hid (wencF ⟨num, kind, fval, ftext⟩ = wenc num kind fval ftext.data.toList) := Lib.hid rfl
            have htx : ftext.size ≤ (wenc num kind fval ftext.data.toList).length := by
              by_cases hk2 : kind = 2
              · exact wenc_text _ _ _ _ hk2
              · have := k5 (by simp; omega)
                have e0 : ftext.size = 0 := size_empty this
                omega
            simp only [HTW.out] at hle
            clear k4 k5
            by_cases hlong : 4096 < ftext.size
            · have hlb : decide ((4096 : Int) < (ftext.size : Int)) = true := by simp; omega
              have HLO := Lib.hid hlong
              clear hlong
              go_wp2_with fail
              go_ret2
              exact puts_err (by unfold wput; rw [if_pos HZ.out, if_neg hfull, if_pos (by have := HLO.out; omega)]) hB
            · have HTX := Lib.hid htx
              have hlb : decide ((4096 : Int) < (ftext.size : Int)) = false := by simp; omega
              have HLO := Lib.hid hlong
              clear htx hlong
              go_wp2_with fail
              have hlong := HLO.out
              have htx := HTX.out
              refine (rone_any num kind fval ftext (by omega) (by omega) hval (fun h => k3' (by omega)) (by omega) _).mono ?_
              rintro e w1 ⟨A3, c3, rfl, ho3, hB3⟩
              have hown3 := own_kept hown hB3 (Nat.le_refl _)
              have hr3 := Rd.of_own ho3
              have hB4 := bel_step hB hB3
              have hM : N + (wenc num kind fval ftext.data.toList).length = (wencs (l.take (j + 1))).length := by rw [HT.out, HTW.out, List.length_append, ← HNN.out]
              have hwl : (wenc num kind fval ftext.data.toList).length ≤ 1048600 := wenc_len _ _ _ _ (by have := htx; simp; omega)
              obtain ⟨M, hM2⟩ : ∃ M, (wencs (l.take (j + 1))).length = M := ⟨_, rfl⟩
              have hbase := hB4.size
              have HM := Lib.hid hM2
              rw [hM2] at hM
              have hle2 := wencs_len l (j + 1)
              rw [hM2] at hle2
              have HMB : Hid (M ≤ 1060000) := Lib.hid (by omega)
              clear hown hB hB3 ho3 hwl k1' k2' k3' hval hle
              have HLE := Lib.hid hle2
              have HMM := Lib.hid hM
              clear hle2 hM HTX hlong htx HLO
              by_cases hfin : 4096 < M
              · have hb : decide ((4096 : Int) < (M : Int)) = true := by simp; omega
                have HF := Lib.hid hfin
                clear hfin hN4
                go_wp2_with (at_builtin; refine wpList_appB rfl _ _ rfl rfl hown3 rfl hr3 rfl M HMM.out (by have := HMB.out; omega) (by omega) ?_; intro A5 c5 w5 ho5 hg5)
                go_ret2
                exact puts_err (by unfold wput; rw [if_pos HZ.out, if_neg hfull, if_pos (by have := HF.out; have := HLE.out; omega)]) (own_grown hB4 hown3 (by omega) hg5)
              · have hb : decide ((4096 : Int) < (M : Int)) = false := by simp; omega
                have HF := Lib.hid hfin
                clear hfin hN4
                go_wp2_with (at_builtin; refine wpList_appB rfl _ _ rfl rfl hown3 rfl hr3 rfl M HMM.out (by have := HMB.out; omega) (by omega) ?_; intro A5 c5 w5 ho5 hg5)
                go_roundw
                case rel => exact ⟨j + 1, A5, c5, M, by go_num, rfl, by omega, HM.out.symm, by have := HF.out; omega, by rw [HT.out, HTW.out]; exact ho5, own_grown hB4 hown3 (by omega) hg5⟩
                case measure => simp [intOf]; omega
          · have e : l.take j = l := List.take_of_length_le (by omega)
            rw [e] at hown hN HNN
            subst hN
            go_wp2_with fail
            go_ret2
            have hw : wput l = (wencs l, 0) := by unfold wput; rw [if_pos HZ.out, if_neg hfull, if_neg (by omega)]
            exact ⟨A2, c2, by rw [hw]; rfl, by rw [hw]; exact hown, hB⟩
end Go.Proofs.Ytkanhggmhjldmaa

/- WALK: meta's parts. -/
namespace Go.Proofs.Ytkanhggmhjldmaa
open Go.RowKit Plain

theorem results_cell {fn : Func} {p : Tmp} {ty : TypeId} (h : fn.results = #[.cell p ty]) (tmps : Array Value) (P : Program) (w : World) :
    (results fn tmps).run P w = ((asAddr (tmps.getD p undef)).run P w).andThen fun a w₁ => (loadVar ty a).run P w₁ := by
  simp only [results, h]
  simp [Sem.run_bind]
/-- a part of a meta: its box holds the pointer to its place -/
structure Prt where
  num : Int
  kind : Int
  tell : Nat
  take : Nat
  box : Nat
def Prt.cells (p : Prt) : List Value := [.int .i64 p.num, .int .i64 p.kind, .func (.func p.tell) #[] #[.pointer (some ⟨p.box, 0, none⟩)], .func (.func p.take) #[] #[.pointer (some ⟨p.box, 0, none⟩)]]
def PrtPost (num kind : Int) (tell take : Nat) (p : Addr) (w : World) (e : Ending) (w' : World) : Prop :=
  e = .returned (.agg (Prt.cells ⟨num, kind, tell, take, w.heap.size⟩).toArray) ∧ w'.cell? ⟨w.heap.size, 0, none⟩ = some (.pointer (some p)) ∧ w'.heap.size = w.heap.size + 2 ∧ Below w.heap.size w w'
theorem text_any (num : Int) (p : Addr) (w : World) :
    Calls Try.prog 46 #[.int .i64 num, .pointer (some p)] w (PrtPost num 2 62 63 p w) := by
  go_enter Try.func46, Try.ntmps46
  go_wp2
  refine bodyPost_ret (v := .agg (Prt.cells ⟨num, 2, 62, 63, w.heap.size⟩).toArray) ?_ rfl ⟨rfl, ?_⟩
  · rw [results_cell rfl]; go_simp; rfl
  · exact ⟨by go_simp, by simp, ((Below.refl _ w).alloc (Nat.le_refl _) _).alloc (by simp) _⟩
theorem number_any (num : Int) (p : Addr) (w : World) :
    Calls Try.prog 47 #[.int .i64 num, .pointer (some p)] w (PrtPost num 0 64 65 p w) := by
  go_enter Try.func47, Try.ntmps47
  go_wp2
  refine bodyPost_ret (v := .agg (Prt.cells ⟨num, 0, 64, 65, w.heap.size⟩).toArray) ?_ rfl ⟨rfl, ?_⟩
  · rw [results_cell rfl]; go_simp; rfl
  · exact ⟨by go_simp, by simp, ((Below.refl _ w).alloc (Nat.le_refl _) _).alloc (by simp) _⟩
theorem flag_any (num : Int) (p : Addr) (w : World) :
    Calls Try.prog 45 #[.int .i64 num, .pointer (some p)] w (PrtPost num 0 60 61 p w) := by
  go_enter Try.func45, Try.ntmps45
  go_wp2
  refine bodyPost_ret (v := .agg (Prt.cells ⟨num, 0, 60, 61, w.heap.size⟩).toArray) ?_ rfl ⟨rfl, ?_⟩
  · rw [results_cell rfl]; go_simp; rfl
  · exact ⟨by go_simp, by simp, ((Below.refl _ w).alloc (Nat.le_refl _) _).alloc (by simp) _⟩
theorem tellT_any (B : Nat) (q : Addr) (s : ByteArray) (w : World) (hb : w.cell? ⟨B, 0, none⟩ = some (.pointer (some q))) (hq : w.cell? q = some (.string s)) :
    Calls Try.prog 62 #[.pointer (some ⟨B, 0, none⟩)] w fun e w' => e = .returned (.tuple #[.int .u64 0, .string s]) ∧ Below w.heap.size w w' := by
  go_enter Try.func62, Try.ntmps62
  go_wp2
  go_quiet (fail)
  go_wp2
  go_ret2
  exact ⟨rfl, below_drewN (Below.refl _ w) _⟩
theorem tellN_any (B : Nat) (q : Addr) (n : Int) (w : World) (hb : w.cell? ⟨B, 0, none⟩ = some (.pointer (some q))) (hq : w.cell? q = some (.int .u64 n)) :
    Calls Try.prog 64 #[.pointer (some ⟨B, 0, none⟩)] w fun e w' => e = .returned (.tuple #[.int .u64 n, .string ⟨#[]⟩]) ∧ Below w.heap.size w w' := by
  go_enter Try.func64, Try.ntmps64
  go_wp2
  go_ret2
  exact ⟨rfl, Below.refl _ w⟩
theorem tellF_any (B : Nat) (q : Addr) (b : Bool) (w : World) (hb : w.cell? ⟨B, 0, none⟩ = some (.pointer (some q))) (hq : w.cell? q = some (.bool b)) :
    Calls Try.prog 60 #[.pointer (some ⟨B, 0, none⟩)] w fun e w' => e = .returned (.tuple #[.int .u64 (if b then 1 else 0), .string ⟨#[]⟩]) ∧ Below w.heap.size w w' := by
  go_enter Try.func60, Try.ntmps60
  cases b
  all_goals go_wp2
  all_goals go_ret2
  all_goals exact ⟨rfl, Below.refl _ w⟩
end Go.Proofs.Ytkanhggmhjldmaa

/- A REGION THAT DRAWS ITS ORDER, WHOSE OPERATIONS ONLY READ, OR MAKE NEW MEMORY: it may be walked in the order of the text. After the base's law on loads that are taken first, with 'memory has only grown' in the place of one condition for the whole region. -/
namespace Go.Proofs.Ytkanhggmhjldmaa
open Go Go.RowKit

/-- memory has only grown -/
def Grows (w w' : World) : Prop := Below w.heap.size w w'
theorem Grows.refl (w : World) : Grows w w := Below.refl _ _
theorem Grows.trans {a b c : World} (h : Grows a b) (k : Grows b c) : Grows a c := bel_step h k

section
variable {P : Program} {ops : Array Oper} {Q : Exit → Act → World → Prop} {md : Region.Mode}

/-- Whatever order is picked from here on; memory only grows. -/
def wpAnyM (P : Program) (md : Region.Mode) (ops : Array Oper) (Q : Exit → Act → World → Prop) : Nat → Array Bool → Act → World → Prop
  | 0, listed, a, w => Region.ready md ops listed = [] ∧ Q .normal a w
  | fuel + 1, listed, a, w =>
    (Region.ready md ops listed = [] → Q .normal a w) ∧
    ∀ i ∈ Region.ready md ops listed, wpOp P ops Q i (fun a' w' => Grows w w' ∧ wpAnyM P md ops Q fuel (listed.setIfInBounds i true) a' w') a w

theorem wpAny_of_M : ∀ (fuel : Nat) (listed : Array Bool) (a : Act) (w : World), wpAnyM P md ops Q fuel listed a w → wpAny P md ops Q fuel listed a w
  | 0, _, _, _, h => h
  | fuel + 1, _, _, _, h => ⟨h.1, fun i hi => wpOp_mono (fun a' w' h' => wpAny_of_M fuel _ a' w' h'.2) (h.2 i hi)⟩

theorem yields_grows {o : Oper} {v : Value} {a : Act} {w w' : World} (h : YieldsIf P ops (Grows w) o v a) (hg : Grows w w') : YieldsIf P ops (Grows w') o v a :=
  h.imp (fun ⟨h1, h2⟩ => ⟨h1, fun u hu => h2 u (hg.trans hu)⟩) id

theorem wpAnyM_first {i : Nat} {oi : Oper} {v : Value} (hi : ops[i]? = some oi) (hsel : ∀ (j : Nat) (o : Oper) cs b, ops[j]? = some o → o.op ≠ .select cs b)
    (hQ : ∀ c a w, Q (.panic c) (a.put oi.dst v) w → Q (.panic c) a w) :
    ∀ (fuel : Nat) (listed : Array Bool) (a : Act) (w : World),
      (∀ j oj, ops[j]? = some oj → j ≠ i → listed.getD j true = false → (∀ e ∈ oj.after, Region.binds md e = true → e.on ≠ i) → oi.apart ops oj = true) →
      i ∈ Region.ready md ops listed → YieldsIf P ops (Grows w) oi v a →
      wpAnyM P md ops Q fuel (listed.setIfInBounds i true) (a.put oi.dst v) w → wpAnyM P md ops Q (fuel + 1) listed a w := by
  intro fuel
  induction fuel with
  | zero =>
    intro listed a w _ hr hy H
    refine ⟨fun h => (by rw [h] at hr; cases hr), fun j hj => ?_⟩
    by_cases hji : j = i
    · subst hji; exact hy.wpOp hi (Grows.refl w) ⟨Grows.refl w, H⟩
    · have := ready_mono hj hji
      rw [H.1] at this
      cases this
  | succ fuel ih =>
    intro listed a w hfree hr hy H
    refine ⟨fun h => (by rw [h] at hr; cases hr), fun j hj => ?_⟩
    by_cases hji : j = i
    · subst hji; exact hy.wpOp hi (Grows.refl w) ⟨Grows.refl w, H⟩
    · have h1 := H.2 j (ready_mono hj hji)
      obtain ⟨hjun, oj, hoj, hall⟩ := mem_ready.1 hj
      have hnot : ∀ e ∈ oj.after, Region.binds md e = true → e.on ≠ i := fun e he hb heq => by
        have h1 := hall e he hb
        have h0 := (mem_ready.1 hr).1
        rw [heq] at h1
        rcases Nat.lt_or_ge i listed.size with h' | h'
        · simp [h'] at h0 h1; rw [h0] at h1; cases h1
        · simp [Array.getElem?_eq_none h'] at h1
      have h2 := wpOp_putIf hoj (hfree j oj hoj hji hjun hnot) (fun cs b => hsel i oi cs b hi) (fun cs b => hsel j oj cs b hoj) hQ hy h1
      have hfree' : ∀ k ok, ops[k]? = some ok → k ≠ i → (listed.setIfInBounds j true).getD k true = false →
          (∀ e ∈ ok.after, Region.binds md e = true → e.on ≠ i) → oi.apart ops ok = true := fun k ok hk hki hun hno => by
        refine hfree k ok hk hki ?_ hno
        by_cases hjk : j = k
        · subst hjk; exact hjun
        · rw [getD_set_ne true hjk] at hun; exact hun
      refine wpOp_mono (fun a' w' h3 => ⟨h3.2.1, ih (listed.setIfInBounds j true) a' w' hfree' (ready_mono hr (Ne.symm hji)) (yields_grows h3.1 h3.2.1) ?_⟩) h2
      rw [Array.setIfInBounds_comm _ _ hji]
      exact h3.2.2

/-! the walk: the operations that are still to come, each with its number, in whatever order suits -/
def left (n : Nat) (rest : List (Nat × Oper)) : Array Bool := ((List.range n).map fun i => !(rest.map (·.1)).contains i).toArray
def wpL (P : Program) (ops : Array Oper) (Q : Exit → Act → World → Prop) (n m : Nat) (rest : List (Nat × Oper)) (a : Act) (w : World) : Prop :=
  (∀ p ∈ rest, ops[p.1]? = some p.2) → (rest.map (·.1)).Nodup → ops.size = n → wpAnyM P .any ops Q m (left n rest) a w

theorem left_set {n k : Nat} {o : Oper} {rest : List (Nat × Oper)} (hn : (((k, o) :: rest).map (·.1)).Nodup) : (left n ((k, o) :: rest)).setIfInBounds k true = left n rest := by
  apply Array.ext'
  rw [Array.toList_setIfInBounds]
  simp only [left]
  apply List.ext_getElem?
  intro j
  have hk : k ∉ rest.map (·.1) := (List.nodup_cons.1 (by rw [List.map_cons] at hn; exact hn)).1
  by_cases hj : j < n
  · by_cases hjk : k = j
    · subst hjk
      rw [List.getElem?_set_self (by simpa using hj), List.getElem?_map, List.getElem?_range hj, Option.map_some]
      have : (rest.map (·.1)).contains k = false := by
        rw [Bool.eq_false_iff]; intro h; exact hk (List.contains_iff_mem.1 h)
      rw [this]; rfl
    · rw [List.getElem?_set_ne hjk]
      simp only [List.getElem?_map, List.getElem?_range hj, Option.map_some, List.map_cons, List.contains_cons]
      have : (j == k) = false := by simp; omega
      rw [this, Bool.false_or]
  · simp [hj]

theorem wp_region_L {id : Nat} {l : List Oper} {a : Act} {w : World} (n : Nat) (perm : List Nat) (hn : l.length = n) (hp : perm.Nodup) (hall : ((List.range n).all fun i => perm.contains i) = true) (hm : P.follows .mixedOrders = true)
    (h : wpL P l.toArray Q n n (perm.filterMap fun i => (l[i]?).map fun o => (i, o)) a w.drew) : (Code.region id l.toArray true).wp P Q a w := by
  subst hn
  refine wp_region_any hm (wpAny_of_M _ _ _ _ ?_)
  have hfst : ∀ (q : List Nat), ∀ x ∈ (q.filterMap fun i => (l[i]?).map fun o => (i, o)).map (·.1), x ∈ q := by
    intro q x hx
    simp only [List.mem_map, List.mem_filterMap] at hx
    obtain ⟨p, ⟨i, hi, hip⟩, rfl⟩ := hx
    obtain ⟨o, _, rfl⟩ := Option.map_eq_some_iff.1 hip
    exact hi
  have hnd : ∀ (q : List Nat), q.Nodup → ((q.filterMap fun i => (l[i]?).map fun o => (i, o)).map (·.1)).Nodup := by
    intro q
    induction q with
    | nil => intro _; simp
    | cons x q ih =>
      intro hq
      obtain ⟨h1, h2⟩ := List.nodup_cons.1 hq
      rw [List.filterMap_cons]
      cases hx : (l[x]?).map fun o => (x, o) with
      | none => exact ih h2
      | some p =>
        obtain ⟨o, _, rfl⟩ := Option.map_eq_some_iff.1 hx
        rw [List.map_cons, List.nodup_cons]
        exact ⟨fun hm => h1 (hfst q _ hm), ih h2⟩
  have e : Array.replicate l.toArray.size false = left l.length (perm.filterMap fun i => (l[i]?).map fun o => (i, o)) := by
    apply Array.ext'
    simp only [left, Array.toList_replicate, List.size_toArray]
    apply List.ext_getElem?
    intro j
    by_cases hj : j < l.length
    · have hjp : j ∈ perm := by
        have := List.all_eq_true.1 hall j (List.mem_range.2 hj)
        simpa using this
      have hmem : j ∈ (perm.filterMap fun i => (l[i]?).map fun o => (i, o)).map (·.1) := by
        simp only [List.mem_map, List.mem_filterMap]
        exact ⟨(j, l[j]), ⟨j, hjp, by rw [List.getElem?_eq_getElem hj]; rfl⟩, rfl⟩
      simp only [List.getElem?_replicate, hj, if_true, List.getElem?_map, List.getElem?_range hj, Option.map_some]
      rw [List.contains_iff_mem.2 hmem]
      rfl
    · simp [hj]
  rw [e]
  have := h ?_ (hnd perm hp) (by simp)
  · simpa using this
  · intro p hp
    obtain ⟨i, _, hip⟩ := List.mem_filterMap.1 hp
    obtain ⟨o, ho, rfl⟩ := Option.map_eq_some_iff.1 hip
    simpa using ho

/-- the next one yields its value and does nothing else, now and whatever grows; it is taken next -/
theorem wpL_take {n k m : Nat} {oi : Oper} {rest : List (Nat × Oper)} {v : Value} {a : Act} {w : World}
    (hs : Region.noSelect ops = true) (hf : Region.free .any ops (left n ((k, oi) :: rest)) k = true) (hr : (Region.ready .any ops (left n ((k, oi) :: rest))).contains k = true)
    (hQ : ∀ c a w, Q (.panic c) (a.put oi.dst v) w → Q (.panic c) a w) (hw : Region.wanted oi (yielded ops a.tmps) = true) (hy : ∀ u, Grows w u → (execOp a.eval oi).run P u = .ok (.value v) u)
    (h : wpL P ops Q n m rest (a.put oi.dst v) w) : wpL P ops Q n (m + 1) ((k, oi) :: rest) a w := fun hd hnd hn => by
  have hi : ops[k]? = some oi := hd (k, oi) (by simp)
  refine wpAnyM_first hi (Region.noSelect_spec hs) hQ m _ a w (Region.free_spec hi hf) (by simpa using hr) (.inl ⟨hw, hy⟩) ?_
  rw [left_set hnd]
  exact h (fun p hp => hd p (by simp [hp])) (List.nodup_cons.1 (by rw [List.map_cons] at hnd; exact hnd)).2 hn
/-- it is not wanted -/
theorem wpL_pass {n k m : Nat} {oi : Oper} {rest : List (Nat × Oper)} {a : Act} {w : World}
    (hs : Region.noSelect ops = true) (hf : Region.free .any ops (left n ((k, oi) :: rest)) k = true) (hr : (Region.ready .any ops (left n ((k, oi) :: rest))).contains k = true)
    (hQ : ∀ c a w, Q (.panic c) (a.put oi.dst undef) w → Q (.panic c) a w) (hw : Region.wanted oi (yielded ops a.tmps) = false)
    (h : wpL P ops Q n m rest (a.put oi.dst undef) w) : wpL P ops Q n (m + 1) ((k, oi) :: rest) a w := fun hd hnd hn => by
  have hi : ops[k]? = some oi := hd (k, oi) (by simp)
  refine wpAnyM_first hi (Region.noSelect_spec hs) hQ m _ a w (Region.free_spec hi hf) (by simpa using hr) (.inr ⟨hw, rfl⟩) ?_
  rw [left_set hnd]
  exact h (fun p hp => hd p (by simp [hp])) (List.nodup_cons.1 (by rw [List.map_cons] at hnd; exact hnd)).2 hn
/-- no other may come up: it is carried out -/
theorem wpL_do {n k m : Nat} {oi : Oper} {rest : List (Nat × Oper)} {a : Act} {w : World} (hr : Region.ready .any ops (left n ((k, oi) :: rest)) = [k]) (hw : Region.wanted oi (yielded ops a.tmps) = true)
    (h : ∀ K : Act → World → Prop, (∀ a' w', Grows w w' → wpL P ops Q n m rest a' w' → K a' w') → Oper.wp P oi a w K Q) : wpL P ops Q n (m + 1) ((k, oi) :: rest) a w := fun hd hnd hn => by
  have hi : ops[k]? = some oi := hd (k, oi) (by simp)
  refine ⟨fun h0 => (by rw [h0] at hr; cases hr), fun j hj => ?_⟩
  rw [hr] at hj
  obtain rfl : j = k := by simpa using hj
  refine wpOp_step hi (fun K' hK => ?_)
  rw [if_pos hw]
  refine h K' (fun a' w' hg hL => hK a' w' ⟨hg, ?_⟩)
  rw [left_set hnd]
  exact hL (fun p hp => hd p (by simp [hp])) (List.nodup_cons.1 (by rw [List.map_cons] at hnd; exact hnd)).2 hn
theorem wpL_done {n m : Nat} {a : Act} {w : World} (hr : Region.ready .any ops (left n []) = []) (h : Q .normal a w) : wpL P ops Q n m [] a w := fun _ _ _ => by
  cases m with
  | zero => exact ⟨hr, h⟩
  | succ m => exact ⟨fun _ => h, by rw [hr]; simp⟩
end
end Go.Proofs.Ytkanhggmhjldmaa

/- WALK: meta.parts -/
namespace Go.Proofs.Ytkanhggmhjldmaa
open Go.RowKit Plain

def bxs (w : World) (l : List (Nat × Nat)) (m : Nat) : Prop := ∀ x ∈ l, w.cell? ⟨x.1, 0, none⟩ = some (.pointer (some ⟨m, x.2, none⟩)) ∧ x.1 < w.heap.size
theorem bxs.below {w w' : World} {l : List (Nat × Nat)} {m : Nat} (h : bxs w l m) (hb : Below w.heap.size w w') : bxs w' l m := fun x hx => ⟨(hb.cell (h x hx).2).trans (h x hx).1, Nat.lt_of_lt_of_le (h x hx).2 hb.size⟩
theorem bxs.snoc {w w' : World} {l : List (Nat × Nat)} {m b o : Nat} (h : bxs w l m) (hb : Below w.heap.size w w') (hc : w'.cell? ⟨b, 0, none⟩ = some (.pointer (some ⟨m, o, none⟩))) (hl : b < w'.heap.size) : bxs w' (l ++ [(b, o)]) m := by
  intro x hx
  rcases List.mem_append.1 hx with h1 | h1
  · exact h.below hb x h1
  · obtain rfl : x = (b, o) := by simpa using h1
    exact ⟨hc, hl⟩
def prts (B : Nat) : List Prt := [⟨1, 0, 60, 61, B⟩, ⟨2, 2, 62, 63, B + 2⟩, ⟨3, 0, 64, 65, B + 4⟩, ⟨4, 0, 64, 65, B + 6⟩,
  ⟨5, 2, 62, 63, B + 8⟩, ⟨6, 2, 62, 63, B + 10⟩, ⟨7, 2, 62, 63, B + 12⟩, ⟨8, 2, 62, 63, B + 14⟩]
def pcl (B : Nat) : Array Value := ((prts B).flatMap Prt.cells).toArray
theorem prt_info : (Try.prog.info? 66).map (fun i => (i.zero, i.size)) = some (some (.agg #[.int .i64 0, .int .i64 0, .nilFunc, .nilFunc]), 4) := by kernel_rfl
theorem prt_fill (B : Nat) : Instr.fill (fun i => some (i * 4, 4)) ((Array.range (8 * 4)).map ((Value.agg #[.int .i64 0, .int .i64 0, .nilFunc, .nilFunc]).cells[· % (Value.agg #[.int .i64 0, .int .i64 0, .nilFunc, .nilFunc]).cells.size]!))
    ((prts B).zipIdx.map fun x => (x.2, Value.agg x.1.cells.toArray)) = some (pcl B) := by kernel_rfl
theorem prt_ie : ∃ ie, Try.prog.info? 66 = some ie ∧ ie.zero = some (.agg #[.int .i64 0, .int .i64 0, .nilFunc, .nilFunc]) ∧ ie.size = 4 := by
  have h := prt_info
  cases hi : Try.prog.info? 66 with
  | none => rw [hi] at h; simp at h
  | some ie => rw [hi] at h; simp at h; exact ⟨ie, rfl, h.1, h.2⟩
def PartsPost (m : Nat) (w : World) (e : Ending) (w' : World) : Prop :=
  e = .returned (.slice (some ⟨w.heap.size + 16, 0, none⟩) 8 8) ∧ w'.heap[w.heap.size + 16]? = some (.cells (pcl w.heap.size) 66 (0, 0)) ∧
    bxs w' ((List.range 8).map fun i => (w.heap.size + 2 * i, i)) m ∧ w'.heap.size = w.heap.size + 17 ∧ Below w.heap.size w w'
set_option maxRecDepth 100000 in
set_option maxHeartbeats 4000000 in
theorem parts_any (m : Nat) (w : World) :
    Calls Try.prog 32 #[.pointer (some ⟨m, 0, none⟩)] w (PartsPost m w) := by
  go_enter Try.func32, Try.ntmps32
  go_wp2
  have hW : Below w.heap.size w w.drew := (Below.refl _ w).drew
  have hS : w.drew.heap.size = w.heap.size := rfl
  have hX : bxs w.drew [] m := fun x hx => by cases hx
  refine wp_region_L 34 [0, 1, 2, 4, 5, 6, 8, 9, 10, 12, 13, 14, 16, 17, 18, 20, 21, 22, 24, 25, 26, 28, 29, 30, 3, 7, 11, 15, 19, 23, 27, 31, 32, 33] rfl (by decide) (by decide) (by kernel_rfl) ?_
  simp only [List.filterMap_cons, List.filterMap_nil, List.getElem?_cons_zero, List.getElem?_cons_succ, Option.map_some]
  iterate 24 (
    refine wpL_take (v := ?_) (by kernel_rfl) (by kernel_rfl) (by kernel_rfl) (fun _ _ _ h => h) (by rfl) (fun u hu => ?_) ?_
    rotate_left
    focus
      unfold Grows at hu
      go_simp
      try with_reducible rfl
    simp only [Act.put, List.setIfInBounds_toArray, List.set_cons_zero, List.set_cons_succ])
  iterate 8 (first
    | (refine wpL_do (by kernel_rfl) (by rfl) (fun K hK => ?_); go_simp; go_at_call 45; refine (flag_any _ _ _).mono ?_; rintro e w1 ⟨rfl, hp1, hz1, hB1⟩; replace hX := hX.snoc hB1 hp1 (by omega); replace hW := bel_step hW hB1; rw [hS] at hX ⊢; have hS2 := hz1.trans (congrArg (· + 2) hS); clear hS hz1; have hS := hS2; clear hS2; refine hK _ _ hB1 ?_; clear hK K hB1 hp1)
    | (refine wpL_do (by kernel_rfl) (by rfl) (fun K hK => ?_); go_simp; go_at_call 46; refine (text_any _ _ _).mono ?_; rintro e w1 ⟨rfl, hp1, hz1, hB1⟩; replace hX := hX.snoc hB1 hp1 (by omega); replace hW := bel_step hW hB1; rw [hS] at hX ⊢; have hS2 := hz1.trans (congrArg (· + 2) hS); clear hS hz1; have hS := hS2; clear hS2; refine hK _ _ hB1 ?_; clear hK K hB1 hp1)
    | (refine wpL_do (by kernel_rfl) (by rfl) (fun K hK => ?_); go_simp; go_at_call 47; refine (number_any _ _ _).mono ?_; rintro e w1 ⟨rfl, hp1, hz1, hB1⟩; replace hX := hX.snoc hB1 hp1 (by omega); replace hW := bel_step hW hB1; rw [hS] at hX ⊢; have hS2 := hz1.trans (congrArg (· + 2) hS); clear hS hz1; have hS := hS2; clear hS2; refine hK _ _ hB1 ?_; clear hK K hB1 hp1))
  refine wpL_do (by kernel_rfl) (by rfl) (fun K hK => ?_)
  obtain ⟨ie, hie, hz, hsz⟩ := prt_ie
  have h1 : ¬ 8 * ie.size > 2 ^ 24 := by rw [hsz]; decide
  have h2 : ¬ 8 * ie.size = 0 := by rw [hsz]; decide
  have h3 := prt_fill w.heap.size
  rw [← hsz] at h3
  refine wp_buildSlice 60 66 8 _ rfl (pcl w.heap.size) ie _ Try.underlying60 hie hz h1 h2 ?_ ?_
  · refine Eq.trans (congrArg (Instr.fill _ _) ?_) h3
    first | rfl | kernel_rfl | (simp [prts]; done) | (simp [prts, List.zipIdx]; rfl)
  refine hK _ _ ((Below.refl _ w1).alloc (Nat.le_refl _) _) ?_
  rw [hS]
  simp only [Act.put, List.setIfInBounds_toArray, List.set_cons_zero, List.set_cons_succ]
  have hX2 := hX.below ((Below.refl _ w1).alloc (Nat.le_refl _) (Obj.cells (pcl w.heap.size) 66))
  have hrow := World.alloc_heap_new w1 (Obj.cells (pcl w.heap.size) 66)
  rw [hS] at hrow
  have hWW := hW.alloc hW.size (Obj.cells (pcl w.heap.size) 66)
  have hZ : (w1.alloc (Obj.cells (pcl w.heap.size) 66)).heap.size = w.heap.size + 17 := by simp [hS]
  refine wpL_take (v := ?_) (by kernel_rfl) (by kernel_rfl) (by kernel_rfl) (fun _ _ _ h => h) (by rfl) (fun u hu => ?_) ?_
  rotate_left
  focus
    unfold Grows at hu
    go_simp
    try with_reducible rfl
  simp only [Act.put, List.setIfInBounds_toArray, List.set_cons_zero, List.set_cons_succ]
  refine wpL_done (by kernel_rfl) ?_
  clear hK K h1 h2 h3
  generalize w1.alloc (Obj.cells (pcl w.heap.size) 66) = W at *
  go_wp2
  go_ret
  exact ⟨rfl, hrow, hX2, hZ, hWW⟩
end Go.Proofs.Ytkanhggmhjldmaa

/- append onto a row of fields of the call's own -/
namespace Go.Proofs.Ytkanhggmhjldmaa
open Go.RowKit

theorem elemF : Elem Try.prog 34 49 (.agg #[.int .i64 0, .int .i64 0, .int .u64 0, .string ⟨#[]⟩]) 4 40 :=
  ⟨Try.underlying34, info_parts (show (Try.prog.info? 49).map (fun i => (i.zero, i.size, i.bytes)) = some (some (.agg #[.int .i64 0, .int .i64 0, .int .u64 0, .string ⟨#[]⟩]), 4, 40) by kernel_rfl), rfl, by omega⟩
theorem fld_one (L : List Fld) : ∀ u ∈ flc L, u.oneCell' = true := by
  intro u hu
  obtain ⟨f, _, hf⟩ := List.mem_flatMap.1 hu
  simp [Fld.cells] at hf
  rcases hf with rfl | rfl | rfl | rfl <;> rfl
section
variable {w : World} {ops : Array Oper} {rest : List Oper} {o : Oper} {a : Act} {Q : Exit → Act → World → Prop}
theorem wpList_appF (hgd : o.guard = none) (s x : Operand)
    (ho : o.op = .call { callee := .builtin .append, args := #[s, x], argTypes := #[34, 34] })
    {base n c : Nat} {A : Option Addr} {l : List Fld} (hs : a.eval s = .slice A n c)
    (hown : w.ownsRow base 49 4 (.slice A n c) n (flc l)) {B m c2 : Nat} {A2 : Option Addr} {l2 : List Fld} (hx : a.eval x = .slice A2 m c2) (hr : Rd w B A2 (flc l2)) (hl : l2.length = m)
    (N : Nat) (hN : n + m = N) (hbd : N ≤ 1000000) (hbase : base ≤ w.heap.size)
    (h : ∀ A' c' w', w'.ownsRow base 49 4 (.slice A' N c') N (flc (l ++ l2)) → w.grownBy w' (Value.slice A n c).ownBlock → wpList Try.prog ops Q rest (a.put o.dst (.slice A' N c')) w') :
    wpList Try.prog ops Q (o :: rest) a w := by
  subst hN
  refine wpList_app hgd s x _ ho elemF hs hown hx hr (by rw [flc_len]; omega) (fld_one l2) (by unfold maxLen; omega) (by omega) hbase fun A' c' w' h1 h2 _ => h A' c' w' ?_ h2
  rw [show flc (l ++ l2) = flc l ++ flc l2 by simp [flc]]
  exact h1
theorem wpList_appF1 (hgd : o.guard = none) (s x : Operand)
    (ho : o.op = .call { callee := .builtin .append, args := #[s, x], argTypes := #[34, 34] })
    {base n c : Nat} {A : Option Addr} {l : List Fld} (hs : a.eval s = .slice A n c)
    (hown : w.ownsRow base 49 4 (.slice A n c) n (flc l)) {c2 : Nat} (f : Fld) {k : Nat} (hx : a.eval x = .slice (some ⟨k, 0, none⟩) 1 c2) (hk : k = w.heap.size)
    (hbd : n ≤ 1000000) (hbase : base ≤ w.heap.size)
    (h : ∀ A' c' w', w'.ownsRow base 49 4 (.slice A' (n + 1) c') (n + 1) (flc (l ++ [f])) → w.grownBy w' (Value.slice A n c).ownBlock → wpList Try.prog ops Q rest (a.put o.dst (.slice A' (n + 1) c')) w') :
    wpList Try.prog ops Q (o :: rest) a (w.alloc (.cells #[.int .i64 f.num, .int .i64 f.kind, .int .u64 f.val, .string f.text] 49)) := by
  subst hk
  refine wpList_app1 hgd s x _ ho elemF hs hown hx rfl (by intro u hu; simp at hu; rcases hu with rfl | rfl | rfl | rfl <;> rfl) (by unfold maxLen; omega) (by omega) hbase fun A' c' w' h1 h2 _ => h A' c' w' ?_ h2
  rw [show flc (l ++ [f]) = flc l ++ f.cells by simp [flc]]
  exact h1
end
theorem elemI : Elem Try.prog 73 3 (.int .i64 0) 1 8 :=
  ⟨Try.underlying73, info_parts (show (Try.prog.info? 3).map (fun i => (i.zero, i.size, i.bytes)) = some (some (.int .i64 0), 1, 8) by kernel_rfl), rfl, by omega⟩
/-- the object of a row of the call's own -/
theorem own_obj {W : World} {base : Nat} {e : TypeId} {size n : Nat} {v : Value} {xs : List Value} {g : Nat} (h : W.ownsRow base e size v n xs) (hg : v.ownBlock = some g) : ∃ cur, W.heap[g]? = some (.cells cur e (0, 0)) := by
  rcases h.2 with ⟨hv, _⟩ | ⟨g2, cap, cur, hv, _, hh, _⟩
  · rw [hv] at hg; simp [Value.ownBlock] at hg
  · rw [hv] at hg
    obtain rfl : g2 = g := by simpa [Value.ownBlock] using hg
    exact ⟨cur, hh⟩
theorem own_other {W W' : World} {base : Nat} {e : TypeId} {size n : Nat} {v : Value} {xs : List Value} {row : Option Nat} (h : W.ownsRow base e size v n xs) (hg : W.grownBy W' row) (hne : ∀ g cur, W.heap[g]? = some (.cells cur e (0, 0)) → row ≠ some g) : W'.ownsRow base e size v n xs := by
  refine ⟨h.1, ?_⟩
  rcases h.2 with h2 | ⟨g, cap, cur, hv, hgb, hh, r⟩
  · exact .inl h2
  · exact .inr ⟨g, cap, cur, hv, hgb, (hg.block g (Array.getElem?_eq_some_iff.1 hh).1 (fun e => hne g cur hh e.symm)).trans hh, r⟩
theorem own_ne {W : World} {base : Nat} {e e2 : TypeId} {size n : Nat} {v : Value} {xs : List Value} (h : W.ownsRow base e size v n xs) (he : e ≠ e2) {g : Nat} {cur : Array Value} {fr : Nat × Nat} (hg : W.heap[g]? = some (.cells cur e2 fr)) : v.ownBlock ≠ some g := fun h2 => by
  obtain ⟨c2, h3⟩ := own_obj h h2
  rw [hg] at h3
  simp at h3
  exact he h3.2.1.symm
end Go.Proofs.Ytkanhggmhjldmaa

/- WALK: meta.fields -/
namespace Go.Proofs.Ytkanhggmhjldmaa
open Go.RowKit Plain

structure MM where
  multi : Bool
  type : ByteArray
  size : Nat
  seq : Nat
  file : ByteArray
  kind : ByteArray
  md5 : ByteArray
  desc : ByteArray
def MM.cells (m : MM) : Array Value := #[.bool m.multi, .string m.type, .int .u64 m.size, .int .u64 m.seq, .string m.file, .string m.kind, .string m.md5, .string m.desc]
/-- the fields that a meta may have -/
def mall (m : MM) : List Fld := [⟨1, 0, if m.multi then 1 else 0, ⟨#[]⟩⟩, ⟨2, 2, 0, m.type⟩, ⟨3, 0, m.size, ⟨#[]⟩⟩, ⟨4, 0, m.seq, ⟨#[]⟩⟩, ⟨5, 2, 0, m.file⟩, ⟨6, 2, 0, m.kind⟩, ⟨7, 2, 0, m.md5⟩, ⟨8, 2, 0, m.desc⟩]
def fhas (f : Fld) : Bool := (f.val : Int) != 0 || !f.text.toList.isEmpty
def mfields (m : MM) : List Fld := (mall m).filter fhas
def mfto (m : MM) (j : Nat) : List Fld := ((mall m).take j).filter fhas
/-- block B is the box of a meta -/
def BoxM (W : World) (B : Nat) (m : MM) : Prop := W.heap[B]? = some (.cells m.cells 24 (0, 0))
theorem BoxM.lt {W : World} {B : Nat} {m : MM} (h : BoxM W B m) : B < W.heap.size := (Array.getElem?_eq_some_iff.1 h).1
theorem BoxM.below {W W' : World} {B C : Nat} {m : MM} (h : BoxM W B m) (hb : Below C W W') (hC : B < C) : BoxM W' B m := (hb.block B hC).trans h
theorem BoxM.cell {W : World} {B : Nat} {m : MM} (h : BoxM W B m) (i : Nat) : W.cell? ⟨B, i, none⟩ = m.cells[i]? := by simp [World.cell?, show W.heap[B]? = _ from h]

theorem cf60 (args : Array Value) (W : World) : (callFunc 60 args).run Try.prog W = .ok (.enter 60 args) W := by go_simp
theorem cf62 (args : Array Value) (W : World) : (callFunc 62 args).run Try.prog W = .ok (.enter 62 args) W := by go_simp
theorem cf64 (args : Array Value) (W : World) : (callFunc 64 args).run Try.prog W = .ok (.enter 64 args) W := by go_simp
/-- what a part tells -/
theorem tells_any (m : MM) (M B j : Nat) (hj : j < 8) : ∃ (p : Prt) (f : Fld), (prts B)[j]? = some p ∧ (mall m)[j]? = some f ∧ p.num = f.num ∧ p.kind = f.kind ∧ p.box = B + 2 * j ∧ (∀ args W, (callFunc p.tell args).run Try.prog W = .ok (.enter p.tell args) W) ∧
    ∀ W : World, W.cell? ⟨p.box, 0, none⟩ = some (.pointer (some ⟨M, j, none⟩)) → W.cell? ⟨M, j, none⟩ = m.cells[j]? →
      Calls Try.prog p.tell #[.pointer (some ⟨p.box, 0, none⟩)] W fun e w' => e = .returned (.tuple #[.int .u64 f.val, .string f.text]) ∧ Below W.heap.size W w' := by
  have h8 : j = 0 ∨ j = 1 ∨ j = 2 ∨ j = 3 ∨ j = 4 ∨ j = 5 ∨ j = 6 ∨ j = 7 := by omega
  rcases h8 with rfl | rfl | rfl | rfl | rfl | rfl | rfl | rfl
  · refine ⟨_, _, rfl, rfl, rfl, rfl, rfl, cf60, fun W h1 h2 => ?_⟩
    refine (tellF_any _ _ m.multi W h1 h2).mono ?_
    rintro e w' ⟨rfl, hB⟩
    exact ⟨by cases m.multi <;> rfl, hB⟩
  · exact ⟨_, _, rfl, rfl, rfl, rfl, rfl, cf62, fun W h1 h2 => tellT_any _ _ m.type W h1 h2⟩
  · exact ⟨_, _, rfl, rfl, rfl, rfl, rfl, cf64, fun W h1 h2 => tellN_any _ _ m.size W h1 h2⟩
  · exact ⟨_, _, rfl, rfl, rfl, rfl, rfl, cf64, fun W h1 h2 => tellN_any _ _ m.seq W h1 h2⟩
  · exact ⟨_, _, rfl, rfl, rfl, rfl, rfl, cf62, fun W h1 h2 => tellT_any _ _ m.file W h1 h2⟩
  · exact ⟨_, _, rfl, rfl, rfl, rfl, rfl, cf62, fun W h1 h2 => tellT_any _ _ m.kind W h1 h2⟩
  · exact ⟨_, _, rfl, rfl, rfl, rfl, rfl, cf62, fun W h1 h2 => tellT_any _ _ m.md5 W h1 h2⟩
  · exact ⟨_, _, rfl, rfl, rfl, rfl, rfl, cf62, fun W h1 h2 => tellT_any _ _ m.desc W h1 h2⟩
theorem prt_cell {W : World} {R B j : Nat} {p : Prt} (hr : W.heap[R]? = some (.cells (pcl B) 66 (0, 0))) (hp : (prts B)[j]? = some p) :
    W.cell? ⟨R, j * 4, none⟩ = some (.int .i64 p.num) ∧ W.cell? ⟨R, j * 4 + 1, none⟩ = some (.int .i64 p.kind) ∧
    W.cell? ⟨R, j * 4 + 2, none⟩ = some (.func (.func p.tell) #[] #[.pointer (some ⟨p.box, 0, none⟩)]) ∧ W.cell? ⟨R, j * 4 + 3, none⟩ = some (.func (.func p.take) #[] #[.pointer (some ⟨p.box, 0, none⟩)]) := by
  have hj : j < 8 := by have := (List.getElem?_eq_some_iff.1 hp).1; simpa [prts] using this
  have h8 : j = 0 ∨ j = 1 ∨ j = 2 ∨ j = 3 ∨ j = 4 ∨ j = 5 ∨ j = 6 ∨ j = 7 := by omega
  rcases h8 with rfl | rfl | rfl | rfl | rfl | rfl | rfl | rfl
  all_goals obtain rfl := Option.some.inj hp
  all_goals refine ⟨?_, ?_, ?_, ?_⟩ <;> (simp only [World.cell?, hr]; rfl)
theorem mfto_step {m : MM} {j : Nat} {f : Fld} (h : (mall m)[j]? = some f) : mfto m (j + 1) = if fhas f = true then mfto m j ++ [f] else mfto m j := by
  unfold mfto
  rw [List.take_add_one, h]
  cases hf : fhas f <;> simp [hf]

set_option maxHeartbeats 4000000 in
theorem fields_any (m : MM) (w : World) :
    Calls Try.prog 30 #[.agg m.cells] w fun e w' => ∃ A c, e = .returned (.slice A (mfields m).length c) ∧ w'.ownsRow w.heap.size 49 4 (.slice A (mfields m).length c) (mfields m).length (flc (mfields m)) ∧ Below w.heap.size w w' := by
  go_enter Try.func30, Try.ntmps30
  go_wp2_with fail
  refine (parts_any _ _).mono ?_
  rintro e w1 ⟨rfl, hrow, hX, hZ, hB1⟩
  simp only [World.size_alloc] at hrow hX hZ hB1 ⊢
  have hM := (show BoxM (w.alloc (Obj.cells m.cells 24)) w.heap.size m from World.alloc_heap_new w _).below hB1 (by omega)
  have hW : Below w.heap.size w w1 := ((Below.refl _ w).alloc (Nat.le_refl _) _).trans (hB1.mono (by omega))
  clear hB1
  go_wp2_with fail
  go_loopw [3, 10] (fun o i wr => ∃ (j : Nat) (A2 : Option Addr) (c2 : Nat), i = .int .i64 j ∧ o = .slice A2 (mfto m j).length c2 ∧ j ≤ 8 ∧ wr.ownsRow w1.heap.size 49 4 (.slice A2 (mfto m j).length c2) (mfto m j).length (flc (mfto m j)) ∧ Below w1.heap.size w1 wr) (fun _ i _ => 8 - (intOf i).toNat)
  case atStart => exact ⟨0, none, 0, rfl, rfl, Nat.zero_le _, World.ownsRow_nil _ _ _ _, Below.refl _ _⟩
  case round =>
    obtain ⟨j, A2, c2, rfl, rfl, hj, hown, hB⟩ := hrel
    by_cases hlt : j < 8
    · obtain ⟨p, f, hp, hf, e1, e2, e3, hcf, htell⟩ := tells_any m w.heap.size (w.heap.size + 1) j hlt
      have hrow2 := (hB.block _ (by omega)).trans hrow
      obtain ⟨g0, g1, g2, g3⟩ := prt_cell hrow2 hp
      have hbx := hX.below (hB.mono (by omega)) (p.box, j) (by rw [e3]; exact List.mem_map.2 ⟨j, by simpa using hlt, rfl⟩)
      have hM2 := hM.below hB (by omega)
      have hbs := hB.size
      obtain ⟨pn, pk, pt, pa, pb⟩ := p
      obtain ⟨fn, fk, fv, ft⟩ := f
      simp only at g0 g1 g2 g3 hcf htell hbx e1 e2 e3
      subst e1 e2
      have HF := Lib.hid hf
      clear hp hf
      go_wp2_with fail
      obtain ⟨Wp, hWp⟩ : ∃ Wp, wr.alloc (Obj.cells #[Value.int IntKind.i64 pn, Value.int IntKind.i64 pk, Value.func (Fn.func pt) #[] #[Value.pointer (some ⟨w.heap.size + 1 + 2 * j, 0, none⟩)], Value.func (Fn.func pa) #[] #[Value.pointer (some ⟨w.heap.size + 1 + 2 * j, 0, none⟩)]] 66) = Wp := ⟨_, rfl⟩
      have hPp : Wp.heap[wr.heap.size]? = some (Obj.cells #[Value.int IntKind.i64 pn, Value.int IntKind.i64 pk, Value.func (Fn.func pt) #[] #[Value.pointer (some ⟨w.heap.size + 1 + 2 * j, 0, none⟩)], Value.func (Fn.func pa) #[] #[Value.pointer (some ⟨w.heap.size + 1 + 2 * j, 0, none⟩)]] 66 (0, 0)) := by rw [← hWp]; exact World.alloc_heap_new wr _
      have hpb : Below wr.heap.size wr Wp := by rw [← hWp]; exact (Below.refl _ _).alloc (Nat.le_refl _) _
      have hWs : Wp.heap.size = wr.heap.size + 1 := by rw [← hWp]; simp
      subst e3
      rw [hWp]
      refine (htell Wp ((hpb.cell hbx.2).trans hbx.1) ((hM2.below hpb (by omega)).cell j)).mono ?_
      rintro e w2 ⟨rfl, hB2⟩
      have hP2 := (hB2.block _ (by omega)).trans hPp
      have hB3 : Below w1.heap.size w1 w2 := (bel_step hB hpb).trans (hB2.mono (by omega))
      have hown2 := own_kept hown (bel_step hpb hB2) (Nat.le_refl _)
      have hs2 := hB2.size
      have hs2b : w1.heap.size ≤ w2.heap.size := hB3.size
      have p0 : w2.cell? ⟨wr.heap.size, 0, none⟩ = some (.int .i64 pn) := by simp [World.cell?, hP2]
      have p1 : w2.cell? ⟨wr.heap.size, 1, none⟩ = some (.int .i64 pk) := by simp [World.cell?, hP2]
      clear hWp hPp hpb hP2 hB2 g0 g1 g2 g3 hbx hM2 htell hcf hrow2 hown hB hrow hX
      cases hh : fhas ⟨pn, pk, fv, ft⟩
      · have hst := mfto_step HF.out
        rw [hh] at hst
        have h1 : ((fv : Int) != 0) = false := by unfold fhas at hh; simp at hh; simpa using hh.1
        have h2 : ft.toList.isEmpty = true := by unfold fhas at hh; simp at hh; simpa using hh.2
        have HST := Lib.hid hst
        clear hst hh
        go_wp2_with fail
        go_roundw
        case rel => exact ⟨j + 1, A2, c2, by go_num, by rw [HST.out]; rfl, by omega, by rw [HST.out]; exact hown2, hB3⟩
        case measure => simp [intOf]; omega
      · have hst := mfto_step HF.out
        rw [hh] at hst
        have HST := Lib.hid hst
        have hlen : (mfto m j).length ≤ 8 := by unfold mfto; exact Nat.le_trans (List.length_filter_le _ _) (by simp [mall]; omega)
        have hor : ((fv : Int) != 0) = true ∨ ((fv : Int) != 0) = false ∧ ft.toList.isEmpty = false := by
          unfold fhas at hh
          cases h1 : ((fv : Int) != 0)
          · right; exact ⟨rfl, by simpa [h1] using hh⟩
          · exact .inl rfl
        clear hst hh
        rcases hor with h1 | ⟨h1, h2⟩
        all_goals go_wp2_with (at_builtin; refine wpList_app1 rfl _ _ _ rfl elemF rfl hown2 rfl rfl (by intro u hu; simp at hu; rcases hu with rfl | rfl | rfl | rfl <;> rfl) (by unfold maxLen; omega) (by omega) hs2b ?_; intro A5 c5 w5 ho5 hg5 _)
        all_goals go_roundw
        case rel | rel => exact ⟨j + 1, A5, c5, by go_num, by rw [HST.out]; simp, by omega, by rw [HST.out]; simpa [flc, Fld.cells] using ho5, own_grown hB3 hown2 hs2b hg5⟩
        case measure | measure => simp [intOf]; omega
    · go_wp2_with fail
      go_ret
      have e : mfto m j = mfields m := by unfold mfto mfields; rw [List.take_of_length_le (by simp [mall]; omega)]
      rw [e] at hown
      rw [e]
      exact ⟨_, _, rfl, own_base hown (by omega), bel_step hW hB⟩
end Go.Proofs.Ytkanhggmhjldmaa

/- WALK: meta.Put, meta.Joined -/
namespace Go.Proofs.Ytkanhggmhjldmaa
open Go.RowKit Plain

theorem rd_own {w : World} {base : Nat} {e : TypeId} {size n c : Nat} {A : Option Addr} {xs : List Value} (h : w.ownsRow base e size (.slice A n c) n xs) : Rd w w.heap.size A xs := Rd.of_own h
theorem mfields_len (m : MM) : (mfields m).length ≤ 8 := by unfold mfields; exact Nat.le_trans (List.length_filter_le _ _) (by simp [mall])
def MOk (m : MM) : Prop := m.size < 18446744073709551616 ∧ m.seq < 18446744073709551616
theorem mall_ok {m : MM} (h : MOk m) : ∀ f ∈ mall m, FldOk f := by
  intro f hf
  obtain ⟨h1, h2⟩ := h
  have hb : (if m.multi = true then 1 else 0 : Nat) < 18446744073709551616 := by split <;> omega
  simp only [mall, List.mem_cons, List.not_mem_nil, or_false] at hf
  rcases hf with rfl | rfl | rfl | rfl | rfl | rfl | rfl | rfl <;> refine ⟨by simp, by simp, ?_⟩ <;> simp <;> first | assumption | omega
theorem mfields_ok {m : MM} (h : MOk m) : ∀ f ∈ mfields m, FldOk f := fun f hf => mall_ok h f (List.mem_filter.1 hf).1

def MPost (m : MM) (w : World) (e : Ending) (w' : World) : Prop := PutsPost (mfields m) w e w'
theorem mput_any (m : MM) (hm : MOk m) (w : World) : Calls Try.prog 12 #[.agg m.cells] w (PutsPost (mfields m) w) := by
  have hlen := mfields_len m
  have hok := mfields_ok hm
  obtain ⟨m1, m2, m3, m4, m5, m6, m7, m8⟩ := m
  unfold MM.cells
  go_enter Try.func12, Try.ntmps12
  go_wp2_with fail
  refine (fields_any ⟨m1, m2, m3, m4, m5, m6, m7, m8⟩ _).mono ?_
  rintro e w1 ⟨A, c, rfl, hown, hB⟩
  go_wp2_with fail
  refine (puts_any _ A c (by omega) hok w1 (Rd.of_own hown)).mono ?_
  rintro e w2 ⟨A2, c2, rfl, ho2, hB2⟩
  go_wp2_with fail
  go_ret2
  have hB0 : Below w.heap.size w w1 := ((Below.refl _ w).alloc (Nat.le_refl _) _).trans (hB.mono (by simp))
  exact ⟨A2, c2, rfl, own_base ho2 hB0.size, bel_step hB0 hB2⟩
theorem takeT_any (B M i : Nat) (s : ByteArray) (f : Fld) (m : MM) (W : World) (hb : W.cell? ⟨B, 0, none⟩ = some (.pointer (some ⟨M, i, none⟩))) (hm : BoxM W M m) (hi : m.cells[i]? = some (.string s)) :
    Calls Try.prog 63 #[.agg (Fld.cells f).toArray, .pointer (some ⟨B, 0, none⟩)] W fun e w' => e = .returned (.int .i64 0) ∧ ∃ W1, Below W.heap.size W W1 ∧ w' = W1.setCell ⟨M, i, none⟩ (.string f.text) := by
  have hc := (hm.cell i).trans hi
  have hz : W.frozen? ⟨M, i, none⟩ = false := by simp [World.frozen?, show W.heap[M]? = _ from hm]
  obtain ⟨fn, fk, fv, ft⟩ := f
  have hlb := World.block_lt_of_cell? W _ hb
  have hB := (Below.refl W.heap.size W).alloc (Nat.le_refl _) (Obj.cells #[.int .i64 fn, .int .i64 fk, .int .u64 fv, .string ft] 49)
  have hb1 := (hB.cell hlb).trans hb
  have hc1 := (hB.cell hm.lt).trans hc
  have hz1 : (W.alloc (Obj.cells #[.int .i64 fn, .int .i64 fk, .int .u64 fv, .string ft] 49)).frozen? ⟨M, i, none⟩ = false := by simp [World.frozen?, show (W.alloc (Obj.cells #[.int .i64 fn, .int .i64 fk, .int .u64 fv, .string ft] 49)).heap[M]? = _ from (hB.block M hm.lt).trans hm]
  have hF := BoxF.new W fn fk fv ft
  obtain ⟨d0, d1, d2, d3⟩ := hF.cells
  unfold Fld.cells
  go_enter Try.func63, Try.ntmps63
  go_wp2_with fail
  go_ret
  exact ⟨rfl, _, hB, rfl⟩
theorem takeN_any (B M i : Nat) (n : Int) (f : Fld) (m : MM) (W : World) (hb : W.cell? ⟨B, 0, none⟩ = some (.pointer (some ⟨M, i, none⟩))) (hm : BoxM W M m) (hi : m.cells[i]? = some (.int .u64 n)) :
    Calls Try.prog 65 #[.agg (Fld.cells f).toArray, .pointer (some ⟨B, 0, none⟩)] W fun e w' => e = .returned (.int .i64 0) ∧ ∃ W1, Below W.heap.size W W1 ∧ w' = W1.setCell ⟨M, i, none⟩ (.int .u64 f.val) := by
  have hc := (hm.cell i).trans hi
  have hz : W.frozen? ⟨M, i, none⟩ = false := by simp [World.frozen?, show W.heap[M]? = _ from hm]
  obtain ⟨fn, fk, fv, ft⟩ := f
  have hlb := World.block_lt_of_cell? W _ hb
  have hB := (Below.refl W.heap.size W).alloc (Nat.le_refl _) (Obj.cells #[.int .i64 fn, .int .i64 fk, .int .u64 fv, .string ft] 49)
  have hb1 := (hB.cell hlb).trans hb
  have hc1 := (hB.cell hm.lt).trans hc
  have hz1 : (W.alloc (Obj.cells #[.int .i64 fn, .int .i64 fk, .int .u64 fv, .string ft] 49)).frozen? ⟨M, i, none⟩ = false := by simp [World.frozen?, show (W.alloc (Obj.cells #[.int .i64 fn, .int .i64 fk, .int .u64 fv, .string ft] 49)).heap[M]? = _ from (hB.block M hm.lt).trans hm]
  have hF := BoxF.new W fn fk fv ft
  obtain ⟨d0, d1, d2, d3⟩ := hF.cells
  unfold Fld.cells
  go_enter Try.func65, Try.ntmps65
  go_wp2_with fail
  go_ret
  exact ⟨rfl, _, hB, rfl⟩
theorem takeF_any (B M i : Nat) (b : Bool) (f : Fld) (m : MM) (W : World) (hb : W.cell? ⟨B, 0, none⟩ = some (.pointer (some ⟨M, i, none⟩))) (hm : BoxM W M m) (hi : m.cells[i]? = some (.bool b)) (hv : f.val = 1) :
    Calls Try.prog 61 #[.agg (Fld.cells f).toArray, .pointer (some ⟨B, 0, none⟩)] W fun e w' => e = .returned (.int .i64 0) ∧ ∃ W1, Below W.heap.size W W1 ∧ w' = W1.setCell ⟨M, i, none⟩ (.bool true) := by
  have hc := (hm.cell i).trans hi
  have hz : W.frozen? ⟨M, i, none⟩ = false := by simp [World.frozen?, show W.heap[M]? = _ from hm]
  obtain ⟨fn, fk, fv, ft⟩ := f
  have hlb := World.block_lt_of_cell? W _ hb
  have hB := (Below.refl W.heap.size W).alloc (Nat.le_refl _) (Obj.cells #[.int .i64 fn, .int .i64 fk, .int .u64 fv, .string ft] 49)
  have hb1 := (hB.cell hlb).trans hb
  have hc1 := (hB.cell hm.lt).trans hc
  have hz1 : (W.alloc (Obj.cells #[.int .i64 fn, .int .i64 fk, .int .u64 fv, .string ft] 49)).frozen? ⟨M, i, none⟩ = false := by simp [World.frozen?, show (W.alloc (Obj.cells #[.int .i64 fn, .int .i64 fk, .int .u64 fv, .string ft] 49)).heap[M]? = _ from (hB.block M hm.lt).trans hm]
  have hF := BoxF.new W fn fk fv ft
  obtain ⟨d0, d1, d2, d3⟩ := hF.cells
  unfold Fld.cells
  have hv1 : decide ((1 : Int) < (fv : Int)) = false := by simp at hv; simp; omega
  have hv2 : ((fv : Int) == 1) = true := by simp at hv; simp; omega
  clear hv
  go_enter Try.func61, Try.ntmps61
  go_wp2_with fail
  go_ret
  exact ⟨rfl, _, hB, rfl⟩
def mset (m : MM) (f : Fld) : MM :=
  if f.num = 1 then { m with multi := true } else if f.num = 2 then { m with type := f.text } else if f.num = 3 then { m with size := f.val } else if f.num = 4 then { m with seq := f.val }
  else if f.num = 5 then { m with file := f.text } else if f.num = 6 then { m with kind := f.text } else if f.num = 7 then { m with md5 := f.text } else { m with desc := f.text }
theorem cf61 (args : Array Value) (W : World) : (callFunc 61 args).run Try.prog W = .ok (.enter 61 args) W := by go_simp
theorem cf63 (args : Array Value) (W : World) : (callFunc 63 args).run Try.prog W = .ok (.enter 63 args) W := by go_simp
theorem cf65 (args : Array Value) (W : World) : (callFunc 65 args).run Try.prog W = .ok (.enter 65 args) W := by go_simp
theorem take_post {m : MM} {W W1 : World} {M i : Nat} {v : Value} (h : BoxM W M m) (hB : Below W.heap.size W W1) (m2 : MM) (hm : m.cells.setIfInBounds i v = m2.cells) : BoxM (W1.setCell ⟨M, i, none⟩ v) M m2 ∧ W.grownBy (W1.setCell ⟨M, i, none⟩ v) (some M) := by
  have h1 : BoxM W1 M m := h.below hB h.lt
  refine ⟨?_, hB.os, hB.tape, hB.output, ?_, fun k hk hne => ?_⟩
  · have := heap_setCell_same W1 M i m.cells _ v h1
    rw [hm] at this
    exact this
  · simpa using hB.size
  · exact (heap_setCell_other W1 ⟨M, i, none⟩ k v (fun e => hne (by rw [e]))).trans (hB.block k hk)
/-- what a part takes -/
theorem takes_any (i : Nat) (hi : i < 8) (B : Nat) (f : Fld) (hf : f.num = i + 1) (h1 : i = 0 → f.val = 1) : ∃ p : Prt, (prts B)[i]? = some p ∧ p.box = B + 2 * i ∧ (∀ args W, (callFunc p.take args).run Try.prog W = .ok (.enter p.take args) W) ∧
    ∀ (M : Nat) (m : MM) (W : World), W.cell? ⟨p.box, 0, none⟩ = some (.pointer (some ⟨M, i, none⟩)) → BoxM W M m →
      Calls Try.prog p.take #[.agg (Fld.cells f).toArray, .pointer (some ⟨p.box, 0, none⟩)] W fun e w' => e = .returned (.int .i64 0) ∧ BoxM w' M (mset m f) ∧ W.grownBy w' (some M) := by
  have h8 : i = 0 ∨ i = 1 ∨ i = 2 ∨ i = 3 ∨ i = 4 ∨ i = 5 ∨ i = 6 ∨ i = 7 := by omega
  rcases h8 with rfl | rfl | rfl | rfl | rfl | rfl | rfl | rfl
  · refine ⟨_, rfl, rfl, cf61, fun M m W hb hm => (takeF_any _ M 0 m.multi f m W hb hm rfl (h1 rfl)).mono ?_⟩
    rintro e w' ⟨rfl, W1, hB, rfl⟩
    exact ⟨rfl, take_post hm hB _ (by unfold mset; simp [hf]; rfl)⟩
  · refine ⟨_, rfl, rfl, cf63, fun M m W hb hm => (takeT_any _ M 1 m.type f m W hb hm rfl).mono ?_⟩
    rintro e w' ⟨rfl, W1, hB, rfl⟩
    exact ⟨rfl, take_post hm hB _ (by unfold mset; simp [hf]; rfl)⟩
  · refine ⟨_, rfl, rfl, cf65, fun M m W hb hm => (takeN_any _ M 2 m.size f m W hb hm rfl).mono ?_⟩
    rintro e w' ⟨rfl, W1, hB, rfl⟩
    exact ⟨rfl, take_post hm hB _ (by unfold mset; simp [hf]; rfl)⟩
  · refine ⟨_, rfl, rfl, cf65, fun M m W hb hm => (takeN_any _ M 3 m.seq f m W hb hm rfl).mono ?_⟩
    rintro e w' ⟨rfl, W1, hB, rfl⟩
    exact ⟨rfl, take_post hm hB _ (by unfold mset; simp [hf]; rfl)⟩
  · refine ⟨_, rfl, rfl, cf63, fun M m W hb hm => (takeT_any _ M 4 m.file f m W hb hm rfl).mono ?_⟩
    rintro e w' ⟨rfl, W1, hB, rfl⟩
    exact ⟨rfl, take_post hm hB _ (by unfold mset; simp [hf]; rfl)⟩
  · refine ⟨_, rfl, rfl, cf63, fun M m W hb hm => (takeT_any _ M 5 m.kind f m W hb hm rfl).mono ?_⟩
    rintro e w' ⟨rfl, W1, hB, rfl⟩
    exact ⟨rfl, take_post hm hB _ (by unfold mset; simp [hf]; rfl)⟩
  · refine ⟨_, rfl, rfl, cf63, fun M m W hb hm => (takeT_any _ M 6 m.md5 f m W hb hm rfl).mono ?_⟩
    rintro e w' ⟨rfl, W1, hB, rfl⟩
    exact ⟨rfl, take_post hm hB _ (by unfold mset; simp [hf]; rfl)⟩
  · refine ⟨_, rfl, rfl, cf63, fun M m W hb hm => (takeT_any _ M 7 m.desc f m W hb hm rfl).mono ?_⟩
    rintro e w' ⟨rfl, W1, hB, rfl⟩
    exact ⟨rfl, take_post hm hB _ (by unfold mset; simp [hf]; rfl)⟩
theorem mall_num {m : MM} {f : Fld} (h : f ∈ mfields m) : ∃ i : Nat, i < 8 ∧ f.num = i + 1 ∧ (i = 0 → f.val = 1) := by
  obtain ⟨hf, hh⟩ := List.mem_filter.1 h
  simp only [mall, List.mem_cons, List.not_mem_nil, or_false] at hf
  rcases hf with rfl | rfl | rfl | rfl | rfl | rfl | rfl | rfl
  · refine ⟨0, by omega, rfl, fun _ => ?_⟩
    cases hm : m.multi
    · rw [hm] at hh; exact absurd hh (by decide +kernel)
    · rfl
  · exact ⟨1, by omega, rfl, by omega⟩
  · exact ⟨2, by omega, rfl, by omega⟩
  · exact ⟨3, by omega, rfl, by omega⟩
  · exact ⟨4, by omega, rfl, by omega⟩
  · exact ⟨5, by omega, rfl, by omega⟩
  · exact ⟨6, by omega, rfl, by omega⟩
  · exact ⟨7, by omega, rfl, by omega⟩
def mpick (a b : ByteArray) : ByteArray := if b.toList.isEmpty then a else b
def npick (a b : Nat) : Nat := if b = 0 then a else b
def mjoin (a b : MM) : MM := ⟨a.multi || b.multi, mpick a.type b.type, npick a.size b.size, npick a.seq b.seq, mpick a.file b.file, mpick a.kind b.kind, mpick a.md5 b.md5, mpick a.desc b.desc⟩
theorem mst1 (c : Bool) (kd : Int) (v : Nat) (t : ByteArray) (a1 : Bool) (a2 : ByteArray) (a3 : Nat) (a4 : Nat) (a5 : ByteArray) (a6 : ByteArray) (a7 : ByteArray) (a8 : ByteArray) : (if c = true then mset ⟨a1, a2, a3, a4, a5, a6, a7, a8⟩ ⟨1, kd, v, t⟩ else ⟨a1, a2, a3, a4, a5, a6, a7, a8⟩) = ⟨if c = true then true else a1, a2, a3, a4, a5, a6, a7, a8⟩ := by cases c <;> rfl
theorem mst2 (c : Bool) (kd : Int) (v : Nat) (t : ByteArray) (a1 : Bool) (a2 : ByteArray) (a3 : Nat) (a4 : Nat) (a5 : ByteArray) (a6 : ByteArray) (a7 : ByteArray) (a8 : ByteArray) : (if c = true then mset ⟨a1, a2, a3, a4, a5, a6, a7, a8⟩ ⟨2, kd, v, t⟩ else ⟨a1, a2, a3, a4, a5, a6, a7, a8⟩) = ⟨a1, if c = true then t else a2, a3, a4, a5, a6, a7, a8⟩ := by cases c <;> rfl
theorem mst3 (c : Bool) (kd : Int) (v : Nat) (t : ByteArray) (a1 : Bool) (a2 : ByteArray) (a3 : Nat) (a4 : Nat) (a5 : ByteArray) (a6 : ByteArray) (a7 : ByteArray) (a8 : ByteArray) : (if c = true then mset ⟨a1, a2, a3, a4, a5, a6, a7, a8⟩ ⟨3, kd, v, t⟩ else ⟨a1, a2, a3, a4, a5, a6, a7, a8⟩) = ⟨a1, a2, if c = true then v else a3, a4, a5, a6, a7, a8⟩ := by cases c <;> rfl
theorem mst4 (c : Bool) (kd : Int) (v : Nat) (t : ByteArray) (a1 : Bool) (a2 : ByteArray) (a3 : Nat) (a4 : Nat) (a5 : ByteArray) (a6 : ByteArray) (a7 : ByteArray) (a8 : ByteArray) : (if c = true then mset ⟨a1, a2, a3, a4, a5, a6, a7, a8⟩ ⟨4, kd, v, t⟩ else ⟨a1, a2, a3, a4, a5, a6, a7, a8⟩) = ⟨a1, a2, a3, if c = true then v else a4, a5, a6, a7, a8⟩ := by cases c <;> rfl
theorem mst5 (c : Bool) (kd : Int) (v : Nat) (t : ByteArray) (a1 : Bool) (a2 : ByteArray) (a3 : Nat) (a4 : Nat) (a5 : ByteArray) (a6 : ByteArray) (a7 : ByteArray) (a8 : ByteArray) : (if c = true then mset ⟨a1, a2, a3, a4, a5, a6, a7, a8⟩ ⟨5, kd, v, t⟩ else ⟨a1, a2, a3, a4, a5, a6, a7, a8⟩) = ⟨a1, a2, a3, a4, if c = true then t else a5, a6, a7, a8⟩ := by cases c <;> rfl
theorem mst6 (c : Bool) (kd : Int) (v : Nat) (t : ByteArray) (a1 : Bool) (a2 : ByteArray) (a3 : Nat) (a4 : Nat) (a5 : ByteArray) (a6 : ByteArray) (a7 : ByteArray) (a8 : ByteArray) : (if c = true then mset ⟨a1, a2, a3, a4, a5, a6, a7, a8⟩ ⟨6, kd, v, t⟩ else ⟨a1, a2, a3, a4, a5, a6, a7, a8⟩) = ⟨a1, a2, a3, a4, a5, if c = true then t else a6, a7, a8⟩ := by cases c <;> rfl
theorem mst7 (c : Bool) (kd : Int) (v : Nat) (t : ByteArray) (a1 : Bool) (a2 : ByteArray) (a3 : Nat) (a4 : Nat) (a5 : ByteArray) (a6 : ByteArray) (a7 : ByteArray) (a8 : ByteArray) : (if c = true then mset ⟨a1, a2, a3, a4, a5, a6, a7, a8⟩ ⟨7, kd, v, t⟩ else ⟨a1, a2, a3, a4, a5, a6, a7, a8⟩) = ⟨a1, a2, a3, a4, a5, a6, if c = true then t else a7, a8⟩ := by cases c <;> rfl
theorem mst8 (c : Bool) (kd : Int) (v : Nat) (t : ByteArray) (a1 : Bool) (a2 : ByteArray) (a3 : Nat) (a4 : Nat) (a5 : ByteArray) (a6 : ByteArray) (a7 : ByteArray) (a8 : ByteArray) : (if c = true then mset ⟨a1, a2, a3, a4, a5, a6, a7, a8⟩ ⟨8, kd, v, t⟩ else ⟨a1, a2, a3, a4, a5, a6, a7, a8⟩) = ⟨a1, a2, a3, a4, a5, a6, a7, if c = true then t else a8⟩ := by cases c <;> rfl
theorem mjoin_fold (a b : MM) : (mfields b).foldl mset a = mjoin a b := by
  obtain ⟨a1, a2, a3, a4, a5, a6, a7, a8⟩ := a
  obtain ⟨b1, b2, b3, b4, b5, b6, b7, b8⟩ := b
  unfold mfields
  rw [List.foldl_filter]
  have hT : ∀ (x : ByteArray) (n k : Int), fhas ⟨n, k, 0, x⟩ = !x.toList.isEmpty := by intro x n k; simp [fhas]
  have hN : ∀ (x : Nat) (n k : Int), fhas ⟨n, k, x, ⟨#[]⟩⟩ = !decide (x = 0) := by
    intro x n k
    have hE : (ByteArray.mk #[]).toList = [] := by decide +kernel
    by_cases hx : x = 0 <;> simp [fhas, hE, hx]
  simp only [mall, List.foldl_cons, List.foldl_nil, mst1, mst2, mst3, mst4, mst5, mst6, mst7, mst8, hT, hN, mjoin, mpick, npick]
  congr 1
  · cases b1 <;> simp
  · cases b2.toList.isEmpty <;> rfl
  · by_cases h : b3 = 0 <;> simp [h]
  · by_cases h : b4 = 0 <;> simp [h]
  · cases b5.toList.isEmpty <;> rfl
  · cases b6.toList.isEmpty <;> rfl
  · cases b7.toList.isEmpty <;> rfl
  · cases b8.toList.isEmpty <;> rfl
end Go.Proofs.Ytkanhggmhjldmaa

/- small laws on wrapping -/
namespace Go.Proofs.Ytkanhggmhjldmaa
open Go.RowKit
theorem wrap_small (i : Nat) (h : i < 9223372036854775808) : IntKind.i64.wrap (i : Int) = (i : Int) := by
  simp [IntKind.wrap, IntKind.bits, IntKind.signed]
  omega
theorem wrap_u64 (i : Nat) (h : i < 18446744073709551616) : IntKind.u64.wrap (i : Int) = (i : Int) := by
  simp [IntKind.wrap, IntKind.bits, IntKind.signed]
  omega
end Go.Proofs.Ytkanhggmhjldmaa

/- WALK: meta.Joined -/
namespace Go.Proofs.Ytkanhggmhjldmaa
open Go.RowKit Plain

theorem rd_other {w w' : World} {B M : Nat} {A : Option Addr} {xs : List Value} (h : Rd w B A xs) (hB : B ≤ w.heap.size) (hne : ∀ b off, A = some ⟨b, off, none⟩ → b ≠ M) (hg : w.grownBy w' (some M)) : Rd w' B A xs := by
  rcases h with h | ⟨b, off, rfl, hb, hc⟩
  · exact .inl h
  · refine .inr ⟨b, off, rfl, hb, fun i hi => ?_⟩
    rw [← hc i hi]
    have := hg.block b (by omega) (fun e => hne b off rfl (by have := Option.some.inj e; omega))
    simp [World.cell?, this]
theorem bxs_other {w w' : World} {l : List (Nat × Nat)} {m M : Nat} (h : bxs w l m) (hne : ∀ x ∈ l, x.1 ≠ M) (hg : w.grownBy w' (some M)) : bxs w' l m := fun x hx => by
  have := hg.block x.1 (h x hx).2 (fun e => hne x hx (by have := Option.some.inj e; omega))
  exact ⟨by rw [← (h x hx).1]; simp [World.cell?, this], Nat.lt_of_lt_of_le (h x hx).2 hg.size⟩
theorem grown_trans {a b c : World} {r : Option Nat} (h : a.grownBy b r) (k : b.grownBy c r) : a.grownBy c r := h.trans k
theorem grown_below {a b : World} {r : Option Nat} (h : Below a.heap.size a b) : a.grownBy b r := ⟨h.os, h.tape, h.output, h.size, fun k hk _ => h.block k hk⟩
theorem below_of_grown {B M : Nat} {a b c : World} (h : Below B a b) (g : b.grownBy c (some M)) (hM : B ≤ M) (hB : B ≤ a.heap.size) : Below B a c :=
  ⟨g.os.trans h.os, g.tape.trans h.tape, g.output.trans h.output, Nat.le_trans h.size g.size, fun k hk => (g.block k (by have := h.size; omega) (fun e => by have := Option.some.inj e; omega)).trans (h.block k hk)⟩
set_option maxRecDepth 100000 in
set_option maxHeartbeats 2000000 in
theorem mjoined_any (a b : MM) (w : World) : Calls Try.prog 14 #[.agg a.cells, .agg b.cells] w fun e w' => e = .returned (.agg (mjoin a b).cells) ∧ Below w.heap.size w w' := by
  rw [← mjoin_fold]
  have hml := mfields_len b
  have hnum : ∀ f ∈ mfields b, ∃ i : Nat, i < 8 ∧ f.num = i + 1 ∧ (i = 0 → f.val = 1) := fun f hf => mall_num hf
  have hfa := fields_any b
  generalize hl : mfields b = l at *
  obtain ⟨a1, a2, a3, a4, a5, a6, a7, a8⟩ := a
  obtain ⟨b1, b2, b3, b4, b5, b6, b7, b8⟩ := b
  clear hl
  generalize hm0 : (⟨a1, a2, a3, a4, a5, a6, a7, a8⟩ : MM) = m0 at *
  have hc0 : m0.cells = #[.bool a1, .string a2, .int .u64 a3, .int .u64 a4, .string a5, .string a6, .string a7, .string a8] := by rw [← hm0]; rfl
  rw [hc0]
  have HC0 := Lib.hid hc0
  clear hc0 hm0
  obtain ⟨M, hMM⟩ : ∃ M, l.foldl mset m0 = M := ⟨_, rfl⟩
  rw [hMM]
  obtain ⟨c1, c2, c3, c4, c5, c6, c7, c8⟩ := M
  have HMM := Lib.hid hMM
  clear hMM
  unfold MM.cells
  go_enter Try.func14, Try.ntmps14
  go_wp2_with fail
  refine (parts_any _ _).mono ?_
  rintro e w1 ⟨rfl, hrow, hX, hZ, hB1⟩
  simp only [World.size_alloc] at hrow hX hZ hB1 ⊢
  have hMo : BoxM w1 (w.heap.size + 1 + 1 + 1) m0 := by
    refine (hB1.block _ (by omega)).trans ?_
    rw [HC0.out]
    have := World.alloc_heap_new (((w.alloc (Obj.cells #[.bool a1, .string a2, .int .u64 a3, .int .u64 a4, .string a5, .string a6, .string a7, .string a8] 24)).alloc (Obj.cells #[.bool b1, .string b2, .int .u64 b3, .int .u64 b4, .string b5, .string b6, .string b7, .string b8] 24)).alloc (Obj.cells #[.bool false, .string ⟨#[]⟩, .int .u64 0, .int .u64 0, .string ⟨#[]⟩, .string ⟨#[]⟩, .string ⟨#[]⟩, .string ⟨#[]⟩] 24)) (Obj.cells #[.bool a1, .string a2, .int .u64 a3, .int .u64 a4, .string a5, .string a6, .string a7, .string a8] 24)
    simpa using this
  have hMb : BoxM w1 (w.heap.size + 1) ⟨b1, b2, b3, b4, b5, b6, b7, b8⟩ := by
    refine (hB1.block _ (by omega)).trans ?_
    rw [Below.heap_alloc _ _ _ (by simp), Below.heap_alloc _ _ _ (by simp)]
    have := World.alloc_heap_new (w.alloc (Obj.cells #[.bool a1, .string a2, .int .u64 a3, .int .u64 a4, .string a5, .string a6, .string a7, .string a8] 24)) (Obj.cells #[.bool b1, .string b2, .int .u64 b3, .int .u64 b4, .string b5, .string b6, .string b7, .string b8] 24)
    rw [World.size_alloc] at this
    exact this
  have hMr : BoxM w1 (w.heap.size + 1 + 1) ⟨false, ⟨#[]⟩, 0, 0, ⟨#[]⟩, ⟨#[]⟩, ⟨#[]⟩, ⟨#[]⟩⟩ := by
    refine (hB1.block _ (by omega)).trans ?_
    rw [Below.heap_alloc _ _ _ (by simp)]
    have := World.alloc_heap_new ((w.alloc (Obj.cells #[.bool a1, .string a2, .int .u64 a3, .int .u64 a4, .string a5, .string a6, .string a7, .string a8] 24)).alloc (Obj.cells #[.bool b1, .string b2, .int .u64 b3, .int .u64 b4, .string b5, .string b6, .string b7, .string b8] 24)) (Obj.cells #[.bool false, .string ⟨#[]⟩, .int .u64 0, .int .u64 0, .string ⟨#[]⟩, .string ⟨#[]⟩, .string ⟨#[]⟩, .string ⟨#[]⟩] 24)
    simp only [World.size_alloc] at this
    exact this
  have hW : Below w.heap.size w w1 := ((((((Below.refl _ w).alloc (Nat.le_refl _) _).alloc (by simp) _).alloc (by simp; omega) _).alloc (by simp; omega) _)).trans (hB1.mono (by omega))
  clear hB1
  obtain ⟨x0, x1, x2, x3, x4, x5, x6, x7⟩ : w1.cell? ⟨w.heap.size + 1, 0, none⟩ = some (.bool b1) ∧ w1.cell? ⟨w.heap.size + 1, 1, none⟩ = some (.string b2) ∧ w1.cell? ⟨w.heap.size + 1, 2, none⟩ = some (.int .u64 b3) ∧ w1.cell? ⟨w.heap.size + 1, 3, none⟩ = some (.int .u64 b4) ∧
      w1.cell? ⟨w.heap.size + 1, 4, none⟩ = some (.string b5) ∧ w1.cell? ⟨w.heap.size + 1, 5, none⟩ = some (.string b6) ∧ w1.cell? ⟨w.heap.size + 1, 6, none⟩ = some (.string b7) ∧ w1.cell? ⟨w.heap.size + 1, 7, none⟩ = some (.string b8) :=
    ⟨hMb.cell 0, hMb.cell 1, hMb.cell 2, hMb.cell 3, hMb.cell 4, hMb.cell 5, hMb.cell 6, hMb.cell 7⟩
  go_wp2_with fail
  refine (hfa w1).mono ?_
  rintro e w2 ⟨A, c, rfl, hown, hB2⟩
  have hr2 := Rd.of_own hown
  have hAg : ∀ b off, A = some ⟨b, off, none⟩ → b ≠ w.heap.size + 1 + 1 + 1 := by
    rintro b off rfl
    have := (hown.lt b (by simp [Value.ownBlock])).1
    omega
  have hrow2 := (hB2.block _ (by omega)).trans hrow
  have hX2 := hX.below hB2
  have hM2 := hMo.below hB2 (by omega)
  have hMr2 := hMr.below hB2 (by omega)
  have hW2 := bel_step hW hB2
  have hs2 := hB2.size
  clear hown hB2 hW hMb hMo hMr hX hrow hfa x0 x1 x2 x3 x4 x5 x6 x7
  have hAge : ∀ b off, A = some ⟨b, off, none⟩ → b ≠ w.heap.size + 1 + 1 + 1 := hAg
  go_wp2_with fail
  go_loopw [14] (fun i wr => ∃ j : Nat, i = .int .i64 j ∧ j ≤ l.length ∧ BoxM wr (w.heap.size + 1 + 1 + 1) ((l.take j).foldl mset m0) ∧ w2.grownBy wr (some (w.heap.size + 1 + 1 + 1))) (fun i _ => l.length - (intOf i).toNat)
  case atStart => exact ⟨0, rfl, Nat.zero_le _, hM2, World.grownBy.refl _ _⟩
  case round =>
    clear hM2
    obtain ⟨j, rfl, hj, hM2, hg⟩ := hrel
    have hgs := hg.size
    by_cases hlt : j < l.length
    · obtain ⟨f, hf⟩ : ∃ f, l[j]? = some f := ⟨_, List.getElem?_eq_getElem hlt⟩
      obtain ⟨i, hi8, hfn, hf1⟩ := hnum f (List.mem_of_getElem? hf)
      have hft : (l.take (j + 1)).foldl mset m0 = mset ((l.take j).foldl mset m0) f := by rw [List.take_add_one, hf]; simp
      obtain ⟨b1, o1, rfl, hb1, g0, g1, g2, g3⟩ := fld_at (rd_other hr2 (Nat.le_refl _) hAge hg) hf
      obtain ⟨p, hp, hpb, hcf, htake⟩ := takes_any i hi8 (w.heap.size + 1 + 1 + 1 + 1) f hfn hf1
      obtain ⟨q0, q1, q2, q3⟩ := prt_cell ((hg.block _ (by omega) (fun e => by have := Option.some.inj e; omega)).trans hrow2) hp
      have hbx := bxs_other hX2 (by intro x hx; obtain ⟨k, _, rfl⟩ := List.mem_map.1 hx; simp; omega) hg (p.box, i) (by rw [hpb]; exact List.mem_map.2 ⟨i, by simpa using hi8, rfl⟩)
      obtain ⟨fn, fk, fv, ft⟩ := f
      obtain ⟨pn, pk, pt, pa, pb⟩ := p
      simp only at hfn g0 g1 g2 g3 hpb hcf htake q0 q1 q2 q3 hbx
      subst hpb
      have hw2 : IntKind.i64.wrap (fn - 1) = (i : Int) := by rw [show fn - 1 = (i : Int) by omega]; exact wrap_small i (by omega)
      have HFN := Lib.hid hfn
      clear hfn
      have HFT := Lib.hid hft
      clear hft hf hp hf1
      have HM2 := Lib.hid hM2
      have hF := BoxF.new wr fn fk fv ft
      have hpb := (Below.refl wr.heap.size wr).alloc (Nat.le_refl _) (Obj.cells #[.int .i64 fn, .int .i64 fk, .int .u64 fv, .string ft] 49)
      clear q0 q1 q2
      go_wp2_with fail
      generalize hWp : wr.alloc (Obj.cells #[.int .i64 fn, .int .i64 fk, .int .u64 fv, .string ft] 49) = Wp at *
      obtain ⟨d0, d1, d2, d3⟩ := hF.cells
      have q3' := (hpb.cell (by simp; omega)).trans q3
      clear g0 g1 g2 g3 q3 hWp
      have hi8' : (i : Int) < 8 := by omega
      go_still_tail 8, (by kernel_rfl)
      change wpList _ _ _ _ _ Wp.drew
      go_wp2_with fail
      have hMd : BoxM Wp.drew (w.heap.size + 1 + 1 + 1) ((l.take j).foldl mset m0) := HM2.out.below hpb.drew HM2.out.lt
      refine (htake _ _ Wp.drew ((hpb.cell hbx.2).trans hbx.1) hMd).mono ?_
      rintro e w3 ⟨rfl, hM3, hg3⟩
      have hg4 : w2.grownBy w3 (some (w.heap.size + 1 + 1 + 1)) := (hg.trans (grown_below hpb)).trans ⟨hg3.os, hg3.tape, hg3.output, hg3.size, hg3.block⟩
      rw [← HFT.out] at hM3
      clear hMd hg3 htake hcf d0 d1 d2 d3 q3'
      go_wp2_with fail
      go_roundw
      case rel => exact ⟨j + 1, by go_num, by omega, hM3, hg4⟩
      case measure => simp [intOf]; omega
    · rw [List.take_of_length_le (by omega)] at hM2
      have hW3 := below_of_grown hW2 hg (by omega) (Nat.le_refl _)
      rw [HMM.out] at hM2
      obtain ⟨x0, x1, x2, x3, x4, x5, x6, x7⟩ : wr.cell? ⟨w.heap.size + 1 + 1 + 1, 0, none⟩ = some (.bool c1) ∧ wr.cell? ⟨w.heap.size + 1 + 1 + 1, 1, none⟩ = some (.string c2) ∧ wr.cell? ⟨w.heap.size + 1 + 1 + 1, 2, none⟩ = some (.int .u64 c3) ∧ wr.cell? ⟨w.heap.size + 1 + 1 + 1, 3, none⟩ = some (.int .u64 c4) ∧
          wr.cell? ⟨w.heap.size + 1 + 1 + 1, 4, none⟩ = some (.string c5) ∧ wr.cell? ⟨w.heap.size + 1 + 1 + 1, 5, none⟩ = some (.string c6) ∧ wr.cell? ⟨w.heap.size + 1 + 1 + 1, 6, none⟩ = some (.string c7) ∧ wr.cell? ⟨w.heap.size + 1 + 1 + 1, 7, none⟩ = some (.string c8) :=
        ⟨hM2.cell 0, hM2.cell 1, hM2.cell 2, hM2.cell 3, hM2.cell 4, hM2.cell 5, hM2.cell 6, hM2.cell 7⟩
      have hMr3 : BoxM wr (w.heap.size + 1 + 1) _ := (hg.block _ (by omega) (fun e => by have := Option.some.inj e; omega)).trans hMr2
      obtain ⟨y0, y1, y2, y3, y4, y5, y6, y7⟩ : wr.cell? ⟨w.heap.size + 1 + 1, 0, none⟩ = some (.bool false) ∧ wr.cell? ⟨w.heap.size + 1 + 1, 1, none⟩ = some (.string ⟨#[]⟩) ∧ wr.cell? ⟨w.heap.size + 1 + 1, 2, none⟩ = some (.int .u64 0) ∧ wr.cell? ⟨w.heap.size + 1 + 1, 3, none⟩ = some (.int .u64 0) ∧
          wr.cell? ⟨w.heap.size + 1 + 1, 4, none⟩ = some (.string ⟨#[]⟩) ∧ wr.cell? ⟨w.heap.size + 1 + 1, 5, none⟩ = some (.string ⟨#[]⟩) ∧ wr.cell? ⟨w.heap.size + 1 + 1, 6, none⟩ = some (.string ⟨#[]⟩) ∧ wr.cell? ⟨w.heap.size + 1 + 1, 7, none⟩ = some (.string ⟨#[]⟩) :=
        ⟨hMr3.cell 0, hMr3.cell 1, hMr3.cell 2, hMr3.cell 3, hMr3.cell 4, hMr3.cell 5, hMr3.cell 6, hMr3.cell 7⟩
      have hz : ∀ i, wr.frozen? ⟨w.heap.size + 1 + 1, i, none⟩ = false := fun i => by simp [World.frozen?, show wr.heap[w.heap.size + 1 + 1]? = _ from hMr3]
      have z0 := hz 0
      have z1 := hz 1
      have z2 := hz 2
      have z3 := hz 3
      have z4 := hz 4
      have z5 := hz 5
      have z6 := hz 6
      have z7 := hz 7
      clear hz hMr3 hMr2 hX2 hrow2 hnum hM2
      go_wp2_with fail
      (try simp only [Exit.inBlock, Exit.then])
      refine bodyPost_ret (v := .agg #[.bool c1, .string c2, .int .u64 c3, .int .u64 c4, .string c5, .string c6, .string c7, .string c8]) ?_ rfl ⟨rfl, ?_⟩
      · rw [results_cell rfl]; go_simp
      · exact (((((((hW3.setCell (by show w.heap.size ≤ w.heap.size + 1 + 1; omega) _).setCell (by show w.heap.size ≤ w.heap.size + 1 + 1; omega) _).setCell (by show w.heap.size ≤ w.heap.size + 1 + 1; omega) _).setCell (by show w.heap.size ≤ w.heap.size + 1 + 1; omega) _).setCell (by show w.heap.size ≤ w.heap.size + 1 + 1; omega) _).setCell (by show w.heap.size ≤ w.heap.size + 1 + 1; omega) _).setCell (by show w.heap.size ≤ w.heap.size + 1 + 1; omega) _).setCell (by show w.heap.size ≤ w.heap.size + 1 + 1; omega) _
end Go.Proofs.Ytkanhggmhjldmaa
