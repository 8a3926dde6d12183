/- Several texts in one: words, plain laws and walks that the statement's proof imports. -/
import Derived.Test.YtlgokfgbcohioaaDoorK2
import Derived.Test.YtlgokfgbcohioaaDoorK1
import Derived.ProofKit
import Derived.OpenShut
import Derived.ShutString
import Derived.ChangeOld
import Derived.Below
import Derived.JoinedCond
import Derived.SizedLaws
import Derived.Lib.SmallJoins
import Derived.Lib.LaidTab
import Derived.LoopTactic
import Derived.Laws.ResultCell
import Derived.RangeFuncRecord
import Derived.BigQuiet
import Derived.Deep.QuietTactic
import Derived.Test.YtlgokfgbcohioaaDoorProg
import Derived.RangeFuncBox
import Derived.RangeFuncLeaves
import Derived.RangeFuncWrites
import Derived.Shelf.Abstract
import Derived.OwnWalkIn
import Derived.TacticsInMore
import Derived.LoopNIn
import Derived.LoopIn
import Derived.WalkMore
import Derived.ControlIn
import Derived.RegionTactic
import Derived.RegionIn
import Derived.Shelf.RegionOpen
import Derived.RangeFuncCalls
import Derived.Laws.BitsAllLaws
/- WALK: the reference's one of layer 3. -/
namespace Go.Proofs.YtlgokfgbcohioaaDoor
open Go.RowKit Plain


set_option maxHeartbeats 1000000 in
theorem rone_any (num kind : Nat) (val : Nat) (text : ByteArray) (hnum : num < 536870912) (hkind : kind = 0 ∨ kind = 1 ∨ kind = 2 ∨ kind = 5) (hv : val < 18446744073709551616) (h5 : kind = 5 → val < 4294967296) (hlen : text.size ≤ 1048576) (w : World) :
    Calls Tryd.prog 68 #[.agg #[.int .i64 num, .int .i64 kind, .int .u64 val, .string text]] w fun e w' => ∃ A' c', e = .returned (.slice A' (wenc num kind val text.data.toList).length c') ∧
      w'.ownsRow w.heap.size 5 1 (.slice A' (wenc num kind val text.data.toList).length c') (wenc num kind val text.data.toList).length (bcl (wenc num kind val text.data.toList)) ∧ Below w.heap.size w w' := by
  obtain ⟨T, hT⟩ : ∃ T : Nat, 8 * num + kind = T := ⟨_, rfl⟩
  have htag : (num : Int) * 8 + kind = T := by omega
  have HT := Lib.hid hT
  have hT64 : T < 18446744073709551616 := by omega
  clear hT
  have hB1 := (Below.refl w.heap.size w).alloc (Nat.le_refl _) (Obj.cells #[Value.int IntKind.i64 num, Value.int IntKind.i64 kind, Value.int IntKind.u64 val, Value.string text] 73)
  have hbd := vsize_bd T
  go_enter Tryd.func68, Tryd.ntmps68
  go_wp2_with fail
  refine (rvput_any T hT64 _).mono ?_
  rintro e w1 ⟨A1, c1, rfl, ho1, hB2⟩
  have hF := (BoxF.new w (num : Int) (kind : Int) val text).below hB2 (by simp)
  have hown2 := own_base ho1 (show w.heap.size ≤ _ by simp)
  have hB3 := hB1.trans (hB2.mono (by simp))
  have hbw3 := hB3.size
  obtain ⟨d0, d1, d2, d3⟩ := hF.cells
  clear ho1 hB2 hB1
  go_wp2_with fail
  all_goals have hvs := vsize_bd val
  · have hk1 : kind = 1 := by have := eq_of_beq (by assumption : ((kind : Int) == 1) = true); omega
    refine (rput8_any val hv _).mono ?_
    rintro e w4 ⟨A4, c4, rfl, ho4, hB5⟩
    have hbw4 := hB5.size
    have ho3' := own_kept hown2 hB5 (by omega)
    have hr4 := Rd.of_own ho4
    have hB6 := hB3.trans (hB5.mono (by omega))
    clear hown2 ho4 hB3 hB5
    go_wp2_with (at_builtin; refine wpList_appB rfl _ _ rfl rfl ho3' rfl hr4 (le_length _ _) (vsize T + 8) rfl (by omega) (by omega) ?_; intro A5 c5 w5 ho5 hg5)
    go_ret
    exact wput_end ho5 (by unfold wenc; rw [if_neg (by omega), if_pos hk1, HT.out]) (by simp [vsize, le_length]) (own_grown hB6 ho3' (by omega) hg5)
  · have hk5 : kind = 5 := by have := eq_of_beq (by assumption : ((kind : Int) == 5) = true); omega
    have hv4 := h5 hk5
    have hv5 : ((val : Int) % 4294967296) = (val : Int) := Int.emod_eq_of_lt (by omega) (by omega)
    rw [hv5]
    refine (rput4_any val hv4 _).mono ?_
    rintro e w4 ⟨A4, c4, rfl, ho4, hB5⟩
    have hbw4 := hB5.size
    have ho3' := own_kept hown2 hB5 (by omega)
    have hr4 := Rd.of_own ho4
    have hB6 := hB3.trans (hB5.mono (by omega))
    clear hown2 ho4 hB3 hB5 hv4 hv5 h5
    go_wp2_with (at_builtin; refine wpList_appB rfl _ _ rfl rfl ho3' rfl hr4 (le_length _ _) (vsize T + 4) rfl (by omega) (by omega) ?_; intro A5 c5 w5 ho5 hg5)
    go_ret
    exact wput_end ho5 (by unfold wenc; rw [if_neg (by omega), if_neg (by omega), if_pos hk5, HT.out]) (by simp [vsize, le_length]) (own_grown hB6 ho3' (by omega) hg5)
  · have hk2 : kind = 2 := by have := eq_of_beq (by assumption : ((kind : Int) == 2) = true); omega
    clear h5
    refine (rvput_any text.size (by omega) _).mono ?_
    rintro e w4 ⟨A4, c4, rfl, ho4, hB5⟩
    have hbw4 := hB5.size
    have ho3' := own_kept hown2 hB5 (by omega)
    have hr4 := Rd.of_own ho4
    have hB6 := hB3.trans (hB5.mono (by omega))
    have hF4 := hF.below hB5 hF.lt
    have hts := vsize_bd text.size
    clear hown2 ho4 hB3 hB5 d0 d1 d2 d3 hF
    go_wp2_with (at_builtin; first
      | (refine wpList_appB rfl _ _ rfl rfl ho3' rfl hr4 rfl (vsize T + vsize text.size) rfl (by omega) (by omega) ?_; intro A5 c5 w5 ho5 hg5; have hF5 := hF4.row ho3' hg5; have hB7 := own_grown hB6 ho3' (by omega) hg5; have hbw7 := hB7.size; obtain ⟨_, _, _, e3⟩ := hF5.cells; clear hg5 hF5 hF4 ho3' hB6 hr4)
      | (refine wpList_appS rfl _ _ rfl rfl ho5 rfl (vsize T + vsize text.size + text.size) rfl (by omega) (by omega) ?_; intro A6 c6 w6 ho6 hg6))
    go_ret
    exact wput_end ho6 (by unfold wenc; rw [if_neg (by omega), if_neg (by omega), if_neg (by omega), HT.out]; simp) (by simp [vsize]; omega) (own_grown hB7 ho5 (by omega) hg6)
  · have hk0 : kind = 0 := by
      have a1 : ¬ (kind : Int) = 1 := by simpa using (by assumption : ((kind : Int) == 1) = false)
      have a2 : ¬ (kind : Int) = 2 := by simpa using (by assumption : ((kind : Int) == 2) = false)
      have a5 : ¬ (kind : Int) = 5 := by simpa using (by assumption : ((kind : Int) == 5) = false)
      omega
    refine (rvput_any val hv _).mono ?_
    rintro e w4 ⟨A4, c4, rfl, ho4, hB5⟩
    have hbw4 := hB5.size
    have ho3' := own_kept hown2 hB5 (by omega)
    have hr4 := Rd.of_own ho4
    have hB6 := hB3.trans (hB5.mono (by omega))
    clear hown2 ho4 hB3 hB5
    go_wp2_with (at_builtin; refine wpList_appB rfl _ _ rfl rfl ho3' rfl hr4 rfl (vsize T + vsize val) rfl (by omega) (by omega) ?_; intro A5 c5 w5 ho5 hg5)
    go_ret
    exact wput_end ho5 (by unfold wenc; rw [if_pos hk0, HT.out]) (by simp [vsize]) (own_grown hB6 ho3' (by omega) hg5)
end Go.Proofs.YtlgokfgbcohioaaDoor

/- WALK: the reference's Put of layer 3. -/
namespace Go.Proofs.YtlgokfgbcohioaaDoor
open Go.RowKit Plain

set_option maxHeartbeats 1000000 in
theorem rputs_any (l : List Fld) (A : Option Addr) (c : Nat) (hl : l.length ≤ 9223372036854775807) (hwf : ∀ f ∈ l, FldOk f) (w : World) (hr : Rd w w.heap.size A (flc l)) :
    Calls Tryd.prog 39 #[.slice A l.length c] w (PutsPost l w) := by
  have HR := Lib.hid hr
  have HWF := Lib.hid hwf
  clear hr hwf
  go_enter Tryd.func39, Tryd.ntmps39
  go_wp2_with fail
  go_loopw [4] (fun i wr => ∃ j : Nat, i = .int .i64 j ∧ j ≤ l.length ∧ werrs l = werrs (l.drop j) ∧ Below w.heap.size w wr) (fun i _ => l.length - (intOf i).toNat)
  case atStart => exact ⟨0, rfl, Nat.zero_le _, rfl, Below.refl _ _⟩
  case round =>
    obtain ⟨j, rfl, hj, he, hB⟩ := hrel
    have HE := Lib.hid he
    clear he
    by_cases hlt : j < l.length
    · obtain ⟨f, hf⟩ : ∃ f, l[j]? = some f := ⟨_, List.getElem?_eq_getElem hlt⟩
      obtain ⟨b1, o1, rfl, hb1, g0, g1, g2, g3⟩ := fld_at (HR.out.below hB (Nat.le_refl _)) hf
      have HD := Lib.hid (drop_cons hf)
      have hBA := hB
      by_cases h0 : werrF f = 0
      · have H0 := Lib.hid h0
        clear h0 hf
        go_wp2_with (go_at_call 67; refine (rwrong_any _ _ _ _ _).mono ?_; rintro e w1 ⟨rfl, hB1⟩; rw [show wwrong f.num f.kind f.val f.text.toList.isEmpty = 0 from H0.out]; replace hBA := bel_step hBA hB1)
        go_roundw
        case rel => exact ⟨j + 1, by go_num, by omega, by rw [HE.out, HD.out, werrs, if_pos H0.out], hBA⟩
        case measure => simp [intOf]; omega
      · obtain ⟨E, hE⟩ : ∃ E, werrF f = E := ⟨_, rfl⟩
        have h0b : (E != 0) = true := by rw [← hE]; simpa using h0
        have H0 := Lib.hid hE
        have HW : Hid (werrs l = E) := Lib.hid (by rw [HE.out, HD.out, werrs, if_neg h0, hE])
        have HN := Lib.hid h0
        clear h0 hf hE
        go_wp2_with (go_at_call 67; refine (rwrong_any _ _ _ _ _).mono ?_; rintro e w1 ⟨rfl, hB1⟩; rw [show wwrong f.num f.kind f.val f.text.toList.isEmpty = E from H0.out]; replace hBA := bel_step hBA hB1)
        go_ret2
        exact puts_err (by unfold wput; rw [if_neg (by rw [HW.out, ← H0.out]; exact HN.out), HW.out]) hBA
    · have hz : werrs l = 0 := by rw [HE.out, List.drop_eq_nil_of_le (by omega)]; rfl
      have HZ := Lib.hid hz
      clear hz HE
      have HB := Lib.hid hB
      by_cases hfull : 256 < l.length
      · have hb : decide ((256 : Int) < (l.length : Int)) = true := by simp; omega
        go_wp2_with fail
        go_ret2
        exact puts_err (by unfold wput; rw [if_pos HZ.out, if_pos hfull]) hB
      · go_wp2_with fail
        clear hB hlt hj
        have hB := HB.out
        go_loopw [6, 7] (fun o i wr => ∃ (j : Nat) (A2 : Option Addr) (c2 N : Nat), i = .int .i64 j ∧ o = .slice A2 N c2 ∧ j ≤ l.length ∧ N = (wencs (l.take j)).length ∧ N ≤ 4096 ∧ wr.ownsRow w.heap.size 5 1 (.slice A2 N c2) N (bcl (wencs (l.take j))) ∧ Below w.heap.size w wr) (fun _ i _ => l.length - (intOf i).toNat)
        case atStart => exact ⟨0, none, 0, 0, rfl, rfl, Nat.zero_le _, rfl, by omega, World.ownsRow_nil _ _ _ _, hB⟩
        case round =>
          clear hB HB
          obtain ⟨j, A2, c2, N, rfl, rfl, hj, hN, hN4, hown, hB⟩ := hrel
          have HNN := Lib.hid hN
          by_cases hlt : j < l.length
          · obtain ⟨f, hf⟩ : ∃ f, l[j]? = some f := ⟨_, List.getElem?_eq_getElem hlt⟩
            obtain ⟨b1, o1, rfl, hb1, g0, g1, g2, g3⟩ := fld_at (HR.out.below hB (Nat.le_refl _)) hf
            have HT := Lib.hid (wencs_take hf)
            obtain ⟨k0, k1, k2, k3, k4, k5⟩ := werrF_ok (werrs_mem HZ.out f (List.mem_of_getElem? hf))
            have hval := (HWF.out f (List.mem_of_getElem? hf)).2.2
            have hle := wencs_len l (j + 1)
            rw [wencs_take hf, List.length_append, ← hN] at hle
            clear hN hf
            obtain ⟨fnum, fkind, fval, ftext⟩ := f
            obtain ⟨num, rfl⟩ := Int.eq_ofNat_of_zero_le (show 0 ≤ fnum by simp at k0; omega)
            obtain ⟨kind, rfl⟩ := Int.eq_ofNat_of_zero_le (show 0 ≤ fkind by simp at k2; omega)
            have k1' : (num : Int) < 536870912 := k1
            have k2' : (kind : Int) = 0 ∨ (kind : Int) = 1 ∨ (kind : Int) = 2 ∨ (kind : Int) = 5 := k2
            have k3' : (kind : Int) = 5 → fval < 4294967296 := k3
            clear k1 k2 k3
            have HTW : Hid (wencF ⟨num, kind, fval, ftext⟩ = wenc num kind fval ftext.data.toList) := Lib.hid rfl
            have htx : ftext.size ≤ (wenc num kind fval ftext.data.toList).length := by
              by_cases hk2 : kind = 2
              · exact wenc_text _ _ _ _ hk2
              · have := k5 (by simp; omega)
                have e0 : ftext.size = 0 := size_empty this
                omega
            simp only [HTW.out] at hle
            clear k4 k5
            by_cases hlong : 4096 < ftext.size
            · have hlb : decide ((4096 : Int) < (ftext.size : Int)) = true := by simp; omega
              have HLO := Lib.hid hlong
              clear hlong
              go_wp2_with fail
              go_ret2
              exact puts_err (by unfold wput; rw [if_pos HZ.out, if_neg hfull, if_pos (by have := HLO.out; omega)]) hB
            · have HTX := Lib.hid htx
              have hlb : decide ((4096 : Int) < (ftext.size : Int)) = false := by simp; omega
              have HLO := Lib.hid hlong
              clear htx hlong
              go_wp2_with fail
              have hlong := HLO.out
              have htx := HTX.out
              refine (rone_any num kind fval ftext (by omega) (by omega) hval (fun h => k3' (by omega)) (by omega) _).mono ?_
              rintro e w1 ⟨A3, c3, rfl, ho3, hB3⟩
              have hown3 := own_kept hown hB3 (Nat.le_refl _)
              have hr3 := Rd.of_own ho3
              have hB4 := bel_step hB hB3
              have hM : N + (wenc num kind fval ftext.data.toList).length = (wencs (l.take (j + 1))).length := by rw [HT.out, HTW.out, List.length_append, ← HNN.out]
              have hwl : (wenc num kind fval ftext.data.toList).length ≤ 1048600 := wenc_len _ _ _ _ (by have := htx; simp; omega)
              obtain ⟨M, hM2⟩ : ∃ M, (wencs (l.take (j + 1))).length = M := ⟨_, rfl⟩
              have hbase := hB4.size
              have HM := Lib.hid hM2
              rw [hM2] at hM
              have hle2 := wencs_len l (j + 1)
              rw [hM2] at hle2
              have HMB : Hid (M ≤ 1060000) := Lib.hid (by omega)
              clear hown hB hB3 ho3 hwl k1' k2' k3' hval hle
              have HLE := Lib.hid hle2
              have HMM := Lib.hid hM
              clear hle2 hM HTX hlong htx HLO
              by_cases hfin : 4096 < M
              · have hb : decide ((4096 : Int) < (M : Int)) = true := by simp; omega
                have HF := Lib.hid hfin
                clear hfin hN4
                go_wp2_with (at_builtin; refine wpList_appB rfl _ _ rfl rfl hown3 rfl hr3 rfl M HMM.out (by have := HMB.out; omega) (by omega) ?_; intro A5 c5 w5 ho5 hg5)
                go_ret2
                exact puts_err (by unfold wput; rw [if_pos HZ.out, if_neg hfull, if_pos (by have := HF.out; have := HLE.out; omega)]) (own_grown hB4 hown3 (by omega) hg5)
              · have hb : decide ((4096 : Int) < (M : Int)) = false := by simp; omega
                have HF := Lib.hid hfin
                clear hfin hN4
                go_wp2_with (at_builtin; refine wpList_appB rfl _ _ rfl rfl hown3 rfl hr3 rfl M HMM.out (by have := HMB.out; omega) (by omega) ?_; intro A5 c5 w5 ho5 hg5)
                go_roundw
                case rel => exact ⟨j + 1, A5, c5, M, by go_num, rfl, by omega, HM.out.symm, by have := HF.out; omega, by rw [HT.out, HTW.out]; exact ho5, own_grown hB4 hown3 (by omega) hg5⟩
                case measure => simp [intOf]; omega
          · have e : l.take j = l := List.take_of_length_le (by omega)
            rw [e] at hown hN HNN
            subst hN
            go_wp2_with fail
            go_ret2
            have hw : wput l = (wencs l, 0) := by unfold wput; rw [if_pos HZ.out, if_neg hfull, if_neg (by omega)]
            exact ⟨A2, c2, by rw [hw]; rfl, by rw [hw]; exact hown, hB⟩
end Go.Proofs.YtlgokfgbcohioaaDoor

/- append onto a row of fields of the call's own -/
namespace Go.Proofs.YtlgokfgbcohioaaDoor
open Go.RowKit

theorem elemF : Elem Tryd.prog 51 73 (.agg #[.int .i64 0, .int .i64 0, .int .u64 0, .string ⟨#[]⟩]) 4 40 :=
  ⟨Tryd.underlying51, info_parts (show (Tryd.prog.info? 73).map (fun i => (i.zero, i.size, i.bytes)) = some (some (.agg #[.int .i64 0, .int .i64 0, .int .u64 0, .string ⟨#[]⟩]), 4, 40) by kernel_rfl), rfl, by omega⟩
theorem fld_one (L : List Fld) : ∀ u ∈ flc L, u.oneCell' = true := by
  intro u hu
  obtain ⟨f, _, hf⟩ := List.mem_flatMap.1 hu
  simp [Fld.cells] at hf
  rcases hf with rfl | rfl | rfl | rfl <;> rfl
section
variable {w : World} {ops : Array Oper} {rest : List Oper} {o : Oper} {a : Act} {Q : Exit → Act → World → Prop}
theorem wpList_appF (hgd : o.guard = none) (s x : Operand)
    (ho : o.op = .call { callee := .builtin .append, args := #[s, x], argTypes := #[51, 51] })
    {base n c : Nat} {A : Option Addr} {l : List Fld} (hs : a.eval s = .slice A n c)
    (hown : w.ownsRow base 73 4 (.slice A n c) n (flc l)) {B m c2 : Nat} {A2 : Option Addr} {l2 : List Fld} (hx : a.eval x = .slice A2 m c2) (hr : Rd w B A2 (flc l2)) (hl : l2.length = m)
    (N : Nat) (hN : n + m = N) (hbd : N ≤ 1000000) (hbase : base ≤ w.heap.size)
    (h : ∀ A' c' w', w'.ownsRow base 73 4 (.slice A' N c') N (flc (l ++ l2)) → w.grownBy w' (Value.slice A n c).ownBlock → wpList Tryd.prog ops Q rest (a.put o.dst (.slice A' N c')) w') :
    wpList Tryd.prog ops Q (o :: rest) a w := by
  subst hN
  refine wpList_app hgd s x _ ho elemF hs hown hx hr (by rw [flc_len]; omega) (fld_one l2) (by unfold maxLen; omega) (by omega) hbase fun A' c' w' h1 h2 _ => h A' c' w' ?_ h2
  rw [show flc (l ++ l2) = flc l ++ flc l2 by simp [flc]]
  exact h1
theorem wpList_appF1 (hgd : o.guard = none) (s x : Operand)
    (ho : o.op = .call { callee := .builtin .append, args := #[s, x], argTypes := #[51, 51] })
    {base n c : Nat} {A : Option Addr} {l : List Fld} (hs : a.eval s = .slice A n c)
    (hown : w.ownsRow base 73 4 (.slice A n c) n (flc l)) {c2 : Nat} (f : Fld) {k : Nat} (hx : a.eval x = .slice (some ⟨k, 0, none⟩) 1 c2) (hk : k = w.heap.size)
    (hbd : n ≤ 1000000) (hbase : base ≤ w.heap.size)
    (h : ∀ A' c' w', w'.ownsRow base 73 4 (.slice A' (n + 1) c') (n + 1) (flc (l ++ [f])) → w.grownBy w' (Value.slice A n c).ownBlock → wpList Tryd.prog ops Q rest (a.put o.dst (.slice A' (n + 1) c')) w') :
    wpList Tryd.prog ops Q (o :: rest) a (w.alloc (.cells #[.int .i64 f.num, .int .i64 f.kind, .int .u64 f.val, .string f.text] 73)) := by
  subst hk
  refine wpList_app1 hgd s x _ ho elemF hs hown hx rfl (by intro u hu; simp at hu; rcases hu with rfl | rfl | rfl | rfl <;> rfl) (by unfold maxLen; omega) (by omega) hbase fun A' c' w' h1 h2 _ => h A' c' w' ?_ h2
  rw [show flc (l ++ [f]) = flc l ++ f.cells by simp [flc]]
  exact h1
end
theorem elemI : Elem Tryd.prog 95 3 (.int .i64 0) 1 8 :=
  ⟨Tryd.underlying95, info_parts (show (Tryd.prog.info? 3).map (fun i => (i.zero, i.size, i.bytes)) = some (some (.int .i64 0), 1, 8) by kernel_rfl), rfl, by omega⟩
/-- the object of a row of the call's own -/
theorem own_obj {W : World} {base : Nat} {e : TypeId} {size n : Nat} {v : Value} {xs : List Value} {g : Nat} (h : W.ownsRow base e size v n xs) (hg : v.ownBlock = some g) : ∃ cur, W.heap[g]? = some (.cells cur e (0, 0)) := by
  rcases h.2 with ⟨hv, _⟩ | ⟨g2, cap, cur, hv, _, hh, _⟩
  · rw [hv] at hg; simp [Value.ownBlock] at hg
  · rw [hv] at hg
    obtain rfl : g2 = g := by simpa [Value.ownBlock] using hg
    exact ⟨cur, hh⟩
theorem own_other {W W' : World} {base : Nat} {e : TypeId} {size n : Nat} {v : Value} {xs : List Value} {row : Option Nat} (h : W.ownsRow base e size v n xs) (hg : W.grownBy W' row) (hne : ∀ g cur, W.heap[g]? = some (.cells cur e (0, 0)) → row ≠ some g) : W'.ownsRow base e size v n xs := by
  refine ⟨h.1, ?_⟩
  rcases h.2 with h2 | ⟨g, cap, cur, hv, hgb, hh, r⟩
  · exact .inl h2
  · exact .inr ⟨g, cap, cur, hv, hgb, (hg.block g (Array.getElem?_eq_some_iff.1 hh).1 (fun e => hne g cur hh e.symm)).trans hh, r⟩
theorem own_ne {W : World} {base : Nat} {e e2 : TypeId} {size n : Nat} {v : Value} {xs : List Value} (h : W.ownsRow base e size v n xs) (he : e ≠ e2) {g : Nat} {cur : Array Value} {fr : Nat × Nat} (hg : W.heap[g]? = some (.cells cur e2 fr)) : v.ownBlock ≠ some g := fun h2 => by
  obtain ⟨c2, h3⟩ := own_obj h h2
  rw [hg] at h3
  simp at h3
  exact he h3.2.1.symm
end Go.Proofs.YtlgokfgbcohioaaDoor

/- THE ROW's STEP, in general: a law that answers true and writes nothing that was there; arguments opened into the words of XBase. -/
namespace Go.Proofs.YtlgokfgbcohioaaDoor
open Go.ChangeShapes Go.WideShapes Go.ChangeAt Go.RowKit

section
variable {H : Type} {enc : TypeId × Value → H} {P : Program}

theorem trodAll_stays (hl : laidOutB P = true) {W W' : World} (bel : Below W.heap.size W W') :
    ∀ {ts : List TypeId} {vs : List Value} {ds : List (DataW H)} {ps : List MemPlace}, (ts.all fun t => P.readableRec t && decide (t < P.types.size)) = true →
      DataW.TrodAll enc P W 0 (fun _ => true) true ts vs ds ps → (∀ x ∈ ps, x.block < W.heap.size) → DataW.TrodAll enc P W' 0 (fun b => decide (b < W.heap.size)) true ts vs ds ps := by
  intro ts
  induction ts with
  | nil =>
    intro vs ds ps _ h _
    obtain ⟨rfl, rfl, rfl⟩ := trodAll_nil h
    exact trodAll_mk0
  | cons t ts ih =>
    intro vs ds ps hr h hlt
    obtain ⟨v, vs', d, ds', p, q, rfl, rfl, rfl, h1, h2⟩ := trodAll_cons h
    simp only [List.all_cons, Bool.and_eq_true, decide_eq_true_eq] at hr
    exact trodAll_cons_mk (Below.trod hl hr.1.1 hr.1.2 h1 bel (fun x hx => hlt x (List.mem_append.2 (.inl hx))))
      (ih (by simpa only [List.all_eq_true, Bool.and_eq_true, decide_eq_true_eq] using hr.2) h2 (fun x hx => hlt x (List.mem_append.2 (.inr hx))))

theorem law_post {f : Func} {s : ChangeSpec} {W W' : World} {args : Array Value} {ds gs : List (DataW H)} {before : List MemPlace} {tb : TypeId}
    (hW : DataW.Whole enc P f.params.toList s.vars false W args.toList ds gs before) (hv : s.vars = [])
    (hs : s.fn H (ds ++ gs) = { results := [.lit (.bool true)], args := ds }) (hT : f.resultTypes = #[tb]) (hb : P.underlying tb = some .bool)
    (hl : laidOutB P = true) (hr : (f.params.toList.all fun t => P.readableRec t && decide (t < P.types.size)) = true) (bel : Below W.heap.size W W') :
    s.post enc P f false true false false W args (.bool true) W' := by
  have hW' := hW
  have hlt := hW.lt
  obtain ⟨p, q, hA, hV, rfl, hfz, hnd⟩ := hW
  rw [hv] at hV
  obtain ⟨rfl, rfl⟩ := trodVars_none hV
  simp only [List.append_nil] at hlt hW'
  refine ⟨ds, [], p, [], p, [], hW', ?_, ?_, ?_, bel.frame _, fun h => by cases h⟩
  · rw [hs, hT]
    exact trodAll_mk1 (shut_bool hb _)
  · rw [hs]
    exact trodAll_stays hl bel hr hA hlt
  · rw [hs, hv]
    rfl

/-- []byte: nil, empty or not -/
theorem open_bytes {r : Reach} {b0 : Nat} {W : World} {t e : TypeId} {v : Value} {d : DataW H} {p : List MemPlace} (ht : P.underlying t = some (.slice e)) (he : P.underlying e = some (.int .u8)) (hC : P.cellsOf e = 1)
    (hv : Value.okWide P W r b0 t v) (h : DataW.Trod enc P W 0 (fun _ => true) true t v d p) :
    ∃ A c l, v = .slice A l.length c ∧ l.length ≤ c ∧ c ≤ maxLen ∧ Rd W W.heap.size A (bcl l) ∧ (l = [] ∨ ∃ es sp, d = .slice es sp ∧ es.length = l.length) := by
  obtain ⟨a, n, c, rfl⟩ := okWide_slice ht hv
  obtain ⟨fuel, hf⟩ := h
  rcases open_ints ht he hC hf with ⟨hcs, _⟩ | ⟨x, l, c', zs, hcs, _, hl, hm, hz, hx, hcell, hwz⟩
  · simp [Value.cells] at hcs
    obtain ⟨rfl, rfl, rfl⟩ := hcs
    exact ⟨none, 0, [], rfl, Nat.le_refl _, by simp [maxLen], Rd.nil, .inl rfl⟩
  · simp [Value.cells] at hcs
    obtain ⟨rfl, rfl, rfl⟩ := hcs
    simp at hz
    obtain ⟨hd, hp⟩ := Prod.mk.inj hx
    refine ⟨some x, c, (zs.take n).map fun z => UInt8.ofNat z.toNat, by simp [hz, Nat.min_eq_left hl], by simp [hz, Nat.min_eq_left hl, hl], hm, ?_, .inr ⟨_, _, hd, by simp [lits]⟩⟩
    rcases Nat.eq_zero_or_pos n with rfl | hn
    · exact .inl (by simp [bcl])
    · obtain ⟨b, off, spot⟩ := x
      have hc0 := hcell 0 (by omega)
      have hspot : spot = none := by simpa [Addr.add] using World.cell?_spot hc0
      subst hspot
      refine .inr ⟨b, off, rfl, World.block_lt_of_cell? W _ hc0, fun i hi => ?_⟩
      have hi' : i < n := by simp [bcl, hz] at hi; omega
      clear hi
      have hci := hcell i (by omega)
      rw [Addr.add_lit] at hci
      rw [hci]
      have hw := hwz (zs[i]'(by omega)) (List.getElem_mem _)
      have hb : 0 ≤ zs[i]'(by omega) ∧ zs[i]'(by omega) ≤ 255 := by simpa [Lit.wf, IntKind.min, IntKind.max, IntKind.signed, IntKind.bits] using hw
      have hg : zs.getD i 0 = zs[i]'(by omega) := by simp [List.getD, List.getElem?_eq_getElem (show i < zs.length by omega)]
      rw [hg]
      simp only [bcl, List.getElem?_map, List.getElem?_take_of_lt hi', List.getElem?_eq_getElem (show i < zs.length by omega), Option.map_some, UInt8.toNat_ofNat']
      congr 2
      omega
/-- the form's own reach, and a stated bound on the bulk, as bounds on a list's length -/
theorem reach_bytes {ts : List TypeId} {ds : List (DataW H)} (h : (DataW.weightsEach P ts ds).all (· ≤ reachBytes) = true) {j : Nat} {t e : TypeId} {d : DataW H} {l : List UInt8}
    (ht : ts[j]? = some t) (hd : ds[j]? = some d) (hu : P.underlying t = some (.slice e)) (hb : P.bytesOf e = 1) (q : l = [] ∨ ∃ es sp, d = .slice es sp ∧ es.length = l.length) : l.length ≤ 140737488351232 := by
  rcases q with rfl | ⟨es, sp, rfl, e⟩
  · simp
  · have := sized_slice h ht hd hu
    rw [hb] at this
    simp only [reachBytes] at this
    omega
theorem nat_of_u64 {x : Int} (h : (Lit.int .u64 x).wf = true) : ∃ n : Nat, x = n ∧ n < 18446744073709551616 := by
  have hb : 0 ≤ x ∧ x ≤ 18446744073709551615 := by simpa [Lit.wf, IntKind.min, IntKind.max, IntKind.signed, IntKind.bits] using h
  exact ⟨x.toNat, by omega, by omega⟩
theorem nat_of_u32 {x : Int} (h : (Lit.int .u32 x).wf = true) : ∃ n : Nat, x = n ∧ n < 4294967296 := by
  have hb : 0 ≤ x ∧ x ≤ 4294967295 := by simpa [Lit.wf, IntKind.min, IntKind.max, IntKind.signed, IntKind.bits] using h
  exact ⟨x.toNat, by omega, by omega⟩
theorem nat_of_u16 {x : Int} (h : (Lit.int .u16 x).wf = true) : ∃ n : Nat, x = n ∧ n < 65536 := by
  have hb : 0 ≤ x ∧ x ≤ 65535 := by simpa [Lit.wf, IntKind.min, IntKind.max, IntKind.signed, IntKind.bits] using h
  exact ⟨x.toNat, by omega, by omega⟩
theorem nat_of_u8 {x : Int} (h : (Lit.int .u8 x).wf = true) : ∃ n : Nat, x = n ∧ n < 256 := by
  have hb : 0 ≤ x ∧ x ≤ 255 := by simpa [Lit.wf, IntKind.min, IntKind.max, IntKind.signed, IntKind.bits] using h
  exact ⟨x.toNat, by omega, by omega⟩
theorem bd_of_i64 {x : Int} (h : (Lit.int .i64 x).wf = true) : -9223372036854775808 ≤ x ∧ x ≤ 9223372036854775807 := by
  simpa [Lit.wf, IntKind.min, IntKind.max, IntKind.signed, IntKind.bits] using h
end
end Go.Proofs.YtlgokfgbcohioaaDoor

/- api.Value opened; the table of kinds out of the row's list. -/
namespace Go.Proofs.YtlgokfgbcohioaaDoor
open Go.ChangeShapes Go.WideShapes Go.ChangeAt Go.RowKit

set_option maxRecDepth 100000 in
theorem val_U : ∃ f0 f1 f2, Tryd.prog.underlying 42 = some (.struct #[f0, f1, f2]) ∧ Go.Deep.oneCellFields Tryd.prog #[f0, f1, f2] = true ∧ f0.type = 3 ∧ f1.type = 40 ∧ f2.type = 9 :=
  ⟨_, _, _, Tryd.underlying42, by kernel_rfl, rfl, rfl, rfl⟩
set_option maxRecDepth 100000 in
theorem val_C : Tryd.prog.cellsOf 42 = 3 := by kernel_rfl

set_option maxRecDepth 100000 in
theorem open_value {H : Type} {enc : TypeId × Value → H} {r : Reach} {b0 : Nat} {W : World} {v : Value} {d : DataW H} {p : List MemPlace} (hv : Value.okWide Tryd.prog W r b0 42 v) (h : DataW.Trod enc Tryd.prog W 0 (fun _ => true) true 42 v d p) :
    ∃ (k : Int) (n : Nat) (s : ByteArray), v = .agg #[.int .i64 k, .int .u64 n, .string s] ∧ d = .agg [.lit (.int .i64 k), .lit (.int .u64 n), .lit (.string s.data.toList)] ∧ p = [] ∧
      -9223372036854775808 ≤ k ∧ k ≤ 9223372036854775807 ∧ n < 18446744073709551616 ∧ s.size ≤ maxLen := by
  obtain ⟨f0, f1, f2, hu, h1, t0, t1, t2⟩ := val_U
  obtain ⟨v0, v1, v2, y0, y1, y2, n, rfl, rfl, rfl, r0, r1, r2⟩ := Go.Joins.open_agg3 hu h1 val_C hv h
  rw [t0] at r0
  rw [t1] at r1
  rw [t2] at r2
  obtain ⟨k, e0, x0, w0⟩ := DataW.trod_int Tryd.underlying3 r0
  obtain ⟨m, e1, x1, w1⟩ := DataW.trod_int Tryd.underlying40 r1
  obtain ⟨s, e2, x2, w2⟩ := DataW.trod_string Tryd.underlying9 r2
  obtain rfl : v0 = _ := by simpa using e0
  obtain rfl : v1 = _ := by simpa using e1
  obtain rfl : v2 = _ := by simpa using e2
  obtain ⟨m', rfl, b1⟩ := nat_of_u64 w1
  have b0 := bd_of_i64 w0
  subst x0 x1 x2
  exact ⟨k, m', s, rfl, rfl, rfl, b0.1, b0.2, b1, w2⟩

set_option maxRecDepth 100000 in
theorem gTab : Tryd.prog.globalNamed "crier/value.kinds" = some 0 := by kernel_rfl
set_option maxRecDepth 100000 in
theorem gTabType : ∃ t e, (Tryd.prog.globals[0]?).map (·.type) = some t ∧ Tryd.prog.underlying t = some (.array 8 e) ∧ Tryd.prog.underlying e = some (.int .i64) ∧ Tryd.prog.cellsOf e = 1 ∧ Tryd.prog.cellsOf t = 8 :=
  ⟨89, 3, by kernel_rfl, by kernel_rfl, by kernel_rfl, by kernel_rfl, by kernel_rfl⟩
set_option maxRecDepth 100000 in
theorem kinds_of_tab {W : World} (h : Lib.TabIs Tryd.prog W "crier/value.kinds" .i64 [0, 0, 0, 5, 1, 0, 2, 2]) : Kinds W := by
  intro j hj
  rw [h.cell gTab j hj]
  have : ∀ i : Fin 8, ([0, 0, 0, 5, 1, 0, 2, 2] : List Int).getD i.val 0 = Plain.vkind (i.val : Int) := by decide +kernel
  exact congrArg (fun z => some (Value.int .i64 z)) (this ⟨j, hj⟩)
end Go.Proofs.YtlgokfgbcohioaaDoor

/- WALKS: value.Of -/
namespace Go.Proofs.YtlgokfgbcohioaaDoor
open Go.RowKit Plain

def Box3 (W : World) (B : Nat) (v : VV) : Prop := W.heap[B]? = some (.cells v.cells 42 (0, 0))
theorem Box3.cell {W : World} {B : Nat} {v : VV} (h : Box3 W B v) (i : Nat) : W.cell? ⟨B, i, none⟩ = v.cells[i]? := by simp [World.cell?, show W.heap[B]? = _ from h]
theorem Box3.frozen {W : World} {B : Nat} {v : VV} (h : Box3 W B v) (i : Nat) : W.frozen? ⟨B, i, none⟩ = false := by simp [World.frozen?, show W.heap[B]? = _ from h]
theorem Box3.new (W : World) (v : VV) : Box3 (W.alloc (.cells v.cells 42)) W.heap.size v := World.alloc_heap_new W _

theorem Box3.alloc {W : World} {B : Nat} {v : VV} (h : Box3 W B v) (o : Obj) : Box3 (W.alloc o) B v := (Below.heap_alloc W o B (Array.getElem?_eq_some_iff.1 h).1).trans h
theorem Box3.set3 {W : World} {B : Nat} {v : VV} (h : Box3 W B v) (u : VV) : Box3 (((W.setCell ⟨B, 0, none⟩ (.int .i64 u.k)).setCell ⟨B, 1, none⟩ (.int .u64 u.n)).setCell ⟨B, 2, none⟩ (.string u.s)) B u := by
  have h1 := heap_setCell_same W B 0 v.cells _ (.int .i64 u.k) h
  have h2 := heap_setCell_same _ B 1 _ _ (.int .u64 u.n) h1
  exact heap_setCell_same _ B 2 _ _ (.string u.s) h2
theorem Box3.other3 {W : World} {B C : Nat} {v : VV} (h : Box3 W B v) (hne : C ≠ B) (x y z : Value) : Box3 (((W.setCell ⟨C, 0, none⟩ x).setCell ⟨C, 1, none⟩ y).setCell ⟨C, 2, none⟩ z) B v :=
  ((heap_setCell_other _ ⟨C, 2, none⟩ B z hne.symm).trans ((heap_setCell_other _ ⟨C, 1, none⟩ B y hne.symm).trans (heap_setCell_other _ ⟨C, 0, none⟩ B x hne.symm))).trans h
theorem Box3.drewN {W : World} {B : Nat} {v : VV} (h : Box3 W B v) (n : Nat) : Box3 (W.drewN n) B v := h
/-- in a round: the result's box, v's, f's; the table -/
structure InB (w W : World) (fb : Nat) (acc : VV) (f : Fld) : Prop where
  R : Box3 W w.heap.size VV.zero
  V : Box3 W (w.heap.size + 1) acc
  F : W.heap[fb]? = some (.cells #[.int .i64 f.num, .int .i64 f.kind, .int .u64 f.val, .string f.text] 73 (0, 0))
  K : Kinds W
  bel : Below w.heap.size w W
theorem InB.drewN {w W : World} {fb : Nat} {acc : VV} {f : Fld} (h : InB w W fb acc f) (n : Nat) : InB w (W.drewN n) fb acc f := ⟨h.R, h.V, h.F, h.K, below_drewN h.bel n⟩
theorem InB.cells {w W : World} {fb : Nat} {acc : VV} {f : Fld} (h : InB w W fb acc f) :
    W.cell? ⟨fb, 0, none⟩ = some (.int .i64 f.num) ∧ W.cell? ⟨fb, 1, none⟩ = some (.int .i64 f.kind) ∧ W.cell? ⟨fb, 2, none⟩ = some (.int .u64 f.val) ∧ W.cell? ⟨fb, 3, none⟩ = some (.string f.text) := by
  refine ⟨?_, ?_, ?_, ?_⟩ <;> simp [World.cell?, h.F]
theorem InB.boxes {w W : World} {fb : Nat} {acc : VV} {f : Fld} (h : InB w W fb acc f) :
    (W.cell? ⟨w.heap.size, 0, none⟩ = some (.int .i64 0) ∧ W.cell? ⟨w.heap.size, 1, none⟩ = some (.int .u64 0) ∧ W.cell? ⟨w.heap.size, 2, none⟩ = some (.string ⟨#[]⟩)) ∧
    (W.cell? ⟨w.heap.size + 1, 0, none⟩ = some (.int .i64 acc.k) ∧ W.cell? ⟨w.heap.size + 1, 1, none⟩ = some (.int .u64 acc.n) ∧ W.cell? ⟨w.heap.size + 1, 2, none⟩ = some (.string acc.s)) ∧
    (W.frozen? ⟨w.heap.size, 0, none⟩ = false ∧ W.frozen? ⟨w.heap.size, 1, none⟩ = false ∧ W.frozen? ⟨w.heap.size, 2, none⟩ = false) ∧
    (W.frozen? ⟨w.heap.size + 1, 0, none⟩ = false ∧ W.frozen? ⟨w.heap.size + 1, 1, none⟩ = false ∧ W.frozen? ⟨w.heap.size + 1, 2, none⟩ = false) :=
  ⟨⟨h.R.cell 0, h.R.cell 1, h.R.cell 2⟩, ⟨h.V.cell 0, h.V.cell 1, h.V.cell 2⟩, ⟨h.R.frozen 0, h.R.frozen 1, h.R.frozen 2⟩, ⟨h.V.frozen 0, h.V.frozen 1, h.V.frozen 2⟩⟩
theorem below_set3 {w W : World} {B : Nat} (h : Below w.heap.size w W) (hB : w.heap.size ≤ B) (x y z : Value) : Below w.heap.size w (((W.setCell ⟨B, 0, none⟩ x).setCell ⟨B, 1, none⟩ y).setCell ⟨B, 2, none⟩ z) :=
  ((h.setCell (p := ⟨B, 0, none⟩) hB _).setCell (p := ⟨B, 1, none⟩) hB _).setCell (p := ⟨B, 2, none⟩) hB _
theorem InB.fresh {w wr : World} {acc : VV} {f : Fld} (hR : Box3 wr w.heap.size VV.zero) (hV : Box3 wr (w.heap.size + 1) acc) (hK : Kinds wr) (hB : Below w.heap.size w wr) :
    InB w (wr.alloc (.cells #[.int .i64 f.num, .int .i64 f.kind, .int .u64 f.val, .string f.text] 73)) wr.heap.size acc f :=
  ⟨hR.alloc _, hV.alloc _, World.alloc_heap_new wr _, hK.below ((Below.refl wr.heap.size wr).alloc (Nat.le_refl _) _) hK.pos, hB.alloc hB.size _⟩
theorem vkof_bd {num base : Int} {raw : Bool} (h : ¬ vkof num base raw = 0) : 1 ≤ vkof num base raw ∧ vkof num base raw ≤ 7 := by
  unfold vkof at h ⊢
  split at h
  · rename_i h1; rw [if_pos h1]; omega
  · omega
theorem vgreat_lim {k : Int} {n : Nat} (hk0 : 1 ≤ k) (hk1 : k ≤ 7) (hn : n < 18446744073709551616) : vgreat k n = (!vtextual k && decide (vlimit k < (n : Int))) := by
  have h : k = 1 ∨ k = 2 ∨ k = 3 ∨ k = 4 ∨ k = 5 ∨ k = 6 ∨ k = 7 := by omega
  rcases h with rfl | rfl | rfl | rfl | rfl | rfl | rfl <;> simp [vgreat, vtextual, vlimit] <;> omega

set_option maxHeartbeats 1000000 in
theorem vof_any (l : List Fld) (A : Option Addr) (c : Nat) (base : Int) (raw : Bool) (hl : l.length ≤ 9223372036854775807) (hwf : ∀ f ∈ l, -9223372036854775808 ≤ f.num ∧ f.num ≤ 9223372036854775807 ∧ f.val < 18446744073709551616) (w : World) (hr : Rd w w.heap.size A (flc l)) (hK : Kinds w) :
    Calls Tryd.prog 31 #[.slice A l.length c, .int .i64 base, .bool raw] w fun e w' => e = .returned (.tuple #[.agg (vof base raw l).1.cells, .int .i64 (vof base raw l).2]) ∧ Below w.heap.size w w' := by
  by_cases hb : 1 ≤ base ∧ base ≤ 1000
  · have hbd : decide (1 ≤ base ∧ base ≤ 1000) = true := by simpa using hb
    have hv : vof base raw l = vofs base raw l VV.zero := by unfold vof; rw [if_pos hb]
    rw [hv]
    have HR := Lib.hid hr
    have HWF := Lib.hid hwf
    have HKK := Lib.hid hK
    clear hr hv hwf hK
    generalize hres : vofs base raw l VV.zero = res at *
    have HRES := Lib.hid hres
    clear hres
    go_enter Tryd.func31, Tryd.ntmps31
    go_wp2_with (go_at_call 52; refine (based_any _ _).mono ?_; rintro e w1 ⟨rfl, rfl⟩)
    go_loopw [18] (fun i wr => ∃ (j : Nat) (acc : VV), i = .int .i64 j ∧ j ≤ l.length ∧ vofs base raw (l.drop j) acc = res ∧ Box3 wr w.heap.size VV.zero ∧ Box3 wr (w.heap.size + 1) acc ∧ Below w.heap.size w wr) (fun i _ => l.length - (intOf i).toNat)
    case atStart =>
      refine ⟨0, VV.zero, rfl, Nat.zero_le _, HRES.out, ?_, ?_, ((Below.refl _ w).alloc (Nat.le_refl _) _).alloc (by simp) _⟩
      · exact (Below.heap_alloc _ _ _ (by simp)).trans (Box3.new w VV.zero)
      · have := Box3.new (w.alloc (.cells VV.zero.cells 42)) VV.zero
        rw [World.size_alloc] at this
        exact this
    case round =>
      obtain ⟨j, acc, rfl, hj, he, hbR, hbV, hB⟩ := hrel
      have r0 : wr.cell? ⟨w.heap.size, 0, none⟩ = some (.int .i64 0) := hbR.cell 0
      have r1 : wr.cell? ⟨w.heap.size, 1, none⟩ = some (.int .u64 0) := hbR.cell 1
      have r2 : wr.cell? ⟨w.heap.size, 2, none⟩ = some (.string ⟨#[]⟩) := hbR.cell 2
      have v0 : wr.cell? ⟨w.heap.size + 1, 0, none⟩ = some (.int .i64 acc.k) := hbV.cell 0
      have v1 : wr.cell? ⟨w.heap.size + 1, 1, none⟩ = some (.int .u64 acc.n) := hbV.cell 1
      have v2 : wr.cell? ⟨w.heap.size + 1, 2, none⟩ = some (.string acc.s) := hbV.cell 2
      have f0 := hbR.frozen 0
      have f1 := hbR.frozen 1
      have f2 := hbR.frozen 2
      have f3 := hbV.frozen 0
      have f4 := hbV.frozen 1
      have f5 := hbV.frozen 2
      have HE := Lib.hid he
      clear he
      by_cases hlt : j < l.length
      · obtain ⟨f, hf⟩ : ∃ f, l[j]? = some f := ⟨_, List.getElem?_eq_getElem hlt⟩
        have hdrop : l.drop j = f :: l.drop (j + 1) := by
          obtain ⟨h1, h2⟩ := List.getElem?_eq_some_iff.1 hf
          rw [List.drop_eq_getElem_cons h1, h2]
        obtain ⟨hn0, hn1, hn2⟩ := HWF.out f (List.mem_of_getElem? hf)
        have hlen := flc_len l
        obtain ⟨b1, o1, rfl, hb1, hc1⟩ := (HR.out.below hB (by omega)).some_ (by omega)
        have g1 : ∀ i, i < 4 → wr.cell? ⟨b1, o1 + j * 4 + i, none⟩ = f.cells[i]? := fun i hi => by
          rw [show o1 + j * 4 + i = o1 + (4 * j + i) by omega]; exact (hc1 _ (by omega)).trans (flc_at hf i hi)
        have g10 : wr.cell? ⟨b1, o1 + j * 4, none⟩ = some (.int .i64 f.num) := g1 0 (by omega)
        have g11 : wr.cell? ⟨b1, o1 + j * 4 + 1, none⟩ = some (.int .i64 f.kind) := g1 1 (by omega)
        have g12 : wr.cell? ⟨b1, o1 + j * 4 + 2, none⟩ = some (.int .u64 f.val) := g1 2 (by omega)
        have g13 : wr.cell? ⟨b1, o1 + j * 4 + 3, none⟩ = some (.string f.text) := g1 3 (by omega)
        have hKw : Kinds wr := HKK.out.below hB HKK.out.pos
        obtain ⟨hb10, hb11⟩ := hb
        have hstep : vofs base raw (f :: l.drop (j + 1)) acc = res := hdrop ▸ HE.out
        have HS := Lib.hid hstep
        clear hstep hdrop hc1 g1 hlen hf HWF HR HE
        generalize hkk : vkof f.num base raw = kk at *
        have HKV := Lib.hid hkk
        clear hkk
        by_cases hk0 : kk = 0
        · subst hk0
          go_wp2_with (go_at_call 55; refine (kindOf_any _ _ _ hn0 hn1 hb10 hb11 _).mono ?_; rintro e w1 ⟨rfl, rfl⟩; rw [HKV.out])
          go_roundw
          case rel => exact ⟨j + 1, acc, by go_num, by omega, by have e := HS.out; rwa [vofs, if_pos HKV.out] at e, hbR.alloc _, hbV.alloc _, hB.alloc hB.size _⟩
          case measure => simp [intOf]; omega
        · have hk0' : (kk == 0) = false := by simpa using hk0
          have hkb : 1 ≤ kk ∧ kk ≤ 7 := by rw [← HKV.out]; exact vkof_bd (by rw [HKV.out]; exact hk0)
          obtain ⟨hkb0, hkb1⟩ := hkb
          have hgl := vgreat_lim hkb0 hkb1 hn2
          have hnz : ¬ vkof f.num base raw = 0 := by rw [HKV.out]; exact hk0
          have hs2 : res = if ¬ f.kind = vkind kk then (VV.zero, 4) else if vgreat kk f.val = true then (VV.zero, 5) else vofs base raw (l.drop (j + 1)) ⟨kk, f.val, f.text⟩ := by
            have e := HS.out
            rw [vofs, if_neg hnz, HKV.out] at e
            exact e.symm
          have HS2 := Lib.hid hs2
          have HGL := Lib.hid hgl
          have hin := InB.fresh (f := f) hbR hbV hKw hB
          go_wp2_with (go_at_call 55; refine (kindOf_any _ _ _ hn0 hn1 hb10 hb11 _).mono ?_; rintro e w1 ⟨rfl, rfl⟩; rw [HKV.out])
          generalize hfb : wr.heap.size = fb at *
          generalize wr.alloc (.cells #[.int .i64 f.num, .int .i64 f.kind, .int .u64 f.val, .string f.text] 73) = W2 at *
          obtain ⟨e0, e1, e2, e3⟩ := hin.cells
          have hKk : W2.cell? ⟨0, kk.toNat, none⟩ = some (.int .i64 (vkind kk)) := by
            have := hin.K kk.toNat (by omega)
            rwa [show ((kk.toNat : Nat) : Int) = kk by omega] at this
          have hk8 : kk < 8 := by omega
          have hk00 : 0 ≤ kk := by omega
          clear hs2 hgl hnz r0 r1 r2 v0 v1 v2 f0 f1 f2 f3 f4 f5 g10 g11 g12 g13 hbR hbV hKw hB hfb HS
          obtain ⟨⟨r0, r1, r2⟩, ⟨v0, v1, v2⟩, ⟨f0, f1, f2⟩, f3, f4, f5⟩ := hin.boxes
          by_cases hkd : f.kind = vkind kk
          · have hkb : (f.kind != vkind kk) = false := by simpa using hkd
            have HKD := Lib.hid hkd
            clear hkd
            go_quiet (fail)
            go_wp2_with fail
            clear r0 r1 r2 v0 v1 v2 f0 f1 f2 f3 f4 f5 e0 e1 e2 e3 hKk
            have hin3 := hin.drewN nq
            clear hin
            generalize W2.drewN nq = W3 at *
            obtain ⟨⟨r0, r1, r2⟩, ⟨v0, v1, v2⟩, ⟨f0, f1, f2⟩, f3, f4, f5⟩ := hin3.boxes
            obtain ⟨e0, e1, e2, e3⟩ := hin3.cells
            have hin := hin3
            cases hT : vtextual kk
            · cases hd : decide (vlimit kk < (f.val : Int))
              · go_quiet (first | (go_at_call 53; exact Calls.quiet_of_same ((textual_any kk _).mono fun _ _ h => ⟨h.1, h.2.symm⟩)) | (go_at_call 54; exact Calls.quiet_of_same ((limit_any kk _).mono fun _ _ h => ⟨h.1, h.2.symm⟩)))
                go_wp2_with fail
                go_roundw
                case rel => exact ⟨j + 1, ⟨kk, f.val, f.text⟩, by go_num, by omega, by rw [HS2.out, if_neg (fun h => h HKD.out), if_neg (by rw [HGL.out, hT, hd]; simp)], (hin.R.other3 (by omega) _ _ _).drewN _, (hin.V.set3 ⟨kk, f.val, f.text⟩).drewN _, below_drewN (below_set3 hin.bel (by omega) _ _ _) _⟩
                case measure => simp [intOf]; omega
              · go_quiet (first | (go_at_call 53; exact Calls.quiet_of_same ((textual_any kk _).mono fun _ _ h => ⟨h.1, h.2.symm⟩)) | (go_at_call 54; exact Calls.quiet_of_same ((limit_any kk _).mono fun _ _ h => ⟨h.1, h.2.symm⟩)))
                go_wp2_with fail
                (try simp only [Exit.inBlock, Exit.then])
                refine bodyPost_ret (v := .tuple #[.agg VV.zero.cells, .int .i64 5]) ?_ rfl ⟨?_, below_set3 (below_drewN hin.bel _) (Nat.le_refl _) _ _ _⟩
                · rw [results_cell_tmp rfl]; go_simp; rfl
                · rw [HS2.out, if_neg (fun h => h HKD.out), if_pos (by rw [HGL.out, hT, hd]; rfl)]
            · go_quiet (first | (go_at_call 53; exact Calls.quiet_of_same ((textual_any kk _).mono fun _ _ h => ⟨h.1, h.2.symm⟩)) | (go_at_call 54; exact Calls.quiet_of_same ((limit_any kk _).mono fun _ _ h => ⟨h.1, h.2.symm⟩)))
              go_wp2_with fail
              go_roundw
              case rel => exact ⟨j + 1, ⟨kk, f.val, f.text⟩, by go_num, by omega, by rw [HS2.out, if_neg (fun h => h HKD.out), if_neg (by rw [HGL.out, hT]; simp)], (hin.R.other3 (by omega) _ _ _).drewN _, (hin.V.set3 ⟨kk, f.val, f.text⟩).drewN _, below_drewN (below_set3 hin.bel (by omega) _ _ _) _⟩
              case measure => simp [intOf]; omega
          · have hkb : (f.kind != vkind kk) = true := by simpa using hkd
            have HKD := Lib.hid hkd
            clear hkd
            go_quiet (fail)
            go_wp2_with fail
            (try simp only [Exit.inBlock, Exit.then])
            refine bodyPost_ret (v := .tuple #[.agg VV.zero.cells, .int .i64 4]) ?_ rfl ⟨?_, below_set3 (below_drewN hin.bel _) (Nat.le_refl _) _ _ _⟩
            · rw [results_cell_tmp rfl]; go_simp; rfl
            · rw [HS2.out, if_pos HKD.out]
      · go_wp2_with fail
        (try simp only [Exit.inBlock, Exit.then])
        refine bodyPost_ret (v := .tuple #[.agg acc.cells, .int .i64 0]) ?_ rfl ⟨?_, ((hB.setCell (p := ⟨w.heap.size, 0, none⟩) (Nat.le_refl _) _).setCell (p := ⟨w.heap.size, 1, none⟩) (Nat.le_refl _) _).setCell (p := ⟨w.heap.size, 2, none⟩) (Nat.le_refl _) _⟩
        · rw [results_cell_tmp rfl]; go_simp; rfl
        · have e := HE.out
          rw [List.drop_eq_nil_of_le (by omega)] at e
          rw [← e]; rfl
  · have hbd : decide (1 ≤ base ∧ base ≤ 1000) = false := by simpa using hb
    have hv : vof base raw l = (VV.zero, 1) := by unfold vof; rw [if_neg hb]
    rw [hv]
    clear hv hb hr hwf hK
    go_enter Tryd.func31, Tryd.ntmps31
    go_wp2_with (go_at_call 52; refine (based_any _ _).mono ?_; rintro e w1 ⟨rfl, rfl⟩)
    (try simp only [Exit.inBlock, Exit.then])
    refine bodyPost_ret (v := .tuple #[.agg VV.zero.cells, .int .i64 1]) ?_ rfl ⟨rfl, ((Below.refl _ w).alloc (Nat.le_refl _) _).alloc (by simp) _⟩
    rw [results_cell_tmp rfl]; go_simp; rfl
end Go.Proofs.YtlgokfgbcohioaaDoor

/- WALKS in a fence: septets and its closure: what a range over them is handed. -/
namespace Go.Proofs.YtlgokfgbcohioaaDoor
open Go.RowKit Go.Shelf Plain

attribute [local go_sem] Oper.semAt_some

/-- one septet: its place and its byte -/
def Sept (L : List UInt8) : Type := { x : Nat × UInt8 // x.1 < 10 ∧ L[x.1]? = some x.2 }
def encSept {L : List UInt8} (x : Sept L) : Array Value := #[.int .i64 (7 * (x.1.1 : Int)), .int .u8 (x.1.2.toNat : Int)]
def septAt (L : List UInt8) (j : Nat) (h : j < L.length) (h2 : j < 10) : Sept L := ⟨(j, L[j]), h2, by simp [h]⟩
/-- what has come when k rounds are over -/
def IsSeq {L : List UInt8} (pre : List (Sept L)) : Prop := ∀ j (h : j < pre.length), (pre[j]'h).1.1 = j
theorem IsSeq.nil {L : List UInt8} : IsSeq ([] : List (Sept L)) := fun j h => by simp at h
theorem IsSeq.snoc {L : List UInt8} {pre : List (Sept L)} {x : Sept L} (h : IsSeq pre) (hx : x.1.1 = pre.length) : IsSeq (pre ++ [x]) := by
  intro j hj
  by_cases hlt : j < pre.length
  · rw [List.getElem_append_left hlt]; exact h j hlt
  · have : j = pre.length := by simp at hj; omega
    subst this
    rw [List.getElem_append_right (Nat.le_refl _)]; simpa using hx
theorem IsSeq.of_snoc {L : List UInt8} {pre : List (Sept L)} {x : Sept L} (h : IsSeq (pre ++ [x])) : IsSeq pre ∧ x.1.1 = pre.length := by
  refine ⟨fun j hj => ?_, ?_⟩
  · have := h j (by simp; omega)
    rwa [List.getElem_append_left hj] at this
  · have := h pre.length (by simp)
    rw [List.getElem_append_right (Nat.le_refl _)] at this
    simpa using this

/-- what a round keeps: what lay below n₀, and the box of the slice -/
def Keeps (n₀ Bs : Nat) (W W' : World) : Prop := Below n₀ W W' ∧ W'.cell? ⟨Bs, 0, none⟩ = W.cell? ⟨Bs, 0, none⟩
theorem Keeps.trans {n₀ Bs : Nat} {A B C : World} (h : Keeps n₀ Bs A B) (k : Keeps n₀ Bs B C) : Keeps n₀ Bs A C := ⟨h.1.trans k.1, k.2.trans h.2⟩
theorem keepsB {n₀ Bs : Nat} {w : World} (hn : n₀ ≤ w.heap.size) (hB : Bs < w.heap.size) :
    ∀ (W : World) (l : Nat) (o o' : Obj), w.heap.size ≤ l → W.heap[l]? = some o → o.isCells = false → o.isWalk = false → Keeps n₀ Bs W (W.putObj l o') := fun W l o o' hl ho hc hw =>
  ⟨belowK_b (w := w) hn W l o o' hl ho hc hw, World.cell?_of_block (World.putObj_heap_other (by simp; omega))⟩

set_option maxRecDepth 100000 in
set_option maxHeartbeats 2000000 in
theorem sept1_in (F : Fence) (n : Nat) (hF : F.fn 121) (hro : F.round = none) (hn : 1 ≤ n) (l Bs n₀ : Nat) (A : Option Addr) (cap : Nat) (L : List UInt8) (hl : L.length ≤ 140737488355328) (J Jx : List (Sept L) → World → Prop)
    (hY : ∀ pre x W, J pre W → pre.length < min L.length 10 → YieldAt F (n - 1) Tryd.prog l (encSept x) W fun e W' =>
      (e = .returned (.bool true) ∧ J (pre ++ [x]) W' ∧ Keeps n₀ Bs W W') ∨ (e = .returned (.bool false) ∧ Jx (pre ++ [x]) W'))
    (W : World) (hBs : W.cell? ⟨Bs, 0, none⟩ = some (.slice A L.length cap)) (hr : Rd W n₀ A (bcl L)) (h0 : J [] W) :
    CallsIn F n Tryd.prog 121 #[.func (.yield l) #[] #[], .pointer (some ⟨Bs, 0, none⟩)] W fun e W' => (∃ v, e = .returned v) ∧
      ((∃ ys, (IsSeq ys ∧ ys.length = min L.length 10) ∧ J ys W') ∨ (∃ pre, (IsSeq pre ∧ pre.length ≤ min L.length 10) ∧ Jx pre W')) := by
  refine callsIn_of_wp Tryd.func121 rfl hF ?_ hro
  simp only [Tryd.ntmps121, List.size_toArray, List.length_cons, List.length_nil, Nat.reduceAdd, Nat.reduceSub, Array.replicate_succ, Array.replicate_zero, List.push_toArray, List.append_toArray, List.nil_append, List.cons_append]
  gi_wp2
  all_goals
    gi_loopw [3, 7] (fun _ i wr => ∃ k : Nat, k ≤ min L.length 10 ∧ i = .int .i64 k ∧ (∃ pre : List (Sept L), IsSeq pre ∧ pre.length = k ∧ J pre wr) ∧ Keeps n₀ Bs W wr)
      (fun _ i _ => min L.length 10 - (intOf i).toNat)
    case atStart => exact ⟨0, Nat.zero_le _, rfl, ⟨[], IsSeq.nil, rfl, h0⟩, Below.refl _ _, rfl⟩
    case round =>
      obtain ⟨k, hk, rfl, ⟨pre, hseq, hpl, hJs⟩, hnx⟩ := hrel
      by_cases hlt : k < min L.length 10
      · have hkL : k < L.length := by omega
        have hk10 : k < 10 := by omega
        obtain ⟨fn, tmps, assign, body, hy, hR⟩ := hY pre (septAt L k hkL hk10) wr hJs (by omega)
        have hB2 := hnx.2
        rw [hBs] at hB2
        obtain ⟨b, off, rfl, hb, hcell⟩ := (hr.below hnx.1 (Nat.le_refl _)).some_ (by simp [bcl]; omega)
        have hcj := hcell k (by simp [bcl]; exact hkL)
        rw [bcl_get hkL] at hcj
        have hsx : (septAt L k hkL hk10).1.1 = pre.length := hpl.symm
        have HS := Lib.hid (hseq.snoc hsx)
        have HP := Lib.hid hpl
        clear hcell hr hY hsx hpl hBs
        dsimp only [encSept, septAt] at hy
        gi_wp2
        refine hR.mono ?_
        rintro e W3 (⟨rfl, hJ3, hk3⟩ | ⟨rfl, hJx3⟩)
        · gi_wp2
          go_roundw
          case rel => exact ⟨k + 1, by omega, by go_num, ⟨_, HS.out, by rw [List.length_append, HP.out]; rfl, hJ3⟩, hnx.trans hk3⟩
          case measure => simp [intOf]; omega
        · gi_wp2
          refine bodyPost_ret (results_none rfl _ _ _) rfl ?_
          exact ⟨⟨_, rfl⟩, .inr ⟨_, ⟨HS.out, by rw [List.length_append, HP.out]; simp; omega⟩, hJx3⟩⟩
      · gi_wp2
        go_end0
        exact ⟨⟨_, rfl⟩, .inl ⟨pre, ⟨hseq, by omega⟩, hJs⟩⟩

set_option maxHeartbeats 1000000 in
theorem septets_in (F : Fence) (n : Nat) (hF : F.fn 116) (hro : F.round = none) (a : Option Addr) (len cap : Nat) (w : World) :
    CallsIn F n Tryd.prog 116 #[.slice a len cap] w fun e w' => e = .returned (.func (.func 121) #[] #[.pointer (some ⟨w.heap.size, 0, none⟩)]) ∧ w.alloc (.cells #[.slice a len cap] 27) = w' := by
  refine callsIn_of_wp Tryd.func116 rfl hF ?_ hro
  simp only [Tryd.ntmps116, List.size_toArray, List.length_cons, List.length_nil, Nat.reduceAdd, Nat.reduceSub, Array.replicate_succ, Array.replicate_zero, List.push_toArray, List.append_toArray, List.nil_append, List.cons_append]
  gi_wp2
  go_ret
  exact ⟨rfl, rfl⟩

theorem sept_stops (F : Fence) (n : Nat) (hF : F.fn 121) (hro : F.round = none) (hn : 1 ≤ n) (Bs n₀ : Nat) (A : Option Addr) (cap : Nat) (L : List UInt8) (hl : L.length ≤ 140737488355328) (w : World) (hBs : w.cell? ⟨Bs, 0, none⟩ = some (.slice A L.length cap)) (hBn : Bs < w.heap.size) (hn₀ : n₀ ≤ w.heap.size) (hr : Rd w n₀ A (bcl L)) :
    SeqStopsK F n Tryd.prog 121 #[.pointer (some ⟨Bs, 0, none⟩)] (encSept (L := L)) (Keeps n₀ Bs) (fun ys => IsSeq ys ∧ ys.length = min L.length 10) (fun pre => IsSeq pre ∧ pre.length ≤ min L.length 10) (min L.length 10) w :=
  fun l J Jx W hW _ _ hY h0 =>
    sept1_in F n hF hro hn l Bs n₀ A cap L hl J Jx hY W ((hW.cell (p := ⟨Bs, 0, none⟩) hBn).trans hBs) (hr.below hW hn₀) h0
end Go.Proofs.YtlgokfgbcohioaaDoor

/- a scope that no goto leaves, in a fence; and its label. -/
namespace Go.Proofs.YtlgokfgbcohioaaDoor


section
variable {F : Fence} {n : Nat} {P : Program} {b : Frame} {a : Act} {k : List Item} {cs : List Frame} {w : World} {Q : Exit → Act → World → Prop}
theorem stepR_scope {c : Code} : step P (lone (b.atR a (.code (.scope c) :: k)) cs w) = .next (lone (b.atR a (.code c :: .inScope c :: k)) cs w) :=
  step_lone_go (by simp [stepG, stepG.exec, Frame.atR])
theorem stepR_inScope {c : Code} : step P (lone (b.atR a (.inScope c :: k)) cs w) = .next (lone (b.atR a k) cs w) :=
  step_lone_go (by simp [stepG, stepG.exec, Frame.atR])

theorem wpIn_scope_straight {c : Code} (h : c.wpIn F n P (Exit.noGoto Q) a w) : (Code.scope c).wpIn F n P Q a w := by
  intro b k cs hro hb hr
  have h0 : (lone (b.atR a (.code (.scope c) :: k)) cs w).fenced P F := fenced_calm hb hr rfl
  obtain ⟨e, a₁, w₁, hq, harr⟩ := h b (.inScope c :: k) cs hro hb hr
  cases e with
  | normal => exact ⟨.normal, a₁, w₁, hq, .head h0 stepR_scope (StepsIn.trans harr (.one (fenced_calm hb hr rfl) stepR_inScope))⟩
  | exit id => 
    have hx : exitTo id (.inScope c :: k) = exitTo id k := by simp [exitTo]
    exact ⟨.exit id, a₁, w₁, hq, fun k' hk => .head h0 stepR_scope (harr.1 k' (by rw [hx]; exact hk)),
        fun hr' hk => let ⟨k₁, h1, h2⟩ := harr.2 hr' (by rw [hx]; exact hk); ⟨k₁, h1, .head h0 stepR_scope h2⟩⟩
  | goto l => exact hq.elim
  | ret => exact ⟨_, a₁, w₁, hq, .of_steps (.one h0 stepR_scope) harr⟩
  | panic ch => exact ⟨_, a₁, w₁, hq, .of_steps (.one h0 stepR_scope) harr⟩
  | outgrown => exact ⟨_, a₁, w₁, hq, .of_steps (.one h0 stepR_scope) harr⟩
end

end Go.Proofs.YtlgokfgbcohioaaDoor

/- what varint.Get's rounds keep, in plain words; a region inside a round walked once for all its orders. -/
namespace Go.Proofs.YtlgokfgbcohioaaDoor
open Go.RowKit Go.Shelf Plain

/-- what the rounds have told so far: at k bytes, none of them the last, v has come together. -/
def Sofar (L : List UInt8) (k : Nat) (v : Int) : Prop := ∃ m : Nat, v = m ∧ m < 128 ^ k ∧ vgo 10 0 0 L = vgo (10 - k) k m (L.drop k)
/-- the number with one more septet at i, as the program makes it -/
def orv (v : Int) (c i : Nat) : Int := bits BinOp.or .u64 v (IntKind.u64.wrap (IntKind.u64.wrap (bits BinOp.and .u8 (c : Int) 127) * 2 ^ (7 * i)))
theorem orv_nat {m c i : Nat} (hi : i < 10) (hm : m < 128 ^ i) (hc : c < 256) (h9 : i = 9 → c ≤ 1) : orv m c i = ((m + c % 128 * 128 ^ i : Nat) : Int) := by
  have e1 : bits BinOp.and .u8 (c : Int) 127 = ((c % 128 : Nat) : Int) := by rw [show (127 : Int) = ((127 : Nat) : Int) from rfl, u8_and_nat _ _ hc (by omega), nat_mask7]
  have hlt := vstep_lt hi hm h9
  have e3 : IntKind.u64.wrap (IntKind.u64.wrap (bits BinOp.and .u8 (c : Int) 127) * 2 ^ (7 * i)) = ((c % 128 * 128 ^ i : Nat) : Int) := by
    rw [e1, pow7]
    simp only [IntKind.wrap_u64]
    rw [Int.emod_eq_of_lt (by omega) (by omega : ((c % 128 : Nat) : Int) < 18446744073709551616), ← Int.natCast_mul, Int.emod_eq_of_lt (by omega) (by omega)]
  unfold orv
  rw [e3, u64_or_nat _ _ (by omega) (by omega), Nat.or_comm, nat_join (7 * i) _ _ (by rw [show 128 ^ i = 2 ^ (7 * i) by rw [Nat.pow_mul]]; exact Nat.mul_mod_left _ _) (by rw [Nat.pow_mul]; exact hm), Nat.add_comm]

theorem sofar_step {L : List UInt8} {k : Nat} {v : Int} {c : UInt8} (h : Sofar L k v) (hk : k < 10) (hc : L[k]? = some c) :
    (k = 9 ∧ 1 < c.toNat → vgo 10 0 0 L = (0, 0, 3)) ∧
    (¬ (k = 9 ∧ 1 < c.toNat) → (c.toNat < 128 → ∃ m : Nat, orv v c.toNat k = m ∧ vgo 10 0 0 L = (m, k + 1, 0)) ∧ (¬ c.toNat < 128 → Sofar L (k + 1) (orv v c.toNat k))) := by
  obtain ⟨m, rfl, hm, he⟩ := h
  obtain ⟨hlt, hget⟩ := List.getElem?_eq_some_iff.1 hc
  rw [List.drop_eq_getElem_cons hlt, hget, vgo_cons hk] at he
  refine ⟨fun h9 => he.trans (if_pos h9), fun h9 => ?_⟩
  rw [if_neg h9] at he
  have hv := orv_nat hk hm c.toNat_lt (fun e => by omega)
  refine ⟨fun hl => ⟨m + c.toNat % 128 * 128 ^ k, hv, ?_⟩, fun hl => ⟨_, hv, vstep_pow hm, ?_⟩⟩
  · rw [he, if_pos hl, Nat.mod_eq_of_lt hl]
  · rw [he, if_neg hl]
theorem sofar_end {L : List UInt8} {k : Nat} {v : Int} (h : Sofar L k v) (hk : k = min L.length 10) : vgo 10 0 0 L = (0, 0, if k = 10 then 3 else 2) := by
  obtain ⟨m, rfl, hm, he⟩ := h
  rw [he]
  by_cases h10 : k = 10
  · subst h10; rfl
  · rw [if_neg h10]; exact vgo_stop (List.drop_eq_nil_of_le (by omega)) (by omega)

theorem boxed_own {X Y : World} {row : Option Nat} {B : Nat} {t : TypeId} {v : Value} (h : Boxed X B t v) (hg : X.grownBy Y row) (hr : ∀ r, row = some r → ∃ o : Obj, X.heap[r]? = some o ∧ o.isCells = false) : Boxed Y B t v :=
  h.kept hg fun e => by
    obtain ⟨o, ho, hc⟩ := hr B e.symm
    rw [show X.heap[B]? = _ from h] at ho; cases ho; cases hc
theorem boxed_other {W : World} {B C : Nat} {t : TypeId} {v : Value} (h : Boxed W B t v) (hne : B ≠ C) (x : Value) : Boxed (W.setCell ⟨C, 0, none⟩ x) B t v :=
  h.kept (grownBy_setCell' W C x) (fun e => hne (by injection e))
theorem boxed_drew {W : World} {B : Nat} {t : TypeId} {v : Value} (h : Boxed W B t v) : Boxed W.drew B t v := h

theorem vget_err {l : List UInt8} {q e : Nat} (h : vgo 10 0 0 (l.drop q) = (0, 0, e + 1)) (hq : q ≤ l.length) : vget l q = (0, 0, e + 1) := (vget_of h hq).trans (if_neg (by simp))
theorem vget_ok {l : List UInt8} {q m k : Nat} (h : vgo 10 0 0 (l.drop q) = (m, k, 0)) (hq : q ≤ l.length) : vget l q = (m, q + k, 0) := (vget_of h hq).trans (if_pos rfl)

/-- a store into a box of ours -/
structure Stores (n₀ T Bs : Nat) (W W' : World) : Prop where
  from_ : KeepsFrom T W W'
  keeps : Keeps n₀ Bs W W'
theorem Stores.trans {n₀ T Bs : Nat} {A B C : World} (h : Stores n₀ T Bs A B) (k : Stores n₀ T Bs B C) : Stores n₀ T Bs A C := ⟨h.1.trans k.1, h.2.trans k.2⟩
theorem Stores.set {n₀ T Bs : Nat} (W : World) {C : Nat} (hC : n₀ ≤ C) (hne : C ≠ Bs) (x : Value) : Stores n₀ T Bs W (W.setCell ⟨C, 0, none⟩ x) := by
  refine ⟨(KeepsOthers.setCell _ _ _).from _, (Below.refl _ _).setCell (p := ⟨C, 0, none⟩) hC _, World.cell?_setCell_other _ _ _ _ fun e => hne ?_⟩
  have := congrArg Addr.block e
  exact this
theorem Stores.drew {n₀ T Bs : Nat} (W : World) : Stores n₀ T Bs W W.drew := ⟨(KeepsOthers.drew _).from _, (Below.refl _ W).drew, rfl⟩

/-- while rounds come: the boxes B (the number), B+1 (how many), B+2 (done) -/
def InvR (B : Nat) (w : World) (L : List UInt8) (pre : List (Sept L)) (W : World) : Prop :=
  (Boxed W (B + 1) 3 (.int .i64 pre.length) ∧ Boxed W (B + 1 + 1) 4 (.bool false) ∧ ∃ v, Boxed W B 40 (.int .u64 v) ∧ (IsSeq pre → Sofar L pre.length v)) ∧ Below B w W
/-- where a round leaves the loop -/
def InvX (B : Nat) (w : World) (L : List UInt8) (c : Code) (pre : List (Sept L)) (W : World) : Prop :=
  (c = .exit 0 ∧ ∃ d v, Boxed W (B + 1) 3 (.int .i64 pre.length) ∧ Boxed W (B + 1 + 1) 4 (.bool d) ∧ Boxed W B 40 (.int .u64 v) ∧
        (IsSeq pre → (d = false ∧ pre.length = 10 ∧ vgo 10 0 0 L = (0, 0, 3)) ∨ (d = true ∧ ∃ m : Nat, v = m ∧ vgo 10 0 0 L = (m, pre.length, 0)))) ∧ Below B w W
theorem InvR.own {B T : Nat} {w : World} {L : List UInt8} (hB : B ≤ w.heap.size) (hT : B ≤ T) : OwnFrom T (InvR B w L) :=
  OwnFrom.and (Own.from (fun s X Y row hs hg hr => by obtain ⟨a1, a2, v, a3, a4⟩ := hs; exact ⟨boxed_own a1 hg hr, boxed_own a2 hg hr, v, boxed_own a3 hg hr, a4⟩) _) (ownFrom_below hB hT)
theorem InvX.own {B T : Nat} {w : World} {L : List UInt8} (c : Code) (hB : B ≤ w.heap.size) (hT : B ≤ T) : OwnFrom T (InvX B w L c) :=
  OwnFrom.and (Own.from (fun s X Y row hs hg hr => by obtain ⟨e, d, v, a1, a2, a3, a4⟩ := hs; exact ⟨e, d, v, boxed_own a1 hg hr, boxed_own a2 hg hr, boxed_own a3 hg hr, a4⟩) _) (ownFrom_below hB hT)

section
variable {B T : Nat} {w W : World} {L : List UInt8} {pre : List (Sept L)} {x : Sept L} {v : Int} {cb i : Nat} {a : Act}
theorem round_long (hB : Below B w W) (bN : Boxed W (B + 1) 3 (.int .i64 pre.length)) (bD : Boxed W (B + 1 + 1) 4 (.bool false)) (bV : Boxed W B 40 (.int .u64 v)) (hs : IsSeq pre → Sofar L pre.length v)
    (hcb : x.1.2.toNat = cb) (h9 : (pre.length : Int) + 1 = 10) (hc : 1 < (cb : Int)) :
    ownPostG T (Keeps B (B + 1 + 1 + 1)) (InvR B w L) (InvX B w L) (pre ++ [x]) W (.exit 0) a (W.setCell ⟨B + 1, 0, none⟩ (.int .i64 10)) := by
  have st : Stores B T (B + 1 + 1 + 1) W (W.setCell ⟨B + 1, 0, none⟩ (.int .i64 10)) := .set W (by omega) (by omega) _
  have e10 : (pre ++ [x]).length = 10 := by rw [List.length_append, List.length_singleton]; omega
  refine ⟨st.1, ⟨rfl, false, v, ?_, boxed_other bD (by omega) _, boxed_other bV (by omega) _, fun hseq => .inl ⟨rfl, e10, ?_⟩⟩, hB.trans st.2.1⟩
  · rw [e10]; exact bN.set _
  · obtain ⟨h1, h2⟩ := hseq.of_snoc
    exact (sofar_step (hs h1) (by omega) (c := x.1.2) (by rw [← h2]; exact x.2.2)).1 ⟨by omega, by omega⟩
theorem round_done (hB : Below B w W) (bN : Boxed W (B + 1) 3 (.int .i64 pre.length)) (bD : Boxed W (B + 1 + 1) 4 (.bool false)) (bV : Boxed W B 40 (.int .u64 v)) (hs : IsSeq pre → Sofar L pre.length v)
    (hcb : x.1.2.toNat = cb) (hi : x.1.1 = i) (hk : pre.length < 10) (h9 : pre.length = 9 → cb ≤ 1) (hc : (cb : Int) < 128) {z : Int} (hz : z = (pre.length : Int) + 1) :
    ownPostG T (Keeps B (B + 1 + 1 + 1)) (InvR B w L) (InvX B w L) (pre ++ [x]) W (.exit 0) a
      (((W.setCell ⟨B + 1, 0, none⟩ (.int .i64 z)).setCell ⟨B, 0, none⟩ (.int .u64 (orv v cb i))).setCell ⟨B + 1 + 1, 0, none⟩ (.bool true)).drew := by
  have st : Stores B T (B + 1 + 1 + 1) W _ := ((Stores.set W (C := B + 1) (by omega) (by omega) (.int .i64 z)).trans (.set _ (C := B) (by omega) (by omega) (.int .u64 (orv v cb i)))).trans ((Stores.set _ (C := B + 1 + 1) (by omega) (by omega) (.bool true)).trans (.drew _))
  have e10 : ((pre ++ [x]).length : Int) = z := by rw [List.length_append, List.length_singleton]; omega
  have e11 : (pre ++ [x]).length = pre.length + 1 := by rw [List.length_append, List.length_singleton]
  refine ⟨st.1, ⟨rfl, true, orv v cb i, ?_, ?_, ?_, fun hseq => .inr ⟨rfl, ?_⟩⟩, hB.trans st.2.1⟩
  · rw [e10]; exact boxed_drew (boxed_other (boxed_other (bN.set _) (by omega) _) (by omega) _)
  · exact boxed_drew (Boxed.set _ (boxed_other (boxed_other bD (by omega) _) (by omega) _))
  · exact boxed_drew (boxed_other (Boxed.set _ (boxed_other bV (by omega) _)) (by omega) _)
  · obtain ⟨h1, h2⟩ := hseq.of_snoc
    rw [e11, ← hcb, show i = pre.length by omega]
    exact ((sofar_step (hs h1) hk (c := x.1.2) (by rw [← h2]; exact x.2.2)).2 (fun h => by have := h9 h.1; omega)).1 (by omega)
theorem round_more (hB : Below B w W) (bN : Boxed W (B + 1) 3 (.int .i64 pre.length)) (bD : Boxed W (B + 1 + 1) 4 (.bool false)) (bV : Boxed W B 40 (.int .u64 v)) (hs : IsSeq pre → Sofar L pre.length v)
    (hcb : x.1.2.toNat = cb) (hi : x.1.1 = i) (hk : pre.length < 10) (h9 : pre.length = 9 → cb ≤ 1) (hc : 128 ≤ (cb : Int)) {z : Int} (hz : z = (pre.length : Int) + 1) :
    ownPostG T (Keeps B (B + 1 + 1 + 1)) (InvR B w L) (InvX B w L) (pre ++ [x]) W .normal a
      ((W.setCell ⟨B + 1, 0, none⟩ (.int .i64 z)).setCell ⟨B, 0, none⟩ (.int .u64 (orv v cb i))).drew := by
  have st : Stores B T (B + 1 + 1 + 1) W _ := ((Stores.set W (C := B + 1) (by omega) (by omega) (.int .i64 z)).trans (.set _ (C := B) (by omega) (by omega) (.int .u64 (orv v cb i)))).trans (.drew _)
  have e10 : ((pre ++ [x]).length : Int) = z := by rw [List.length_append, List.length_singleton]; omega
  have e11 : (pre ++ [x]).length = pre.length + 1 := by rw [List.length_append, List.length_singleton]
  refine ⟨st.1, st.2, ⟨?_, ?_, orv v cb i, ?_, fun hseq => ?_⟩, hB.trans st.2.1⟩
  · rw [e10]; exact boxed_drew (boxed_other (bN.set _) (by omega) _)
  · exact boxed_drew (boxed_other (boxed_other bD (by omega) _) (by omega) _)
  · exact boxed_drew (Boxed.set _ (boxed_other bV (by omega) _))
  · obtain ⟨h1, h2⟩ := hseq.of_snoc
    rw [e11, ← hcb, show i = pre.length by omega]
    exact ((sofar_step (hs h1) hk (c := x.1.2) (by rw [← h2]; exact x.2.2)).2 (fun h => by have := h9 h.1; omega)).2 (by omega)
end
end Go.Proofs.YtlgokfgbcohioaaDoor

/- WALK: varint.Get computes vget: in a fence. -/
namespace Go.Proofs.YtlgokfgbcohioaaDoor
open Go.RowKit Go.Shelf Plain

attribute [local go_sem] Oper.semAt_some

set_option maxRecDepth 100000 in
set_option maxHeartbeats 4000000 in
theorem vget_in (F : Fence) (n : Nat) (h28 : F.fn 104) (h39 : F.fn 116) (h43 : F.fn 121) (hro : F.round = none) (hn : 3 ≤ n)
    (A : Option Addr) (len c : Nat) (l : List UInt8) (hlen : l.length = len) (hnc : len ≤ c) (hl : l.length ≤ 140737488355328) (q : Nat) (hq : q ≤ len) (w : World) (hr : Rd w w.heap.size A (bcl l)) :
    CallsIn F n Tryd.prog 104 #[.slice A len c, .int .i64 q] w fun e w' =>
      e = .returned (.tuple #[.int .u64 (vget l q).1, .int .i64 (vget l q).2.1, .int .i64 (vget l q).2.2]) ∧ Below w.heap.size w w' := by
  have h1 : 1 ≤ n := by omega
  subst hlen
  refine callsIn_of_wp_marks Tryd.func104 rfl h28 ?_ hro
  simp only [Tryd.ntmps104, List.size_toArray, List.length_cons, List.length_nil, Nat.reduceAdd, Nat.reduceSub, Array.replicate_succ, Array.replicate_zero, List.push_toArray, List.append_toArray, List.nil_append, List.cons_append]
  have HR := Lib.hid hr
  have HQ := Lib.hid (rfl : vget l q = vget l q)
  clear hr
  gi_wp2_with (first | apply wpIn_scope_straight | apply wpIn_label | (gi_at_call 116; refine (septets_in F (n - 1) h39 hro _ _ _ _).mono ?_; rintro e w' ⟨rfl, rfl⟩))
  all_goals
    have hrd : Rd w w.heap.size (if c = q then A else A.map (·.add (q * 1))) ((bcl l).drop (q * 1)) := HR.out.drop (by simp [bcl]; omega)
    obtain ⟨W0, hW0⟩ : ∃ W0, (((w.alloc (Obj.cells #[Value.int IntKind.u64 0] 40)).alloc (Obj.cells #[Value.int IntKind.i64 0] 3)).alloc (Obj.cells #[Value.bool false] 4)) = W0 := ⟨_, rfl⟩
    have bV : Boxed W0 w.heap.size 40 (.int .u64 0) := by rw [← hW0]; exact ((Boxed.new _ _ _).alloc _).alloc _
    have bN : Boxed W0 (w.heap.size + 1) 3 (.int .i64 0) := by rw [← hW0]; exact (by simpa using Boxed.new (w.alloc (Obj.cells #[Value.int IntKind.u64 0] 40)) 3 (.int .i64 0) : Boxed _ (w.heap.size + 1) _ _).alloc _
    have bD : Boxed W0 (w.heap.size + 1 + 1) 4 (.bool false) := by rw [← hW0]; simpa using Boxed.new ((w.alloc (Obj.cells #[Value.int IntKind.u64 0] 40)).alloc (Obj.cells #[Value.int IntKind.i64 0] 3)) 4 (.bool false)
    have hS0 : W0.heap.size = w.heap.size + 1 + 1 + 1 := by rw [← hW0]; simp
    have hB0 : Below w.heap.size w W0 := by rw [← hW0]; exact (((Below.refl _ w).alloc (Nat.le_refl _) _).alloc (by simp) _).alloc (by simp; omega) _
    rw [hW0]
    clear hW0
    first | rw [if_pos (by assumption)] at hrd | rw [if_neg (by assumption)] at hrd
    rw [Nat.mul_one] at hrd
    have hrD : Rd W0 w.heap.size _ (bcl (l.drop q)) := (by rw [show bcl (l.drop q) = (bcl l).drop q by simp [bcl]]; exact hrd : Rd w w.heap.size _ (bcl (l.drop q))).below hB0 (Nat.le_refl _)
    refine' wpIn_rangeFunc_ownG hro h1 (gf := 121) (lb := #[.pointer (some ⟨w.heap.size + 1 + 1 + 1, 0, none⟩)]) rfl h43 (enters_of Tryd.func121 (by kernel_rfl) rfl)
      (sept_stops F (n - 1) h43 hro (by omega) (w.heap.size + 1 + 1 + 1) w.heap.size _ _ (l.drop q) (by simp; omega) _ (by rw [List.length_drop, ← hS0]; exact (Boxed.new W0 _ _).cell) (by simp; omega) (by simp; omega) (hrD.alloc (by omega) _))
      Keeps.trans (keepsB (by simp; omega) (by simp; omega)) (Below.refl _ _) (fun _ => rfl)
      (InvR w.heap.size w (l.drop q)) (InvX w.heap.size w (l.drop q)) (InvR.own (Nat.le_refl _) (by simp; omega)) (fun c => InvX.own c (Nat.le_refl _) (by simp; omega))
      ⟨⟨bN.alloc _, bD.alloc _, _, bV.alloc _, fun _ => ⟨0, rfl, by simp, rfl⟩⟩, hB0.alloc (by omega) _⟩ _ ?assign ?body ?done ?stop
    case assign =>
      intro l x W K hK
      dsimp only [encSept]
      gi_wp2
      exact hK
    case body =>
      rintro l' pre x W ⟨⟨bN, bD, v, bV, hsf⟩, hB⟩ hlt
      by_cases hcl : (l.drop q).length = 0
      · exfalso; omega
      have hcq : ¬ c = q := by rw [List.length_drop] at hcl; omega
      have HS := Lib.hid hsf
      have hk10 : pre.length < 10 := by omega
      have hx10 := x.2.1
      have hx8 : x.1.2.toNat < 256 := x.1.2.toNat_lt
      have cN := bN.cell; have fN := bN.frozen; have cV := bV.cell; have fV := bV.frozen; have cD := bD.cell; have fD := bD.frozen
      have hmx : Tryd.prog.follows .mixedOrders = true := by kernel_rfl
      clear hsf hlt hrd hrD HR hB0 hcl
      generalize hi : x.1.1 = i at *
      generalize hcb : x.1.2.toNat = cb at *
      have HI := Lib.hid hi
      have HCB := Lib.hid hcb
      clear hi hcb
      first
      | (exfalso; exact hcq (by assumption))
      | (gi_wp2
         · exact round_long hB bN bD bV HS.out HCB.out (by assumption) (by assumption)
         · gi_region_o
           all_goals
             gi_wp2
             exact round_done hB bN bD bV HS.out HCB.out HI.out hk10 (fun _ => by omega) (by assumption) (by omega)
         · gi_region_o
           all_goals
             gi_wp2
             · exact round_done hB bN bD bV HS.out HCB.out HI.out hk10 (fun e => by omega) (by assumption) rfl
             · exact round_more hB bN bD bV HS.out HCB.out HI.out hk10 (fun e => by omega) (by assumption) rfl)
    case done =>
      rintro D ys W hD ⟨hseq, hys⟩ ⟨⟨bN, bD, v, bV, hsf⟩, hB⟩ hK
      have he := sofar_end (hsf hseq) hys
      have cN := bN.cell; have fN := bN.frozen; have cD := bD.cell; have fD := bD.frozen
      have hk10 : ys.length ≤ 10 := by omega
      have HD := Lib.hid hD
      clear hsf hys hrd hrD HR hB0 hD
      dsimp only
      by_cases h10 : ys.length = 10
      · have HV := Lib.hid (vget_err (e := 2) (he.trans (by rw [if_pos h10])) hq)
        rw [h10] at cN
        clear he
        gi_wp2_with (first | apply wpIn_scope_straight | apply wpIn_label)
        refine ⟨by simp, .inl ⟨_, _, rfl, run_takeDeferred hK, ?_⟩⟩
        refine ⟨_, results_tmp3 rfl _ _ _, ?_, hB.trans (belowK_b (w := w) (Nat.le_refl _) _ D _ _ (by have := HD.out; simp at this; omega) hK rfl rfl)⟩
        rw [HV.out]
        rfl
      · have HV := Lib.hid (vget_err (e := 1) (he.trans (by rw [if_neg h10])) hq)
        clear he
        gi_wp2_with (first | apply wpIn_scope_straight | apply wpIn_label)
        refine ⟨by simp, .inl ⟨_, _, rfl, run_takeDeferred hK, ?_⟩⟩
        refine ⟨_, results_tmp3 rfl _ _ _, ?_, hB.trans (belowK_b (w := w) (Nat.le_refl _) _ D _ _ (by have := HD.out; simp at this; omega) hK rfl rfl)⟩
        rw [HV.out]
        rfl
    case stop =>
      rintro D c' pre W hD ⟨hseq, hk⟩ ⟨⟨rfl, d, v, bN, bD, bV, hsf⟩, hB⟩ hK
      dsimp only
      have cN := bN.cell; have fN := bN.frozen; have cD := bD.cell; have fD := bD.frozen; have cV := bV.cell; have fV := bV.frozen
      have hk10 : pre.length ≤ 10 := by omega
      have hkl : pre.length ≤ l.length - q := by rw [List.length_drop] at hk; omega
      rcases hsf hseq with ⟨rfl, h10, he⟩ | ⟨rfl, m, rfl, he⟩
      · have HV := Lib.hid (vget_err (e := 2) he hq)
        have HD := Lib.hid hD
        rw [h10] at cN
        clear hsf he hrd hrD HR hB0 hD
        gi_wp2_with (first | apply wpIn_scope_straight | apply wpIn_label)
        refine ⟨by simp, .inl ⟨_, _, rfl, run_takeDeferred hK, ?_⟩⟩
        refine ⟨_, results_tmp3 rfl _ _ _, ?_, hB.trans (belowK_b (w := w) (Nat.le_refl _) _ D _ _ (by have := HD.out; simp at this; omega) hK rfl rfl)⟩
        rw [HV.out]
        rfl
      · have HV := Lib.hid (vget_ok he hq)
        have HD := Lib.hid hD
        have hmx : Tryd.prog.follows .mixedOrders = true := by kernel_rfl
        clear hsf he hrd hrD HR hB0 hD hk
        gi_wp2_with (first | apply wpIn_scope_straight | apply wpIn_label)
        gi_region_o
        all_goals
          gi_wp2_with (first | apply wpIn_scope_straight | apply wpIn_label)
          refine ⟨by simp, .inl ⟨_, _, rfl, run_takeDeferred hK, ?_⟩⟩
          refine ⟨_, results_tmp3 rfl _ _ _, ?_, (hB.trans (Below.refl _ W).drew).trans (belowK_b (w := w) (Nat.le_refl _) _ D _ _ (by have := HD.out; simp at this; omega) hK rfl rfl)⟩
          rw [HV.out]
          exact ret3_int rfl (by simp only [IntKind.wrap_i64]; omega) rfl
end Go.Proofs.YtlgokfgbcohioaaDoor

/- varint.Get's contract. -/
namespace Go.Proofs.YtlgokfgbcohioaaDoor
open Go.RowKit Plain

set_option maxRecDepth 100000 in
set_option maxHeartbeats 1000000 in
theorem vget_any (A : Option Addr) (n c : Nat) (l : List UInt8) (hn : l.length = n) (hnc : n ≤ c) (_hcm : c ≤ 9223372036854775807) (hl : l.length ≤ 140737488355328) (p : Int) (w : World) (hr : Rd w w.heap.size A (bcl l)) :
    Calls Tryd.prog 104 #[.slice A n c, .int .i64 p] w fun e w' =>
      e = .returned (.tuple #[.int .u64 (vget l p).1, .int .i64 (vget l p).2.1, .int .i64 (vget l p).2.2]) ∧ Below w.heap.size w w' := by
  by_cases h0 : p < 0 ∨ (l.length : Int) < p
  · subst hn
    rw [vget_arg _ _ h0]
    by_cases h1 : p < 0
    · go_enter Tryd.func104, Tryd.ntmps104
      go_wp2
      go_step3
      go_wp2
      rw [Exit.noGoto_ret]
      go_ret3
      exact ⟨rfl, Below.refl _ _⟩
    · have h2 : (l.length : Int) < p := by omega
      clear h0
      go_enter Tryd.func104, Tryd.ntmps104
      go_wp2
      go_step3
      go_wp2
      rw [Exit.noGoto_ret]
      go_ret3
      exact ⟨rfl, Below.refl _ _⟩
  · obtain ⟨q, rfl⟩ : ∃ q : Nat, p = q := ⟨p.toNat, by omega⟩
    exact callsIn_wide.1 (vget_in Fence.wide 3 trivial trivial trivial rfl (by omega) A n c l hn hnc hl q (by omega) w hr)
end Go.Proofs.YtlgokfgbcohioaaDoor

/- small laws on wrapping -/
namespace Go.Proofs.YtlgokfgbcohioaaDoor
open Go.RowKit
theorem wrap_small (i : Nat) (h : i < 9223372036854775808) : IntKind.i64.wrap (i : Int) = (i : Int) := by
  simp [IntKind.wrap, IntKind.bits, IntKind.signed]
  omega
theorem wrap_u64 (i : Nat) (h : i < 18446744073709551616) : IntKind.u64.wrap (i : Int) = (i : Int) := by
  simp [IntKind.wrap, IntKind.bits, IntKind.signed]
  omega
end Go.Proofs.YtlgokfgbcohioaaDoor

/- WALKS: the reader of wire: number, wide. -/
namespace Go.Proofs.YtlgokfgbcohioaaDoor
open Go.RowKit Plain

def icl (l : List Nat) : List Value := l.map fun (k : Nat) => Value.int .i64 (k : Int)
/-- in W the reader's box R holds what s says; all that is written lies above w0 -/
def Rdr (w0 W : World) (R : Nat) (A : Option Addr) (n c : Nat) (s : RSt) : Prop :=
  ∃ Ao co Ax cx, W.heap[R]? = some (.cells #[.slice A n c, .int .i64 s.at_, .slice Ao s.opn.length co, .slice Ax s.out.length cx] 97 (0, 0)) ∧
    W.ownsRow w0.heap.size 3 1 (.slice Ao s.opn.length co) s.opn.length (icl s.opn) ∧ W.ownsRow w0.heap.size 73 4 (.slice Ax s.out.length cx) s.out.length (flc s.out) ∧ Below w0.heap.size w0 W ∧ w0.heap.size ≤ R
theorem own_set {W : World} {R i : Nat} {cs : Array Value} {t : TypeId} {fr : Nat × Nat} {base : Nat} {e : TypeId} {size n : Nat} {v : Value} {xs : List Value} (h : W.ownsRow base e size v n xs) (hR : W.heap[R]? = some (.cells cs t fr)) (hne : t ≠ e) (x : Value) :
    (W.setCell ⟨R, i, none⟩ x).ownsRow base e size v n xs := by
  refine ⟨h.1, ?_⟩
  rcases h.2 with h2 | ⟨g, cap, cur, hv, hg, hh, r⟩
  · exact .inl h2
  · refine .inr ⟨g, cap, cur, hv, hg, ?_, r⟩
    rw [heap_setCell_other W ⟨R, i, none⟩ g x (fun e => by subst e; rw [hR] at hh; simp at hh; exact hne hh.2.1)]
    exact hh
theorem Rdr.step {w0 W W' : World} {R n c : Nat} {A : Option Addr} {s : RSt} (h : Rdr w0 W R A n c s) (hB : Below W.heap.size W W') : Rdr w0 W' R A n c s := by
  obtain ⟨Ao, co, Ax, cx, hR, h1, h2, h3, h4⟩ := h
  exact ⟨Ao, co, Ax, cx, (hB.block R (Array.getElem?_eq_some_iff.1 hR).1).trans hR, own_kept h1 hB (Nat.le_refl _), own_kept h2 hB (Nat.le_refl _), bel_step' h3 (Nat.le_refl _) (hB.mono (Nat.le_refl _)), h4⟩
theorem Rdr.setAt {w0 W : World} {R n c : Nat} {A : Option Addr} {s : RSt} (h : Rdr w0 W R A n c s) (k : Nat) : Rdr w0 (W.setCell ⟨R, 1, none⟩ (.int .i64 k)) R A n c ⟨k, s.opn, s.out⟩ := by
  obtain ⟨Ao, co, Ax, cx, hR, h1, h2, h3, h4⟩ := h
  exact ⟨Ao, co, Ax, cx, heap_setCell_same W R 1 _ _ _ hR, own_set h1 hR (by decide) _, own_set h2 hR (by decide) _, h3.setCell (p := ⟨R, 1, none⟩) h4 _, h4⟩
theorem Rdr.cells {w0 W : World} {R n c : Nat} {A : Option Addr} {s : RSt} (h : Rdr w0 W R A n c s) : ∃ Ao co Ax cx, W.cell? ⟨R, 0, none⟩ = some (.slice A n c) ∧ W.cell? ⟨R, 1, none⟩ = some (.int .i64 s.at_) ∧ W.cell? ⟨R, 2, none⟩ = some (.slice Ao s.opn.length co) ∧ W.cell? ⟨R, 3, none⟩ = some (.slice Ax s.out.length cx) ∧
    W.frozen? ⟨R, 1, none⟩ = false ∧ W.frozen? ⟨R, 2, none⟩ = false ∧ W.frozen? ⟨R, 3, none⟩ = false ∧
    W.ownsRow w0.heap.size 3 1 (.slice Ao s.opn.length co) s.opn.length (icl s.opn) ∧ W.ownsRow w0.heap.size 73 4 (.slice Ax s.out.length cx) s.out.length (flc s.out) := by
  obtain ⟨Ao, co, Ax, cx, hR, h1, h2, h3, h4⟩ := h
  refine ⟨Ao, co, Ax, cx, ?_, ?_, ?_, ?_, ?_, ?_, ?_, h1, h2⟩ <;> simp [World.cell?, World.frozen?, hR]
theorem Rdr.bel {w0 W : World} {R n c : Nat} {A : Option Addr} {s : RSt} (h : Rdr w0 W R A n c s) : Below w0.heap.size w0 W := by
  obtain ⟨_, _, _, _, _, _, _, h3, _⟩ := h
  exact h3
theorem vget_zero {b : List UInt8} {p : Int} (h : ¬ (vget b p).2.2 = 0) : (vget b p).1 = 0 := by
  unfold vget at h ⊢
  split
  · rfl
  · rename_i h1
    rw [if_neg h1] at h
    split
    · rename_i h2; rw [if_pos h2] at h; simp at h
    · rfl

/-- from W on, of what was there only the place in the box R is written -/
structure Kp (W W' : World) (R : Nat) : Prop where
  g : W.grownBy W' (some R)
  c2 : W'.cell? ⟨R, 2, none⟩ = W.cell? ⟨R, 2, none⟩
  c3 : W'.cell? ⟨R, 3, none⟩ = W.cell? ⟨R, 3, none⟩
theorem Kp.trans {a b c : World} {R : Nat} (h : Kp a b R) (k : Kp b c R) : Kp a c R := ⟨h.g.trans k.g, k.c2.trans h.c2, k.c3.trans h.c3⟩
theorem Kp.b {W W' : World} {R : Nat} (hR : R < W.heap.size) (h : Below W.heap.size W W') : Kp W W' R := ⟨⟨h.os, h.tape, h.output, h.size, fun k hk _ => h.block k hk⟩, h.cell hR, h.cell hR⟩
theorem Kp.s (W : World) (R : Nat) (v : Value) : Kp W (W.setCell ⟨R, 1, none⟩ v) R := by
  have h := (Below.refl 0 W).setCell (p := ⟨R, 1, none⟩) (Nat.zero_le _) v
  exact ⟨⟨h.os, h.tape, h.output, h.size, fun k _ hne => heap_setCell_other _ _ k _ (fun e => hne (by rw [e]))⟩, World.cell?_setCell_other _ _ _ _ (by simp), World.cell?_setCell_other _ _ _ _ (by simp)⟩
theorem Rdr.lt {w0 W : World} {R n c : Nat} {A : Option Addr} {s : RSt} (h : Rdr w0 W R A n c s) : R < W.heap.size := by
  obtain ⟨_, _, _, _, hR, _⟩ := h
  exact (Array.getElem?_eq_some_iff.1 hR).1
theorem fget_zero {k : Nat} {b : List UInt8} {p : Int} (h : ¬ (fget k b p).2.2 = 0) : (fget k b p).1 = 0 := by
  unfold fget at h ⊢
  split
  · rfl
  · rename_i h1
    rw [if_neg h1] at h
    split
    · rfl
    · rename_i h2; rw [if_neg h2] at h; simp at h

section
variable (b : List UInt8) (A : Option Addr) (n c : Nat) (hn : b.length = n) (hnc : n ≤ c) (hcm : c ≤ 9223372036854775807) (hl : b.length ≤ 140737488355328) (w0 : World) (hr0 : Rd w0 w0.heap.size A (bcl b))
include hn hnc hcm hl hr0
set_option maxRecDepth 100000 in
set_option maxHeartbeats 1000000 in
theorem rnum_any (s : RSt) (R : Nat) (W : World) (h : Rdr w0 W R A n c s) :
    Calls Tryd.prog 79 #[.pointer (some ⟨R, 0, none⟩)] W fun e w' => e = .returned (.tuple #[.int .u64 (vget b s.at_).1, .int .i64 (vget b s.at_).2.2]) ∧ ((vget b s.at_).2.2 = 0 → Rdr w0 w' R A n c ⟨(vget b s.at_).2.1, s.opn, s.out⟩) ∧ Below w0.heap.size w0 w' ∧ Kp W w' R := by
  obtain ⟨Ao, co, Ax, cx, c0, c1, c2, c3, f1, f2, f3, _, _⟩ := h.cells
  have hbel := h.bel
  have hz := @vget_zero b s.at_
  have hvg := vget_any A n c b hn hnc hcm hl s.at_ W.drew ((hr0.below hbel (Nat.le_refl _)).more hbel.size)
  obtain ⟨r, hr⟩ : ∃ r, vget b s.at_ = r := ⟨_, rfl⟩
  rw [hr] at hvg hz ⊢
  clear hr hr0
  obtain ⟨v, to, er⟩ := r
  simp only at hvg hz ⊢
  go_enter Tryd.func79, Tryd.ntmps79
  go_wp2_with fail
  have hg0 : Kp W W.drew R := Kp.b h.lt (Below.refl _ W).drew
  replace h : Rdr w0 W.drew R A n c s := h.step (Below.refl _ W).drew
  have d0 : ∀ u, Below W.drew.heap.size W.drew u → u.cell? ⟨R, 0, none⟩ = some (.slice A n c) := fun u hu => by obtain ⟨_, _, _, _, x, _⟩ := (h.step hu).cells; exact x
  have d1 : ∀ u, Below W.drew.heap.size W.drew u → u.cell? ⟨R, 1, none⟩ = some (.int .i64 s.at_) := fun u hu => by obtain ⟨_, _, _, _, _, x, _⟩ := (h.step hu).cells; exact x
  refine wp_region_L 16 [0, 1, 2, 3, 4, 5, 6, 7, 8, 9, 10, 11, 12, 13, 14, 15] rfl (by decide) (by decide) (by kernel_rfl) ?_
  generalize W.drew = W1 at *
  simp only [List.filterMap_cons, List.filterMap_nil, List.getElem?_cons_zero, List.getElem?_cons_succ, Option.map_some]
  repeat (first
      | (refine wpL_take (v := ?_) (by kernel_rfl) (by kernel_rfl) (by kernel_rfl) (fun _ _ _ h => h) (by rfl) (fun u hu => ?_) ?_
         rotate_left
         focus
           unfold Grows at hu
           go_simp
           try with_reducible rfl
         simp only [Act.put, List.setIfInBounds_toArray, List.set_cons_zero, List.set_cons_succ])
      | (refine wpL_pass (by kernel_rfl) (by kernel_rfl) (by kernel_rfl) (fun _ _ _ h => h) (by rfl) ?_; simp only [Act.put, List.setIfInBounds_toArray, List.set_cons_zero, List.set_cons_succ])
      | (refine wpL_do (by kernel_rfl) (by rfl) (fun K hK => ?_); go_simp; go_at_call 104; refine hvg.mono ?_; rintro e w1 ⟨rfl, hBk⟩; have h1 := h.step hBk; have hg1 : Kp W w1 R := hg0.trans (Kp.b h.lt hBk); refine hK _ _ hBk ?_; clear hK K))
  refine wpL_done (by kernel_rfl) ?_
  clear h hvg hbel d0 d1 c0 c1 c2 c3 f1 f2 f3
  obtain ⟨Ao, co, Ax, cx, c0, c1, c2, c3, f1, f2, f3, _, _⟩ := h1.cells
  by_cases he : er = 0
  · subst he
    go_wp2_with fail
    go_ret2
    exact ⟨rfl, h1.setAt to, (h1.setAt to).bel, hg1.trans (Kp.s _ _ _)⟩
  · have hb : ((er : Int) != 0) = true := by simp; omega
    have hv0 := hz he
    subst hv0
    have HE := Lib.hid he
    clear he hz
    go_wp2_with fail
    go_ret2
    exact ⟨rfl, fun h => absurd h HE.out, h1.bel, hg1⟩
set_option maxRecDepth 100000 in
set_option maxHeartbeats 1000000 in
theorem wide_any (s : RSt) (R : Nat) (kind : Nat) (hk : kind = 1 ∨ kind = 5) (W : World) (h : Rdr w0 W R A n c s) :
    Calls Tryd.prog 106 #[.pointer (some ⟨R, 0, none⟩), .int .i64 kind] W fun e w' => e = .returned (.tuple #[.int .u64 (wval b s.at_ kind).val, .int .i64 (wval b s.at_ kind).err]) ∧ ((wval b s.at_ kind).err = 0 → Rdr w0 w' R A n c ⟨(wval b s.at_ kind).to, s.opn, s.out⟩) ∧ Below w0.heap.size w0 w' ∧ Kp W w' R := by
  have _hl := hl
  obtain ⟨Ao, co, Ax, cx, c0, c1, c2, c3, f1, f2, f3, _, _⟩ := h.cells
  have hbel := h.bel
  have hr := (hr0.below hbel (Nat.le_refl _)).more hbel.size
  have hg0 : Kp W W.drew R := Kp.b h.lt (Below.refl _ W).drew
  replace h : Rdr w0 W.drew R A n c s := h.step (Below.refl _ W).drew
  have d0 : ∀ u, Below W.drew.heap.size W.drew u → u.cell? ⟨R, 0, none⟩ = some (.slice A n c) := fun u hu => by obtain ⟨_, _, _, _, x, _⟩ := (h.step hu).cells; exact x
  have d1 : ∀ u, Below W.drew.heap.size W.drew u → u.cell? ⟨R, 1, none⟩ = some (.int .i64 s.at_) := fun u hu => by obtain ⟨_, _, _, _, _, x, _⟩ := (h.step hu).cells; exact x
  rcases hk with rfl | rfl
  · have hvg := get8_any A n c b hn hnc hcm s.at_ W.heap.size W.drew hr
    have hw : wval b s.at_ 1 = ⟨(fget 8 b s.at_).1, emptyT, (fget 8 b s.at_).2.1, (fget 8 b s.at_).2.2⟩ := by unfold wval; rw [if_neg (by omega), if_pos rfl]
    have hz := @fget_zero 8 b s.at_
    obtain ⟨r, hrr⟩ : ∃ r, fget 8 b s.at_ = r := ⟨_, rfl⟩
    rw [hrr] at hvg hw hz
    rw [hw]
    clear hw hrr hr hr0
    obtain ⟨v, to, er⟩ := r
    simp only at hvg hz ⊢
    go_enter Tryd.func106, Tryd.ntmps106
    go_wp2_with fail
    refine wp_region_L 16 [0, 1, 2, 3, 4, 5, 6, 7, 8, 9, 10, 11, 12, 13, 14, 15] rfl (by decide) (by decide) (by kernel_rfl) ?_
    generalize W.drew = W1 at *
    simp only [List.filterMap_cons, List.filterMap_nil, List.getElem?_cons_zero, List.getElem?_cons_succ, Option.map_some]
    repeat (first
        | (refine wpL_take (v := ?_) (by kernel_rfl) (by kernel_rfl) (by kernel_rfl) (fun _ _ _ h => h) (by rfl) (fun u hu => ?_) ?_
           rotate_left
           focus
             unfold Grows at hu
             go_simp
             try with_reducible rfl
           simp only [Act.put, List.setIfInBounds_toArray, List.set_cons_zero, List.set_cons_succ])
        | (refine wpL_pass (by kernel_rfl) (by kernel_rfl) (by kernel_rfl) (fun _ _ _ h => h) (by rfl) ?_; simp only [Act.put, List.setIfInBounds_toArray, List.set_cons_zero, List.set_cons_succ])
        | (refine wpL_do (by kernel_rfl) (by rfl) (fun K hK => ?_); go_simp; go_at_call 117; refine hvg.mono ?_; rintro e w1 ⟨rfl, rfl⟩; have hBk := Below.refl W1.heap.size W1; refine hK _ _ hBk ?_; clear hK K))
    refine wpL_done (by kernel_rfl) ?_
    clear d0 d1 hvg hbel c0 c1 c2 c3 f1 f2 f3
    obtain ⟨Ao, co, Ax, cx, c0, c1, c2, c3, f1, f2, f3, _, _⟩ := h.cells
    by_cases he : er = 0
    · subst he
      go_wp2_with fail
      go_ret2
      exact ⟨rfl, h.setAt to, (h.setAt to).bel, hg0.trans (Kp.s _ _ _)⟩
    · have hb : ((er : Int) != 0) = true := by simp; omega
      have hv0 := hz he
      subst hv0
      have HE := Lib.hid he
      clear he hz
      go_wp2_with fail
      go_ret2
      exact ⟨rfl, fun h => absurd h HE.out, h.bel, hg0⟩
  · have hvg := get4_any A n c b hn hnc hcm s.at_ W.heap.size W.drew hr
    have hw : wval b s.at_ 5 = ⟨(fget 4 b s.at_).1, emptyT, (fget 4 b s.at_).2.1, (fget 4 b s.at_).2.2⟩ := by unfold wval; rw [if_neg (by omega), if_neg (by omega), if_pos rfl]
    have hz := @fget_zero 4 b s.at_
    obtain ⟨r, hrr⟩ : ∃ r, fget 4 b s.at_ = r := ⟨_, rfl⟩
    have hvw : IntKind.u64.wrap ((fget 4 b s.at_).1 : Int) = ((fget 4 b s.at_).1 : Int) := wrap_u64 _ (by have := fget_lt b s.at_; omega)
    rw [hrr] at hvg hw hz hvw
    rw [hw]
    clear hw hrr hr hr0
    obtain ⟨v, to, er⟩ := r
    simp only at hvg hz hvw ⊢
    go_enter Tryd.func106, Tryd.ntmps106
    go_wp2_with fail
    refine wp_region_L 16 [0, 1, 2, 3, 4, 5, 6, 7, 8, 9, 10, 11, 12, 13, 14, 15] rfl (by decide) (by decide) (by kernel_rfl) ?_
    generalize W.drew = W1 at *
    simp only [List.filterMap_cons, List.filterMap_nil, List.getElem?_cons_zero, List.getElem?_cons_succ, Option.map_some]
    repeat (first
        | (refine wpL_take (v := ?_) (by kernel_rfl) (by kernel_rfl) (by kernel_rfl) (fun _ _ _ h => h) (by rfl) (fun u hu => ?_) ?_
           rotate_left
           focus
             unfold Grows at hu
             go_simp
             try with_reducible rfl
           simp only [Act.put, List.setIfInBounds_toArray, List.set_cons_zero, List.set_cons_succ])
        | (refine wpL_pass (by kernel_rfl) (by kernel_rfl) (by kernel_rfl) (fun _ _ _ h => h) (by rfl) ?_; simp only [Act.put, List.setIfInBounds_toArray, List.set_cons_zero, List.set_cons_succ])
        | (refine wpL_do (by kernel_rfl) (by rfl) (fun K hK => ?_); go_simp; go_at_call 118; refine hvg.mono ?_; rintro e w1 ⟨rfl, rfl⟩; have hBk := Below.refl W1.heap.size W1; refine hK _ _ hBk ?_; clear hK K))
    refine wpL_done (by kernel_rfl) ?_
    clear d0 d1 hvg hbel c0 c1 c2 c3 f1 f2 f3
    obtain ⟨Ao, co, Ax, cx, c0, c1, c2, c3, f1, f2, f3, _, _⟩ := h.cells
    by_cases he : er = 0
    · subst he
      go_wp2_with fail
      go_ret2
      exact ⟨rfl, h.setAt to, (h.setAt to).bel, hg0.trans (Kp.s _ _ _)⟩
    · have hb : ((er : Int) != 0) = true := by simp; omega
      have hv0 := hz he
      subst hv0
      have HE := Lib.hid he
      clear he hz
      go_wp2_with fail
      go_ret2
      exact ⟨rfl, fun h => absurd h HE.out, h.bel, hg0⟩
end
end Go.Proofs.YtlgokfgbcohioaaDoor

/- WALKS: the reader of wire: text. -/
namespace Go.Proofs.YtlgokfgbcohioaaDoor
open Go.RowKit Plain

theorem wrap_s (i : Nat) (h : i ≤ 140737488355328) : wrap64 (i : Int) = (i : Int) := by unfold wrap64; omega
theorem strB2 {w : World} {B : Nat} {A : Option Addr} {l : List UInt8} (hr : Rd w B A (bcl l)) {n : Nat} (hn : l.length = n) (c : Nat) :
    (convert 27 9 (.slice A n c)).run Tryd.prog w = .ok (.string ⟨l.toArray⟩) w :=
  hn ▸ run_str _ _ _ Tryd.underlying27 Tryd.underlying5 Tryd.underlying9 hr c
theorem wval2 {b : List UInt8} {p : Nat} : wval b p 2 = if (vget b p).2.2 = 0 then if b.length - (vget b p).2.1 < (vget b p).1 then ⟨0, emptyT, 0, 2⟩ else ⟨0, ⟨((b.drop (vget b p).2.1).take (vget b p).1).toArray⟩, (vget b p).2.1 + (vget b p).1, 0⟩ else ⟨0, emptyT, 0, (vget b p).2.2⟩ := by
  unfold wval; rw [if_neg (by omega), if_neg (by omega), if_neg (by omega), if_pos rfl]
section
variable (b : List UInt8) (A : Option Addr) (n c : Nat) (hn : b.length = n) (hnc : n ≤ c) (hcm : c ≤ 9223372036854775807) (hl : b.length ≤ 140737488355328) (w0 : World) (hr0 : Rd w0 w0.heap.size A (bcl b))
include hn hnc hcm hl hr0
set_option maxRecDepth 100000 in
set_option maxHeartbeats 1000000 in
theorem rtextr_any (s : RSt) (R : Nat) (W : World) (h : Rdr w0 W R A n c s) :
    Calls Tryd.prog 105 #[.pointer (some ⟨R, 0, none⟩)] W fun e w' => e = .returned (.tuple #[.string (wval b s.at_ 2).text, .int .i64 (wval b s.at_ 2).err]) ∧ ((wval b s.at_ 2).err = 0 → Rdr w0 w' R A n c ⟨(wval b s.at_ 2).to, s.opn, s.out⟩) ∧ Below w0.heap.size w0 w' ∧ Kp W w' R := by
  have hnum := rnum_any b A n c hn hnc hcm hl w0 hr0 s R W h
  have hto := @vget_to b s.at_
  have hvl := vget_lt b s.at_
  rw [wval2]
  obtain ⟨r, hr⟩ : ∃ r, vget b s.at_ = r := ⟨_, rfl⟩
  rw [hr] at hnum hto hvl ⊢
  obtain ⟨v, to, er⟩ := r
  simp only at hnum hto hvl ⊢
  clear hr
  by_cases he : er = 0
  · subst he
    obtain ⟨t1, t2, _⟩ := hto rfl
    have hto2 : to ≤ n := by omega
    by_cases hlong : b.length - to < v
    · rw [if_pos rfl, if_pos hlong]
      simp only
      go_enter Tryd.func105, Tryd.ntmps105
      go_wp2_with fail
      refine hnum.mono ?_
      rintro e w1 ⟨rfl, h1, hB1, hg1⟩
      replace h1 := h1 (by first | rfl | trivial)
      obtain ⟨Ao, co, Ax, cx, c0, c1, c2, c3, f1, f2, f3, _, _⟩ := h1.cells
      obtain ⟨K, hK⟩ : ∃ K, n - to = K := ⟨_, rfl⟩
      have hs1 : IntKind.i64.wrap ((n : Int) - (to : Int)) = (K : Int) := by rw [show (n : Int) - (to : Int) = ((K : Nat) : Int) by omega]; exact wrap_small _ (by omega)
      have hs2 : IntKind.u64.wrap (K : Int) = (K : Int) := wrap_u64 _ (by omega)
      have hdec : decide (K < v) = true := by simp; omega
      clear hlong hvl hto2 hK hto t1 t2 hnum h
      go_wp2_with fail
      go_quiet (fail)
      go_wp2_with fail
      go_ret2
      exact ⟨rfl, fun h => absurd h (by decide), (h1.step (show Below w1.heap.size w1 (w1.drewN nq) from ⟨rfl, rfl, rfl, Nat.le_refl _, fun _ _ => rfl⟩)).bel, hg1.trans (Kp.b h1.lt (show Below w1.heap.size w1 (w1.drewN nq) from ⟨rfl, rfl, rfl, Nat.le_refl _, fun _ _ => rfl⟩))⟩
    · rw [if_pos rfl, if_neg hlong]
      simp only
      obtain ⟨T, hT⟩ : ∃ T, to + v = T := ⟨_, rfl⟩
      rw [hT]
      go_enter Tryd.func105, Tryd.ntmps105
      go_wp2_with fail
      refine hnum.mono ?_
      rintro e w1 ⟨rfl, h1, hB1, hg1⟩
      replace h1 := h1 (by first | rfl | trivial)
      obtain ⟨Ao, co, Ax, cx, c0, c1, c2, c3, f1, f2, f3, _, _⟩ := h1.cells
      obtain ⟨K, hK⟩ : ∃ K, n - to = K := ⟨_, rfl⟩
      have hs1 : IntKind.i64.wrap ((n : Int) - (to : Int)) = (K : Int) := by rw [show (n : Int) - (to : Int) = ((K : Nat) : Int) by omega]; exact wrap_small _ (by omega)
      have hs2 : IntKind.u64.wrap (K : Int) = (K : Int) := wrap_u64 _ (by omega)
      have hdec : decide (K < v) = false := by simp; omega
      have hvs : v ≤ 140737488355328 := by omega
      have hts : T ≤ 140737488355328 := by omega
      have hw1 : wrap64 (v : Int) = (v : Int) := wrap_s v hvs
      have hw2 : wrap64 ((to : Int) + (v : Int)) = (T : Int) := by rw [show (to : Int) + (v : Int) = (T : Int) by omega]; exact wrap_s T hts
      have HTT := Lib.hid hT
      clear hvs hts
      have HLG := Lib.hid hlong
      have HV := Lib.hid hvl
      have HT := Lib.hid hto2
      have HK := Lib.hid hK
      clear hlong hvl hto2 hK hto t1 t2 hnum h hT
      go_wp2_with fail
      go_quiet (fail)
      go_wp2_with fail
      have h2 := (h1.step (show Below w1.heap.size w1 (w1.drewN nq) from ⟨rfl, rfl, rfl, Nat.le_refl _, fun _ _ => rfl⟩)).setAt T
      have hg2 : Kp W (((w1.drewN nq).setCell ⟨R, 1, none⟩ (.int .i64 T))) R := (hg1.trans (Kp.b h1.lt (show Below w1.heap.size w1 (w1.drewN nq) from ⟨rfl, rfl, rfl, Nat.le_refl _, fun _ _ => rfl⟩))).trans (Kp.s _ _ _)
      generalize (w1.drewN nq).setCell ⟨R, 1, none⟩ (.int .i64 T) = w2 at *
      have hg3 : Kp W w2.drew R := hg2.trans (Kp.b h2.lt (Below.refl _ w2).drew)
      have h3 : Rdr w0 w2.drew R A n c ⟨T, s.opn, s.out⟩ := h2.step (Below.refl _ w2).drew
      have d0 : ∀ u, Below w2.drew.heap.size w2.drew u → u.cell? ⟨R, 0, none⟩ = some (.slice A n c) := fun u hu => by obtain ⟨_, _, _, _, x, _⟩ := (h3.step hu).cells; exact x
      have d1 : ∀ u, Below w2.drew.heap.size w2.drew u → u.cell? ⟨R, 1, none⟩ = some (.int .i64 T) := fun u hu => by obtain ⟨_, _, _, _, _, x, _⟩ := (h3.step hu).cells; exact x
      have hle1 : (to : Int) ≤ (T : Int) := by have := HTT.out; omega
      have hle2 : to ≤ T := by have := HTT.out; omega
      have hle3 : (T : Int) ≤ (c : Int) := by have := HTT.out; have := HK.out; have := HLG.out; have := HT.out; omega
      have hle4 : T ≤ c := by omega
      have hlen : T - to = v := by have := HTT.out; omega
      have hcv : ∀ u, Below w2.drew.heap.size w2.drew u → (convert 27 9 (.slice (if c = to then A else A.map (·.add to)) v (c - to))).run Tryd.prog u = .ok (.string ⟨((b.drop to).take v).toArray⟩) u := fun u hu => by
        have hb2 : b.length ≤ c * 1 := by omega
        have h := ((hr0.below (h3.step hu).bel (Nat.le_refl _)).drop (k := to) (cap := c) (size := 1) (by simp [bcl]; omega)).take v
        rw [show ((bcl b).drop (to * 1)).take v = bcl ((b.drop to).take v) by simp [bcl, List.map_drop, List.map_take]] at h
        simp only [Nat.mul_one] at h
        exact strB2 h (by have := HTT.out; have := HK.out; have := HLG.out; have := HT.out; simp; omega) _
      clear c0 c1 c2 c3 f1 f2 f3 h1 h2
      refine wp_region_L 13 [0, 1, 2, 3, 4, 5, 6, 7, 8, 9, 10, 11, 12] rfl (by decide) (by decide) (by kernel_rfl) ?_
      generalize w2.drew = w3 at *
      simp only [List.filterMap_cons, List.filterMap_nil, List.getElem?_cons_zero, List.getElem?_cons_succ, Option.map_some]
      repeat (first
          | (refine wpL_take (v := ?_) (by kernel_rfl) (by kernel_rfl) (by kernel_rfl) (fun _ _ _ h => h) (by rfl) (fun u hu => ?_) ?_
             rotate_left
             focus
               unfold Grows at hu
               go_simp
               try with_reducible rfl
             simp only [Act.put, List.setIfInBounds_toArray, List.set_cons_zero, List.set_cons_succ])
          | (refine wpL_pass (by kernel_rfl) (by kernel_rfl) (by kernel_rfl) (fun _ _ _ h => h) (by rfl) ?_; simp only [Act.put, List.setIfInBounds_toArray, List.set_cons_zero, List.set_cons_succ]))
      refine wpL_done (by kernel_rfl) ?_
      all_goals go_wp2_with fail
      all_goals go_ret2
      all_goals exact ⟨rfl, (by first | exact h3 | exact (by assumption : c = to) ▸ h3 | simpa [*] using h3), h3.bel, hg3⟩
  · have hb : ((er : Int) != 0) = true := by simp; omega
    rw [if_neg he]
    have HE := Lib.hid he
    clear he hto hvl
    go_enter Tryd.func105, Tryd.ntmps105
    go_wp2_with fail
    refine hnum.mono ?_
    rintro e w1 ⟨rfl, -, hB1, hg1⟩
    go_wp2_with fail
    go_ret2
    exact ⟨rfl, fun h => absurd h HE.out, hB1, hg1⟩
end
end Go.Proofs.YtlgokfgbcohioaaDoor
