/- WALKS in a fence: septets and its closure: what a range over them is handed. -/
import Derived.Test.YtlgokfgbcohioaaDoorProg
import Derived.Test.YtlgokfgbcohioaaDoorVar
import Derived.Test.YtlgokfgbcohioaaDoorLay
import Derived.RangeFuncBox
import Derived.RangeFuncLeaves
import Derived.RangeFuncWrites
import Derived.Shelf.Abstract
import Derived.OwnWalkIn
import Derived.TacticsInMore
import Derived.LoopNIn
import Derived.LoopIn
namespace Go.Proofs.YtlgokfgbcohioaaDoor
open Go.RowKit Go.Shelf Plain

attribute [local go_sem] Oper.semAt_some

/-- one septet: its place and its byte -/
def Sept (L : List UInt8) : Type := { x : Nat × UInt8 // x.1 < 10 ∧ L[x.1]? = some x.2 }
def encSept {L : List UInt8} (x : Sept L) : Array Value := #[.int .i64 (7 * (x.1.1 : Int)), .int .u8 (x.1.2.toNat : Int)]
def septAt (L : List UInt8) (j : Nat) (h : j < L.length) (h2 : j < 10) : Sept L := ⟨(j, L[j]), h2, by simp [h]⟩
/-- what has come when k rounds are over -/
def IsSeq {L : List UInt8} (pre : List (Sept L)) : Prop := ∀ j (h : j < pre.length), (pre[j]'h).1.1 = j
theorem IsSeq.nil {L : List UInt8} : IsSeq ([] : List (Sept L)) := fun j h => by simp at h
theorem IsSeq.snoc {L : List UInt8} {pre : List (Sept L)} {x : Sept L} (h : IsSeq pre) (hx : x.1.1 = pre.length) : IsSeq (pre ++ [x]) := by
  intro j hj
  by_cases hlt : j < pre.length
  · rw [List.getElem_append_left hlt]; exact h j hlt
  · have : j = pre.length := by simp at hj; omega
    subst this
    rw [List.getElem_append_right (Nat.le_refl _)]; simpa using hx
theorem IsSeq.of_snoc {L : List UInt8} {pre : List (Sept L)} {x : Sept L} (h : IsSeq (pre ++ [x])) : IsSeq pre ∧ x.1.1 = pre.length := by
  refine ⟨fun j hj => ?_, ?_⟩
  · have := h j (by simp; omega)
    rwa [List.getElem_append_left hj] at this
  · have := h pre.length (by simp)
    rw [List.getElem_append_right (Nat.le_refl _)] at this
    simpa using this

/-- what a round keeps: what lay below n₀, and the box of the slice -/
def Keeps (n₀ Bs : Nat) (W W' : World) : Prop := Below n₀ W W' ∧ W'.cell? ⟨Bs, 0, none⟩ = W.cell? ⟨Bs, 0, none⟩
theorem Keeps.trans {n₀ Bs : Nat} {A B C : World} (h : Keeps n₀ Bs A B) (k : Keeps n₀ Bs B C) : Keeps n₀ Bs A C := ⟨h.1.trans k.1, k.2.trans h.2⟩
theorem keepsB {n₀ Bs : Nat} {w : World} (hn : n₀ ≤ w.heap.size) (hB : Bs < w.heap.size) :
    ∀ (W : World) (l : Nat) (o o' : Obj), w.heap.size ≤ l → W.heap[l]? = some o → o.isCells = false → o.isWalk = false → Keeps n₀ Bs W (W.putObj l o') := fun W l o o' hl ho hc hw =>
  ⟨belowK_b (w := w) hn W l o o' hl ho hc hw, World.cell?_of_block (World.putObj_heap_other (by simp; omega))⟩

set_option maxRecDepth 100000 in
set_option maxHeartbeats 2000000 in
theorem sept1_in (F : Fence) (n : Nat) (hF : F.fn 121) (hro : F.round = none) (hn : 1 ≤ n) (l Bs n₀ : Nat) (A : Option Addr) (cap : Nat) (L : List UInt8) (hl : L.length ≤ 140737488355328) (J Jx : List (Sept L) → World → Prop)
    (hY : ∀ pre x W, J pre W → pre.length < min L.length 10 → YieldAt F (n - 1) Tryd.prog l (encSept x) W fun e W' =>
      (e = .returned (.bool true) ∧ J (pre ++ [x]) W' ∧ Keeps n₀ Bs W W') ∨ (e = .returned (.bool false) ∧ Jx (pre ++ [x]) W'))
    (W : World) (hBs : W.cell? ⟨Bs, 0, none⟩ = some (.slice A L.length cap)) (hr : Rd W n₀ A (bcl L)) (h0 : J [] W) :
    CallsIn F n Tryd.prog 121 #[.func (.yield l) #[] #[], .pointer (some ⟨Bs, 0, none⟩)] W fun e W' => (∃ v, e = .returned v) ∧
      ((∃ ys, (IsSeq ys ∧ ys.length = min L.length 10) ∧ J ys W') ∨ (∃ pre, (IsSeq pre ∧ pre.length ≤ min L.length 10) ∧ Jx pre W')) := by
  refine callsIn_of_wp Tryd.func121 rfl hF ?_ hro
  simp only [Tryd.ntmps121, List.size_toArray, List.length_cons, List.length_nil, Nat.reduceAdd, Nat.reduceSub, Array.replicate_succ, Array.replicate_zero, List.push_toArray, List.append_toArray, List.nil_append, List.cons_append]
  gi_wp2
  all_goals
    gi_loopw [3, 7] (fun _ i wr => ∃ k : Nat, k ≤ min L.length 10 ∧ i = .int .i64 k ∧ (∃ pre : List (Sept L), IsSeq pre ∧ pre.length = k ∧ J pre wr) ∧ Keeps n₀ Bs W wr)
      (fun _ i _ => min L.length 10 - (intOf i).toNat)
    case atStart => exact ⟨0, Nat.zero_le _, rfl, ⟨[], IsSeq.nil, rfl, h0⟩, Below.refl _ _, rfl⟩
    case round =>
      obtain ⟨k, hk, rfl, ⟨pre, hseq, hpl, hJs⟩, hnx⟩ := hrel
      by_cases hlt : k < min L.length 10
      · have hkL : k < L.length := by omega
        have hk10 : k < 10 := by omega
        obtain ⟨fn, tmps, assign, body, hy, hR⟩ := hY pre (septAt L k hkL hk10) wr hJs (by omega)
        have hB2 := hnx.2
        rw [hBs] at hB2
        obtain ⟨b, off, rfl, hb, hcell⟩ := (hr.below hnx.1 (Nat.le_refl _)).some_ (by simp [bcl]; omega)
        have hcj := hcell k (by simp [bcl]; exact hkL)
        rw [bcl_get hkL] at hcj
        have hsx : (septAt L k hkL hk10).1.1 = pre.length := hpl.symm
        have HS := Lib.hid (hseq.snoc hsx)
        have HP := Lib.hid hpl
        clear hcell hr hY hsx hpl hBs
        dsimp only [encSept, septAt] at hy
        gi_wp2
        refine hR.mono ?_
        rintro e W3 (⟨rfl, hJ3, hk3⟩ | ⟨rfl, hJx3⟩)
        · gi_wp2
          go_roundw
          case rel => exact ⟨k + 1, by omega, by go_num, ⟨_, HS.out, by rw [List.length_append, HP.out]; rfl, hJ3⟩, hnx.trans hk3⟩
          case measure => simp [intOf]; omega
        · gi_wp2
          refine bodyPost_ret (results_none rfl _ _ _) rfl ?_
          exact ⟨⟨_, rfl⟩, .inr ⟨_, ⟨HS.out, by rw [List.length_append, HP.out]; simp; omega⟩, hJx3⟩⟩
      · gi_wp2
        go_end0
        exact ⟨⟨_, rfl⟩, .inl ⟨pre, ⟨hseq, by omega⟩, hJs⟩⟩

set_option maxHeartbeats 1000000 in
theorem septets_in (F : Fence) (n : Nat) (hF : F.fn 116) (hro : F.round = none) (a : Option Addr) (len cap : Nat) (w : World) :
    CallsIn F n Tryd.prog 116 #[.slice a len cap] w fun e w' => e = .returned (.func (.func 121) #[] #[.pointer (some ⟨w.heap.size, 0, none⟩)]) ∧ w.alloc (.cells #[.slice a len cap] 27) = w' := by
  refine callsIn_of_wp Tryd.func116 rfl hF ?_ hro
  simp only [Tryd.ntmps116, List.size_toArray, List.length_cons, List.length_nil, Nat.reduceAdd, Nat.reduceSub, Array.replicate_succ, Array.replicate_zero, List.push_toArray, List.append_toArray, List.nil_append, List.cons_append]
  gi_wp2
  go_ret
  exact ⟨rfl, rfl⟩

theorem sept_stops (F : Fence) (n : Nat) (hF : F.fn 121) (hro : F.round = none) (hn : 1 ≤ n) (Bs n₀ : Nat) (A : Option Addr) (cap : Nat) (L : List UInt8) (hl : L.length ≤ 140737488355328) (w : World) (hBs : w.cell? ⟨Bs, 0, none⟩ = some (.slice A L.length cap)) (hBn : Bs < w.heap.size) (hn₀ : n₀ ≤ w.heap.size) (hr : Rd w n₀ A (bcl L)) :
    SeqStopsK F n Tryd.prog 121 #[.pointer (some ⟨Bs, 0, none⟩)] (encSept (L := L)) (Keeps n₀ Bs) (fun ys => IsSeq ys ∧ ys.length = min L.length 10) (fun pre => IsSeq pre ∧ pre.length ≤ min L.length 10) (min L.length 10) w :=
  fun l J Jx W hW _ _ hY h0 =>
    sept1_in F n hF hro hn l Bs n₀ A cap L hl J Jx hY W ((hW.cell (p := ⟨Bs, 0, none⟩) hBn).trans hBs) (hr.below hW hn₀) h0
end Go.Proofs.YtlgokfgbcohioaaDoor
