/- what varint.Get's rounds keep, in plain words; a region inside a round walked once for all its orders. -/
import Derived.Test.YtlgokfgbcohioaaDoorSept
import Derived.Test.YtlgokfgbcohioaaDoorRefGet
import Derived.Test.YtlgokfgbcohioaaDoorScope
import Derived.RegionTactic
import Derived.RegionIn
import Derived.Shelf.RegionOpen
import Derived.RangeFuncCalls
import Derived.Laws.BitsAllLaws
namespace Go.Proofs.YtlgokfgbcohioaaDoor
open Go.RowKit Go.Shelf Plain

/-- what the rounds have told so far: at k bytes, none of them the last, v has come together. -/
def Sofar (L : List UInt8) (k : Nat) (v : Int) : Prop := ∃ m : Nat, v = m ∧ m < 128 ^ k ∧ vgo 10 0 0 L = vgo (10 - k) k m (L.drop k)
/-- the number with one more septet at i, as the program makes it -/
def orv (v : Int) (c i : Nat) : Int := bits BinOp.or .u64 v (IntKind.u64.wrap (IntKind.u64.wrap (bits BinOp.and .u8 (c : Int) 127) * 2 ^ (7 * i)))
theorem orv_nat {m c i : Nat} (hi : i < 10) (hm : m < 128 ^ i) (hc : c < 256) (h9 : i = 9 → c ≤ 1) : orv m c i = ((m + c % 128 * 128 ^ i : Nat) : Int) := by
  have e1 : bits BinOp.and .u8 (c : Int) 127 = ((c % 128 : Nat) : Int) := by rw [show (127 : Int) = ((127 : Nat) : Int) from rfl, u8_and_nat _ _ hc (by omega), nat_mask7]
  have hlt := vstep_lt hi hm h9
  have e3 : IntKind.u64.wrap (IntKind.u64.wrap (bits BinOp.and .u8 (c : Int) 127) * 2 ^ (7 * i)) = ((c % 128 * 128 ^ i : Nat) : Int) := by
    rw [e1, pow7]
    simp only [IntKind.wrap_u64]
    rw [Int.emod_eq_of_lt (by omega) (by omega : ((c % 128 : Nat) : Int) < 18446744073709551616), ← Int.natCast_mul, Int.emod_eq_of_lt (by omega) (by omega)]
  unfold orv
  rw [e3, u64_or_nat _ _ (by omega) (by omega), Nat.or_comm, nat_join (7 * i) _ _ (by rw [show 128 ^ i = 2 ^ (7 * i) by rw [Nat.pow_mul]]; exact Nat.mul_mod_left _ _) (by rw [Nat.pow_mul]; exact hm), Nat.add_comm]

theorem sofar_step {L : List UInt8} {k : Nat} {v : Int} {c : UInt8} (h : Sofar L k v) (hk : k < 10) (hc : L[k]? = some c) :
    (k = 9 ∧ 1 < c.toNat → vgo 10 0 0 L = (0, 0, 3)) ∧
    (¬ (k = 9 ∧ 1 < c.toNat) → (c.toNat < 128 → ∃ m : Nat, orv v c.toNat k = m ∧ vgo 10 0 0 L = (m, k + 1, 0)) ∧ (¬ c.toNat < 128 → Sofar L (k + 1) (orv v c.toNat k))) := by
  obtain ⟨m, rfl, hm, he⟩ := h
  obtain ⟨hlt, hget⟩ := List.getElem?_eq_some_iff.1 hc
  rw [List.drop_eq_getElem_cons hlt, hget, vgo_cons hk] at he
  refine ⟨fun h9 => he.trans (if_pos h9), fun h9 => ?_⟩
  rw [if_neg h9] at he
  have hv := orv_nat hk hm c.toNat_lt (fun e => by omega)
  refine ⟨fun hl => ⟨m + c.toNat % 128 * 128 ^ k, hv, ?_⟩, fun hl => ⟨_, hv, vstep_pow hm, ?_⟩⟩
  · rw [he, if_pos hl, Nat.mod_eq_of_lt hl]
  · rw [he, if_neg hl]
theorem sofar_end {L : List UInt8} {k : Nat} {v : Int} (h : Sofar L k v) (hk : k = min L.length 10) : vgo 10 0 0 L = (0, 0, if k = 10 then 3 else 2) := by
  obtain ⟨m, rfl, hm, he⟩ := h
  rw [he]
  by_cases h10 : k = 10
  · subst h10; rfl
  · rw [if_neg h10]; exact vgo_stop (List.drop_eq_nil_of_le (by omega)) (by omega)

theorem boxed_own {X Y : World} {row : Option Nat} {B : Nat} {t : TypeId} {v : Value} (h : Boxed X B t v) (hg : X.grownBy Y row) (hr : ∀ r, row = some r → ∃ o : Obj, X.heap[r]? = some o ∧ o.isCells = false) : Boxed Y B t v :=
  h.kept hg fun e => by
    obtain ⟨o, ho, hc⟩ := hr B e.symm
    rw [show X.heap[B]? = _ from h] at ho; cases ho; cases hc
theorem boxed_other {W : World} {B C : Nat} {t : TypeId} {v : Value} (h : Boxed W B t v) (hne : B ≠ C) (x : Value) : Boxed (W.setCell ⟨C, 0, none⟩ x) B t v :=
  h.kept (grownBy_setCell' W C x) (fun e => hne (by injection e))
theorem boxed_drew {W : World} {B : Nat} {t : TypeId} {v : Value} (h : Boxed W B t v) : Boxed W.drew B t v := h

theorem vget_err {l : List UInt8} {q e : Nat} (h : vgo 10 0 0 (l.drop q) = (0, 0, e + 1)) (hq : q ≤ l.length) : vget l q = (0, 0, e + 1) := (vget_of h hq).trans (if_neg (by simp))
theorem vget_ok {l : List UInt8} {q m k : Nat} (h : vgo 10 0 0 (l.drop q) = (m, k, 0)) (hq : q ≤ l.length) : vget l q = (m, q + k, 0) := (vget_of h hq).trans (if_pos rfl)

/-- a store into a box of ours -/
structure Stores (n₀ T Bs : Nat) (W W' : World) : Prop where
  from_ : KeepsFrom T W W'
  keeps : Keeps n₀ Bs W W'
theorem Stores.trans {n₀ T Bs : Nat} {A B C : World} (h : Stores n₀ T Bs A B) (k : Stores n₀ T Bs B C) : Stores n₀ T Bs A C := ⟨h.1.trans k.1, h.2.trans k.2⟩
theorem Stores.set {n₀ T Bs : Nat} (W : World) {C : Nat} (hC : n₀ ≤ C) (hne : C ≠ Bs) (x : Value) : Stores n₀ T Bs W (W.setCell ⟨C, 0, none⟩ x) := by
  refine ⟨(KeepsOthers.setCell _ _ _).from _, (Below.refl _ _).setCell (p := ⟨C, 0, none⟩) hC _, World.cell?_setCell_other _ _ _ _ fun e => hne ?_⟩
  have := congrArg Addr.block e
  exact this
theorem Stores.drew {n₀ T Bs : Nat} (W : World) : Stores n₀ T Bs W W.drew := ⟨(KeepsOthers.drew _).from _, (Below.refl _ W).drew, rfl⟩

/-- while rounds come: the boxes B (the number), B+1 (how many), B+2 (done) -/
def InvR (B : Nat) (w : World) (L : List UInt8) (pre : List (Sept L)) (W : World) : Prop :=
  (Boxed W (B + 1) 3 (.int .i64 pre.length) ∧ Boxed W (B + 1 + 1) 4 (.bool false) ∧ ∃ v, Boxed W B 40 (.int .u64 v) ∧ (IsSeq pre → Sofar L pre.length v)) ∧ Below B w W
/-- where a round leaves the loop -/
def InvX (B : Nat) (w : World) (L : List UInt8) (c : Code) (pre : List (Sept L)) (W : World) : Prop :=
  (c = .exit 0 ∧ ∃ d v, Boxed W (B + 1) 3 (.int .i64 pre.length) ∧ Boxed W (B + 1 + 1) 4 (.bool d) ∧ Boxed W B 40 (.int .u64 v) ∧
        (IsSeq pre → (d = false ∧ pre.length = 10 ∧ vgo 10 0 0 L = (0, 0, 3)) ∨ (d = true ∧ ∃ m : Nat, v = m ∧ vgo 10 0 0 L = (m, pre.length, 0)))) ∧ Below B w W
theorem InvR.own {B T : Nat} {w : World} {L : List UInt8} (hB : B ≤ w.heap.size) (hT : B ≤ T) : OwnFrom T (InvR B w L) :=
  OwnFrom.and (Own.from (fun s X Y row hs hg hr => by obtain ⟨a1, a2, v, a3, a4⟩ := hs; exact ⟨boxed_own a1 hg hr, boxed_own a2 hg hr, v, boxed_own a3 hg hr, a4⟩) _) (ownFrom_below hB hT)
theorem InvX.own {B T : Nat} {w : World} {L : List UInt8} (c : Code) (hB : B ≤ w.heap.size) (hT : B ≤ T) : OwnFrom T (InvX B w L c) :=
  OwnFrom.and (Own.from (fun s X Y row hs hg hr => by obtain ⟨e, d, v, a1, a2, a3, a4⟩ := hs; exact ⟨e, d, v, boxed_own a1 hg hr, boxed_own a2 hg hr, boxed_own a3 hg hr, a4⟩) _) (ownFrom_below hB hT)

section
variable {B T : Nat} {w W : World} {L : List UInt8} {pre : List (Sept L)} {x : Sept L} {v : Int} {cb i : Nat} {a : Act}
theorem round_long (hB : Below B w W) (bN : Boxed W (B + 1) 3 (.int .i64 pre.length)) (bD : Boxed W (B + 1 + 1) 4 (.bool false)) (bV : Boxed W B 40 (.int .u64 v)) (hs : IsSeq pre → Sofar L pre.length v)
    (hcb : x.1.2.toNat = cb) (h9 : (pre.length : Int) + 1 = 10) (hc : 1 < (cb : Int)) :
    ownPostG T (Keeps B (B + 1 + 1 + 1)) (InvR B w L) (InvX B w L) (pre ++ [x]) W (.exit 0) a (W.setCell ⟨B + 1, 0, none⟩ (.int .i64 10)) := by
  have st : Stores B T (B + 1 + 1 + 1) W (W.setCell ⟨B + 1, 0, none⟩ (.int .i64 10)) := .set W (by omega) (by omega) _
  have e10 : (pre ++ [x]).length = 10 := by rw [List.length_append, List.length_singleton]; omega
  refine ⟨st.1, ⟨rfl, false, v, ?_, boxed_other bD (by omega) _, boxed_other bV (by omega) _, fun hseq => .inl ⟨rfl, e10, ?_⟩⟩, hB.trans st.2.1⟩
  · rw [e10]; exact bN.set _
  · obtain ⟨h1, h2⟩ := hseq.of_snoc
    exact (sofar_step (hs h1) (by omega) (c := x.1.2) (by rw [← h2]; exact x.2.2)).1 ⟨by omega, by omega⟩
theorem round_done (hB : Below B w W) (bN : Boxed W (B + 1) 3 (.int .i64 pre.length)) (bD : Boxed W (B + 1 + 1) 4 (.bool false)) (bV : Boxed W B 40 (.int .u64 v)) (hs : IsSeq pre → Sofar L pre.length v)
    (hcb : x.1.2.toNat = cb) (hi : x.1.1 = i) (hk : pre.length < 10) (h9 : pre.length = 9 → cb ≤ 1) (hc : (cb : Int) < 128) {z : Int} (hz : z = (pre.length : Int) + 1) :
    ownPostG T (Keeps B (B + 1 + 1 + 1)) (InvR B w L) (InvX B w L) (pre ++ [x]) W (.exit 0) a
      (((W.setCell ⟨B + 1, 0, none⟩ (.int .i64 z)).setCell ⟨B, 0, none⟩ (.int .u64 (orv v cb i))).setCell ⟨B + 1 + 1, 0, none⟩ (.bool true)).drew := by
  have st : Stores B T (B + 1 + 1 + 1) W _ := ((Stores.set W (C := B + 1) (by omega) (by omega) (.int .i64 z)).trans (.set _ (C := B) (by omega) (by omega) (.int .u64 (orv v cb i)))).trans ((Stores.set _ (C := B + 1 + 1) (by omega) (by omega) (.bool true)).trans (.drew _))
  have e10 : ((pre ++ [x]).length : Int) = z := by rw [List.length_append, List.length_singleton]; omega
  have e11 : (pre ++ [x]).length = pre.length + 1 := by rw [List.length_append, List.length_singleton]
  refine ⟨st.1, ⟨rfl, true, orv v cb i, ?_, ?_, ?_, fun hseq => .inr ⟨rfl, ?_⟩⟩, hB.trans st.2.1⟩
  · rw [e10]; exact boxed_drew (boxed_other (boxed_other (bN.set _) (by omega) _) (by omega) _)
  · exact boxed_drew (Boxed.set _ (boxed_other (boxed_other bD (by omega) _) (by omega) _))
  · exact boxed_drew (boxed_other (Boxed.set _ (boxed_other bV (by omega) _)) (by omega) _)
  · obtain ⟨h1, h2⟩ := hseq.of_snoc
    rw [e11, ← hcb, show i = pre.length by omega]
    exact ((sofar_step (hs h1) hk (c := x.1.2) (by rw [← h2]; exact x.2.2)).2 (fun h => by have := h9 h.1; omega)).1 (by omega)
theorem round_more (hB : Below B w W) (bN : Boxed W (B + 1) 3 (.int .i64 pre.length)) (bD : Boxed W (B + 1 + 1) 4 (.bool false)) (bV : Boxed W B 40 (.int .u64 v)) (hs : IsSeq pre → Sofar L pre.length v)
    (hcb : x.1.2.toNat = cb) (hi : x.1.1 = i) (hk : pre.length < 10) (h9 : pre.length = 9 → cb ≤ 1) (hc : 128 ≤ (cb : Int)) {z : Int} (hz : z = (pre.length : Int) + 1) :
    ownPostG T (Keeps B (B + 1 + 1 + 1)) (InvR B w L) (InvX B w L) (pre ++ [x]) W .normal a
      ((W.setCell ⟨B + 1, 0, none⟩ (.int .i64 z)).setCell ⟨B, 0, none⟩ (.int .u64 (orv v cb i))).drew := by
  have st : Stores B T (B + 1 + 1 + 1) W _ := ((Stores.set W (C := B + 1) (by omega) (by omega) (.int .i64 z)).trans (.set _ (C := B) (by omega) (by omega) (.int .u64 (orv v cb i)))).trans (.drew _)
  have e10 : ((pre ++ [x]).length : Int) = z := by rw [List.length_append, List.length_singleton]; omega
  have e11 : (pre ++ [x]).length = pre.length + 1 := by rw [List.length_append, List.length_singleton]
  refine ⟨st.1, st.2, ⟨?_, ?_, orv v cb i, ?_, fun hseq => ?_⟩, hB.trans st.2.1⟩
  · rw [e10]; exact boxed_drew (boxed_other (bN.set _) (by omega) _)
  · exact boxed_drew (boxed_other (boxed_other bD (by omega) _) (by omega) _)
  · exact boxed_drew (Boxed.set _ (boxed_other bV (by omega) _))
  · obtain ⟨h1, h2⟩ := hseq.of_snoc
    rw [e11, ← hcb, show i = pre.length by omega]
    exact ((sofar_step (hs h1) hk (c := x.1.2) (by rw [← h2]; exact x.2.2)).2 (fun h => by have := h9 h.1; omega)).2 (by omega)
end
end Go.Proofs.YtlgokfgbcohioaaDoor
