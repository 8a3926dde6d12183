/- Several texts in one: words, plain laws and walks that the statement's proof imports. -/
import Derived.Test.YtkanhggmhjldmaaMeta1
import Derived.Test.YtkanhggmhjldmaaMeta2
import Derived.Test.YtkanhggmhjldmaaProg
import Derived.RangeFuncBox
import Derived.RangeFuncLeaves
import Derived.RangeFuncWrites
import Derived.Shelf.Abstract
import Derived.OwnWalkIn
import Derived.TacticsInMore
import Derived.LoopNIn
import Derived.LoopIn
import Derived.WalkMore
import Derived.ControlIn
import Derived.RegionTactic
import Derived.RegionIn
import Derived.Shelf.RegionOpen
import Derived.RangeFuncCalls
import Derived.Laws.BitsAllLaws
/- WALK: the reference's varint Get computes vget. -/
namespace Go.Proofs.Ytkanhggmhjldmaa
open Go.RowKit Plain

theorem vget_of {l : List UInt8} {q : Nat} {r : Nat × Nat × Nat} (h : vgo 10 0 0 (l.drop q) = r) (hq : q ≤ l.length) :
    vget l q = if r.2.2 = 0 then (r.1, q + r.2.1, 0) else (0, 0, r.2.2) := by
  unfold vget
  rw [if_neg (by omega), Int.toNat_natCast, h]
theorem pow7 (i : Nat) : (2 : Int) ^ (7 * i) = ((128 ^ i : Nat) : Int) := by
  rw [show 128 ^ i = 2 ^ (7 * i) by rw [Nat.pow_mul]]; simp
theorem vstep_lt {v x i : Nat} (hi : i < 10) (hv : v < 128 ^ i) (h9 : i = 9 → x ≤ 1) : v + x % 128 * 128 ^ i < 18446744073709551616 := by
  by_cases h : i = 9
  · subst h
    have := h9 rfl
    have e : (128 : Nat) ^ 9 = 9223372036854775808 := by decide
    rw [e] at hv ⊢
    omega
  · have hp : 128 ^ (i + 1) ≤ 128 ^ 9 := Nat.pow_le_pow_right (by omega) (by omega)
    have e : (128 : Nat) ^ 9 = 9223372036854775808 := by decide
    rw [e, Nat.pow_succ] at hp
    have hm : x % 128 * 128 ^ i ≤ 127 * 128 ^ i := Nat.mul_le_mul_right _ (by omega)
    omega
theorem vstepE {v x i : Nat} (hi : i < 10) (hv : v < 128 ^ i) (h9 : i = 9 → x ≤ 1) :
    ((v : Int) + (x : Int) % 128 * 2 ^ (7 * i) % 18446744073709551616) % 18446744073709551616 = ((v + x % 128 * 128 ^ i : Nat) : Int) := by
  have h := vstep_lt hi hv h9
  rw [pow7]
  generalize hq : x % 128 * 128 ^ i = q at *
  have e : (x : Int) % 128 * ((128 ^ i : Nat) : Int) = (q : Int) := by rw [← hq, Int.natCast_mul]; rfl
  rw [e]
  omega
theorem vstep_pow {v x i : Nat} (hv : v < 128 ^ i) : v + x % 128 * 128 ^ i < 128 ^ (i + 1) := by
  have hm : x % 128 * 128 ^ i ≤ 127 * 128 ^ i := Nat.mul_le_mul_right _ (by omega)
  rw [Nat.pow_succ]
  omega

set_option maxHeartbeats 800000 in
set_option maxRecDepth 100000 in
theorem rvget_any (A : Option Addr) (n c : Nat) (l : List UInt8) (hn : l.length = n) (hl : l.length ≤ 140737488355328) (p : Int) (B : Nat) (w : World) (hr : Rd w B A (bcl l)) :
    Calls Try.prog 40 #[.slice A n c, .int .i64 p] w fun e w' =>
      e = .returned (.tuple #[.int .u64 (vget l p).1, .int .i64 (vget l p).2.1, .int .i64 (vget l p).2.2]) ∧ w = w' := by
  subst hn
  by_cases h0 : p < 0 ∨ (l.length : Int) < p
  · rw [vget_arg _ _ h0]
    by_cases h1 : p < 0
    · go_enter Try.func40, Try.ntmps40
      go_wp2
      go_ret3
      exact ⟨rfl, rfl⟩
    · have h2 : (l.length : Int) < p := by omega
      clear h0
      go_enter Try.func40, Try.ntmps40
      go_wp2
      go_ret3
      exact ⟨rfl, rfl⟩
  · obtain ⟨q, rfl⟩ : ∃ q : Nat, p = q := ⟨p.toNat, by omega⟩
    have h1 : q ≤ l.length := by omega
    clear h0
    have HR := Lib.hid hr
    clear hr
    go_enter Try.func40, Try.ntmps40
    go_wp2
    go_loop [7, 8, 9] (fun a b _ => ∃ i v : Nat, b = .int .i64 i ∧ i ≤ 10 ∧ a = .int .u64 v ∧ v < 128 ^ i ∧ q + i ≤ l.length ∧ vgo 10 0 0 (l.drop q) = vgo (10 - i) i v (l.drop (q + i))) (fun _ b _ => (10 - intOf b).toNat)
    case atStart => exact ⟨0, 0, rfl, by omega, rfl, by simp, h1, rfl⟩
    case round =>
      obtain ⟨i, v, rfl, hi, rfl, hv, hq, he⟩ := hrel
      have HE := Lib.hid he
      have HV := Lib.hid hv
      clear he hv
      by_cases hi10 : i = 10
      · subst hi10
        go_wp2
        go_ret3
        have e := vget_of (r := (0, 0, 3)) (HE.out.trans rfl) h1
        rw [e]
        exact ⟨rfl, rfl⟩
      · by_cases hend : q + i = l.length
        · have hd : decide (l.length ≤ q + i) = true := by simp; omega
          have hlt : i < 10 := by omega
          have e := vget_of (r := (0, 0, 2)) (HE.out.trans (vgo_stop (by simp; omega) hlt)) h1
          have E := Lib.hid e
          clear e hi10
          go_wp2
          go_ret3
          rw [E.out]
          exact ⟨rfl, rfl⟩
        · have hlt : i < 10 := by omega
          have hq2 : q + i < l.length := by omega
          have hd : decide (l.length ≤ q + i) = false := by simp; omega
          have hcons : vgo (10 - i) i v (l.drop (q + i)) = _ := (congrArg (vgo (10 - i) i v) (List.drop_eq_getElem_cons hq2)).trans (vgo_cons hlt)
          obtain ⟨b, off, rfl, hb, hcell⟩ := HR.out.some_ (by simp [bcl]; omega)
          have hcj := hcell (q + i) (by simp [bcl]; omega)
          rw [bcl_get hq2] at hcj
          have hx : (l[q + i]'hq2).toNat < 256 := (l[q + i]'hq2).toNat_lt
          clear hcell
          generalize (l[q + i]'hq2).toNat = x at *
          have HC := Lib.hid (HE.out.trans hcons)
          clear hcons HE hi10 hend
          by_cases h9 : i = 9 ∧ 1 < x
          · have e := vget_of (r := (0, 0, 3)) (HC.out.trans (if_pos h9)) h1
            have E := Lib.hid e
            obtain ⟨rfl, hx1⟩ := h9
            clear e HC
            go_wp2
            go_ret3
            rw [E.out]
            exact ⟨rfl, rfl⟩
          · have HC2 := Lib.hid (HC.out.trans (if_neg h9))
            clear HC
            have hvs := vstepE hlt HV.out (fun e => (by omega : x ≤ 1))
            have HVS := Lib.hid hvs
            clear hvs
            by_cases hi9 : i = 9
            · subst hi9
              have hx1 : x ≤ 1 := by omega
              have hm : x % 128 = x := by omega
              have e : vget l q = (v + x * 128 ^ 9, q + (9 + 1), 0) := (vget_of (HC2.out.trans (if_pos (by omega))) h1).trans (if_pos rfl)
              have E := Lib.hid e
              have HM := Lib.hid hm
              clear e HC2 hm h9
              go_wp2
              go_ret3
              rw [E.out]
              refine ⟨ret3_int ?_ (by simp only; omega) rfl, rfl⟩
              have e := HVS.out
              rw [HM.out] at e
              simp only [IntKind.wrap_u64]
              rw [← e]
              omega
            · have hi9' : ((i : Int) == 9) = false := by rw [beq_eq_false_iff_ne]; omega
              have HI := Lib.hid hi9
              clear h9 hi9
              go_wp2
              · go_ret3
                have hx2 : x < 128 := by omega
                have hm : x % 128 = x := by omega
                have e : vget l q = (v + x * 128 ^ i, q + (i + 1), 0) := (vget_of (HC2.out.trans (if_pos hx2)) h1).trans (if_pos rfl)
                rw [e]
                refine ⟨ret3_int ?_ (by simp only; omega) rfl, rfl⟩
                have e := HVS.out
                rw [hm] at e
                simp only [IntKind.wrap_u64]
                exact e
              · go_round
                case rel =>
                  have hx2 : ¬ x < 128 := by omega
                  have hlt2 := HI.out
                  refine ⟨i + 1, v + x % 128 * 128 ^ i, by go_num, by omega, ?_, vstep_pow HV.out, by omega, ?_⟩
                  · simp only [IntKind.wrap_u64]; rw [HVS.out]
                  · exact HC2.out.trans (if_neg hx2)
                case measure => simp [intOf]; omega
end Go.Proofs.Ytkanhggmhjldmaa

/- PLAIN LAW: bytes as fields. -/
namespace Go.Proofs.Ytkanhggmhjldmaa
open Go.RowKit Plain

/-- what has been read: the place, the groups that are open, the fields -/
structure RSt where
  at_ : Nat
  opn : List Nat
  out : List Fld
def emptyT : ByteArray := ⟨#[]⟩
/-- what stands behind a tag: number, text, place behind, error -/
structure WV where
  val : Nat
  text : ByteArray
  to : Nat
  err : Nat
def wval (b : List UInt8) (p kind : Nat) : WV :=
  if kind = 0 then ⟨(vget b p).1, emptyT, (vget b p).2.1, (vget b p).2.2⟩
  else if kind = 1 then ⟨(fget 8 b p).1, emptyT, (fget 8 b p).2.1, (fget 8 b p).2.2⟩
  else if kind = 5 then ⟨(fget 4 b p).1, emptyT, (fget 4 b p).2.1, (fget 4 b p).2.2⟩
  else if kind = 2 then
    if (vget b p).2.2 = 0 then
      if b.length - (vget b p).2.1 < (vget b p).1 then ⟨0, emptyT, 0, 2⟩
      else ⟨0, ⟨((b.drop (vget b p).2.1).take (vget b p).1).toArray⟩, (vget b p).2.1 + (vget b p).1, 0⟩
    else ⟨0, emptyT, 0, (vget b p).2.2⟩
  else ⟨0, emptyT, 0, 11⟩
/-- one step: error (0: none) and what has been read then -/
def wnext (b : List UInt8) (s : RSt) : Nat × RSt :=
  if (vget b s.at_).2.2 = 0 then
    if (vget b s.at_).1 / 8 < 1 ∨ 536870912 ≤ (vget b s.at_).1 / 8 then (5, s)
    else if (vget b s.at_).1 % 8 = 3 then if 8 ≤ s.opn.length then (12, s) else (0, ⟨(vget b s.at_).2.1, s.opn ++ [(vget b s.at_).1 / 8], s.out⟩)
    else if (vget b s.at_).1 % 8 = 4 then if s.opn.getLast? = some ((vget b s.at_).1 / 8) then (0, ⟨(vget b s.at_).2.1, s.opn.dropLast, s.out⟩) else (4, s)
    else if (wval b (vget b s.at_).2.1 ((vget b s.at_).1 % 8)).err = 0 then
      if s.opn.length = 0 then
        if 256 ≤ s.out.length then (6, s)
        else (0, ⟨(wval b (vget b s.at_).2.1 ((vget b s.at_).1 % 8)).to, s.opn, s.out ++ [⟨((vget b s.at_).1 / 8 : Nat), ((vget b s.at_).1 % 8 : Nat), (wval b (vget b s.at_).2.1 ((vget b s.at_).1 % 8)).val, (wval b (vget b s.at_).2.1 ((vget b s.at_).1 % 8)).text⟩]⟩)
      else (0, ⟨(wval b (vget b s.at_).2.1 ((vget b s.at_).1 % 8)).to, s.opn, s.out⟩)
    else ((wval b (vget b s.at_).2.1 ((vget b s.at_).1 % 8)).err, s)
  else ((vget b s.at_).2.2, s)
def wrun (b : List UInt8) : Nat → RSt → List Fld × Nat
  | 0, s => if s.opn.length = 0 then (s.out, 0) else ([], 2)
  | n + 1, s => if s.at_ < b.length then (if (wnext b s).1 = 0 then wrun b n (wnext b s).2 else ([], (wnext b s).1)) else if s.opn.length = 0 then (s.out, 0) else ([], 2)
def wof (b : List UInt8) : List Fld × Nat := if 4096 < b.length then ([], 3) else wrun b b.length ⟨0, [], []⟩

theorem vgo_to : ∀ (f i v : Nat) (l : List UInt8), (vgo f i v l).2.2 = 0 → i < (vgo f i v l).2.1 ∧ (vgo f i v l).2.1 ≤ i + l.length := by
  intro f
  induction f with
  | zero => intro i v l h; simp [vgo] at h
  | succ f ih =>
    intro i v l h
    cases l with
    | nil => simp [vgo] at h
    | cons c l =>
      rw [vgo] at h ⊢
      split
      · rename_i h1; rw [if_pos h1] at h; simp at h
      · rename_i h1
        rw [if_neg h1] at h
        split
        · simp
        · rename_i h2
          rw [if_neg h2] at h
          have := ih _ _ _ h
          simp only [List.length_cons]
          omega
theorem vget_to {b : List UInt8} {p : Nat} (h : (vget b p).2.2 = 0) : p < (vget b p).2.1 ∧ (vget b p).2.1 ≤ b.length ∧ p ≤ b.length := by
  unfold vget at h ⊢
  split
  · rename_i h1; rw [if_pos h1] at h; simp at h
  · rename_i h1
    rw [if_neg h1] at h
    split
    · rename_i h2
      have := vgo_to _ _ _ _ h2
      simp only [List.length_drop, Int.toNat_natCast] at this ⊢
      omega
    · rename_i h2
      rw [if_neg h2] at h
      simp only at h
      exact absurd h h2
theorem fget_to {k : Nat} {b : List UInt8} {p : Nat} (h : (fget k b p).2.2 = 0) : (fget k b p).2.1 = p + k ∧ p + k ≤ b.length := by
  unfold fget at h ⊢
  split
  · rename_i h1; rw [if_pos h1] at h; simp at h
  · rename_i h1
    rw [if_neg h1] at h
    split
    · rename_i h2; rw [if_pos h2] at h; simp at h
    · simp; omega
theorem vgo_lt : ∀ (f i v : Nat) (l : List UInt8), f + i = 10 → v < 128 ^ i → (vgo f i v l).1 < 18446744073709551616 := by
  intro f
  induction f with
  | zero => intro i v l _ _; simp [vgo]
  | succ f ih =>
    intro i v l hf hv
    cases l with
    | nil => simp [vgo]
    | cons c l =>
      rw [vgo]
      have hc : c.toNat < 256 := c.toNat_lt
      split
      · simp
      · rename_i h1
        split
        · rename_i h2
          simp only
          rcases Nat.lt_or_ge i 9 with h9 | h9
          · have e1 : c.toNat * 128 ^ i ≤ 127 * 128 ^ i := Nat.mul_le_mul_right _ (by omega)
            have e2 : 128 * 128 ^ i ≤ 128 ^ 9 := by
              rw [← Nat.pow_succ']
              exact Nat.pow_le_pow_right (by omega) (by omega)
            have e3 : (128 : Nat) ^ 9 = 9223372036854775808 := by decide
            omega
          · obtain rfl : i = 9 := by omega
            have e3 : (128 : Nat) ^ 9 = 9223372036854775808 := by decide
            have : c.toNat ≤ 1 := by omega
            rw [e3] at hv ⊢
            have : c.toNat * 9223372036854775808 ≤ 1 * 9223372036854775808 := Nat.mul_le_mul_right _ this
            omega
        · refine ih _ _ _ (by omega) ?_
          have e1 : c.toNat % 128 * 128 ^ i ≤ 127 * 128 ^ i := Nat.mul_le_mul_right _ (by omega)
          rw [Nat.pow_succ']
          omega
theorem vget_lt (b : List UInt8) (p : Int) : (vget b p).1 < 18446744073709551616 := by
  unfold vget
  split
  · simp
  · split
    · exact vgo_lt 10 0 0 _ rfl (by simp)
    · simp
theorem wval_to {b : List UInt8} {p k : Nat} (h : (wval b p k).err = 0) : p ≤ (wval b p k).to ∧ (wval b p k).to ≤ b.length := by
  unfold wval at h ⊢
  split
  · rename_i h0; rw [if_pos h0] at h; have := vget_to h; simp only; omega
  rename_i h0; rw [if_neg h0] at h
  split
  · rename_i h1; rw [if_pos h1] at h; have := fget_to h; simp only; omega
  rename_i h1; rw [if_neg h1] at h
  split
  · rename_i h5; rw [if_pos h5] at h; have := fget_to h; simp only; omega
  rename_i h5; rw [if_neg h5] at h
  split
  · rename_i h2; rw [if_pos h2] at h
    split
    · rename_i he; rw [if_pos he] at h
      have := vget_to he
      split
      · rename_i hl; rw [if_pos hl] at h; simp at h
      · simp only; omega
    · rename_i he; rw [if_neg he] at h; exact absurd h he
  · rename_i h2; rw [if_neg h2] at h; simp at h
theorem wnext_to {b : List UInt8} {s : RSt} (h : (wnext b s).1 = 0) : s.at_ < (wnext b s).2.at_ ∧ (wnext b s).2.at_ ≤ b.length := by
  unfold wnext at h ⊢
  split
  · rename_i h0; rw [if_pos h0] at h
    have hv := vget_to h0
    split
    · rename_i h1; rw [if_pos h1] at h; simp at h
    rename_i h1; rw [if_neg h1] at h
    split
    · rename_i h2; rw [if_pos h2] at h
      split
      · rename_i h3; rw [if_pos h3] at h; simp at h
      · simp only; omega
    rename_i h2; rw [if_neg h2] at h
    split
    · rename_i h3; rw [if_pos h3] at h
      split
      · simp only; omega
      · rename_i h4; rw [if_neg h4] at h; simp at h
    rename_i h3; rw [if_neg h3] at h
    split
    · rename_i h4; rw [if_pos h4] at h
      have hw := wval_to h4
      split
      · rename_i h5; rw [if_pos h5] at h
        split
        · rename_i h6; rw [if_pos h6] at h; simp at h
        · simp only; omega
      · simp only; omega
    · rename_i h4; rw [if_neg h4] at h; exact absurd h h4
  · rename_i h0; rw [if_neg h0] at h; exact absurd h h0
end Go.Proofs.Ytkanhggmhjldmaa

/- PLAIN LAW: one message behind another. -/
namespace Go.Proofs.Ytkanhggmhjldmaa
open Go.RowKit Plain

theorem vgo_app : ∀ (f i v : Nat) (l r : List UInt8), (vgo f i v l).2.2 = 0 → vgo f i v (l ++ r) = vgo f i v l := by
  intro f
  induction f with
  | zero => intro i v l r h; simp [vgo] at h
  | succ f ih =>
    intro i v l r h
    cases l with
    | nil => simp [vgo] at h
    | cons c l =>
      rw [List.cons_append, vgo, vgo]
      rw [vgo] at h
      split
      · rfl
      · rename_i h1
        rw [if_neg h1] at h
        split
        · rfl
        · rename_i h2
          rw [if_neg h2] at h
          exact ih _ _ _ _ h
theorem vget_app {a b : List UInt8} {p : Nat} (h : (vget a p).2.2 = 0) : vget (a ++ b) p = vget a p := by
  have hp := (vget_to h).2.2
  unfold vget at h ⊢
  have h1 : ¬ ((p : Int) < 0 ∨ (a.length : Int) < (p : Int)) := by omega
  have h2 : ¬ ((p : Int) < 0 ∨ ((a ++ b).length : Int) < (p : Int)) := by simp; omega
  rw [if_neg h1] at h ⊢
  rw [if_neg h2]
  have h3 : (vgo 10 0 0 (a.drop (p : Int).toNat)).2.2 = 0 := by
    split at h
    · assumption
    · exact h
  rw [Int.toNat_natCast] at h3 ⊢
  rw [List.drop_append_of_le_length hp, vgo_app _ _ _ _ _ h3]
theorem fget_app {k : Nat} {a b : List UInt8} {p : Nat} (h : (fget k a p).2.2 = 0) : fget k (a ++ b) p = fget k a p := by
  have hp := (fget_to h).2
  unfold fget at h ⊢
  have h1 : ¬ ((p : Int) < 0 ∨ (a.length : Int) < (p : Int)) := by omega
  have h2 : ¬ ((p : Int) < 0 ∨ ((a ++ b).length : Int) < (p : Int)) := by simp; omega
  have h3 : ¬ ((a.length : Int) - (p : Int) < (k : Int)) := by omega
  have h4 : ¬ (((a ++ b).length : Int) - (p : Int) < (k : Int)) := by simp; omega
  rw [if_neg h1, if_neg h3, if_neg h2, if_neg h4]
  rw [Int.toNat_natCast, List.drop_append_of_le_length (by omega), List.take_append_of_le_length (by first | (simp; done) | (simp; omega))]
theorem wval_app {a b : List UInt8} {p k : Nat} (h : (wval a p k).err = 0) : wval (a ++ b) p k = wval a p k := by
  unfold wval at h ⊢
  split
  · rename_i h0; rw [if_pos h0] at h; rw [vget_app h]
  rename_i h0; rw [if_neg h0] at h
  split
  · rename_i h1; rw [if_pos h1] at h; rw [fget_app h]
  rename_i h1; rw [if_neg h1] at h
  split
  · rename_i h5; rw [if_pos h5] at h; rw [fget_app h]
  rename_i h5; rw [if_neg h5] at h
  split
  · rename_i h2; rw [if_pos h2] at h
    have he : (vget a p).2.2 = 0 := by
      split at h
      · assumption
      · exact h
    have ht := vget_to he
    rw [if_pos he] at h
    rw [vget_app he, if_pos he]
    have hl : ¬ a.length - (vget a p).2.1 < (vget a p).1 := by
      intro hx; rw [if_pos hx] at h; simp at h
    rw [if_neg hl, if_neg (by first | (simp; done) | (simp; omega)), if_pos he]
    rw [List.drop_append_of_le_length ht.2.1, List.take_append_of_le_length (by first | (simp; done) | (simp; omega))]
  · rename_i h2; simp [h2] at h
theorem wnext_app {a b : List UInt8} {s : RSt} (h : (wnext a s).1 = 0) : wnext (a ++ b) s = wnext a s := by
  have he : (vget a s.at_).2.2 = 0 := by
    unfold wnext at h
    split at h
    · assumption
    · exact h
  unfold wnext at h ⊢
  rw [vget_app he]
  rw [if_pos he] at h ⊢
  split
  · rfl
  rename_i h1; rw [if_neg h1] at h
  split
  · rfl
  rename_i h2; rw [if_neg h2] at h
  split
  · rfl
  rename_i h3; rw [if_neg h3] at h
  have hv : (wval a (vget a s.at_).2.1 ((vget a s.at_).1 % 8)).err = 0 := by
    split at h
    · assumption
    · exact h
  rw [wval_app hv]
theorem vget_behind (a b : List UInt8) (p : Nat) : vget (a ++ b) ((a.length + p : Nat) : Int) = if (vget b p).2.2 = 0 then ((vget b p).1, a.length + (vget b p).2.1, 0) else (0, 0, (vget b p).2.2) := by
  unfold vget
  by_cases hp : b.length < p
  · rw [if_pos (show ((a.length + p : Nat) : Int) < 0 ∨ (((a ++ b).length : Nat) : Int) < ((a.length + p : Nat) : Int) by right; simp; omega), if_pos (show (p : Int) < 0 ∨ (b.length : Int) < (p : Int) by omega)]
    simp
  · rw [if_neg (show ¬ (((a.length + p : Nat) : Int) < 0 ∨ (((a ++ b).length : Nat) : Int) < ((a.length + p : Nat) : Int)) by simp; omega), if_neg (show ¬ ((p : Int) < 0 ∨ (b.length : Int) < (p : Int)) by omega)]
    rw [Int.toNat_natCast, Int.toNat_natCast, show (a ++ b).drop (a.length + p) = b.drop p by simp]
    split
    · rename_i h
      simp [Nat.add_assoc]
    · simp
theorem fget_behind (k : Nat) (a b : List UInt8) (p : Nat) : fget k (a ++ b) ((a.length + p : Nat) : Int) = if (fget k b p).2.2 = 0 then ((fget k b p).1, a.length + (fget k b p).2.1, 0) else (0, 0, (fget k b p).2.2) := by
  unfold fget
  by_cases hp : b.length < p
  · rw [if_pos (show ((a.length + p : Nat) : Int) < 0 ∨ (((a ++ b).length : Nat) : Int) < ((a.length + p : Nat) : Int) by right; simp; omega), if_pos (show (p : Int) < 0 ∨ (b.length : Int) < (p : Int) by omega)]
    simp
  · rw [if_neg (show ¬ (((a.length + p : Nat) : Int) < 0 ∨ (((a ++ b).length : Nat) : Int) < ((a.length + p : Nat) : Int)) by simp; omega), if_neg (show ¬ ((p : Int) < 0 ∨ (b.length : Int) < (p : Int)) by omega)]
    by_cases hk : (b.length : Int) - (p : Int) < (k : Int)
    · rw [if_pos (show (((a ++ b).length : Nat) : Int) - ((a.length + p : Nat) : Int) < (k : Int) by simp; omega), if_pos hk]
      simp
    · rw [if_neg (show ¬ (((a ++ b).length : Nat) : Int) - ((a.length + p : Nat) : Int) < (k : Int) by simp; omega), if_neg hk]
      rw [Int.toNat_natCast, Int.toNat_natCast, show (a ++ b).drop (a.length + p) = b.drop p by simp]
      simp [Nat.add_assoc]
theorem wval_e0 (l : List UInt8) (q : Nat) : wval l q 0 = ⟨(vget l q).1, emptyT, (vget l q).2.1, (vget l q).2.2⟩ := by unfold wval; rw [if_pos rfl]
theorem wval_e1 (l : List UInt8) (q : Nat) : wval l q 1 = ⟨(fget 8 l q).1, emptyT, (fget 8 l q).2.1, (fget 8 l q).2.2⟩ := by unfold wval; rw [if_neg (by omega), if_pos rfl]
theorem wval_e5 (l : List UInt8) (q : Nat) : wval l q 5 = ⟨(fget 4 l q).1, emptyT, (fget 4 l q).2.1, (fget 4 l q).2.2⟩ := by unfold wval; rw [if_neg (by omega), if_neg (by omega), if_pos rfl]
theorem wval_e2 (l : List UInt8) (q : Nat) : wval l q 2 = if (vget l q).2.2 = 0 then if l.length - (vget l q).2.1 < (vget l q).1 then ⟨0, emptyT, 0, 2⟩ else ⟨0, ⟨((l.drop (vget l q).2.1).take (vget l q).1).toArray⟩, (vget l q).2.1 + (vget l q).1, 0⟩ else ⟨0, emptyT, 0, (vget l q).2.2⟩ := by
  unfold wval; rw [if_neg (by omega), if_neg (by omega), if_neg (by omega), if_pos rfl]
theorem wval_behind (a b : List UInt8) (p k : Nat) (h : (wval b p k).err = 0) : wval (a ++ b) (a.length + p) k = ⟨(wval b p k).val, (wval b p k).text, a.length + (wval b p k).to, 0⟩ := by
  by_cases h0 : k = 0
  · subst h0
    rw [wval_e0] at h
    rw [wval_e0, wval_e0, vget_behind, if_pos h]
  by_cases h1 : k = 1
  · subst h1
    rw [wval_e1] at h
    rw [wval_e1, wval_e1, fget_behind, if_pos h]
  by_cases h5 : k = 5
  · subst h5
    rw [wval_e5] at h
    rw [wval_e5, wval_e5, fget_behind, if_pos h]
  by_cases h2 : k = 2
  · subst h2
    rw [wval_e2] at h
    have he : (vget b p).2.2 = 0 := by
      split at h
      · assumption
      · exact h
    rw [if_pos he] at h
    have hl : ¬ b.length - (vget b p).2.1 < (vget b p).1 := by
      intro hx; rw [if_pos hx] at h; simp at h
    rw [wval_e2, wval_e2, vget_behind, if_pos he, if_pos rfl, if_pos he, if_neg hl, if_neg (by simp; omega)]
    simp [Nat.add_assoc]
  · exfalso
    unfold wval at h
    rw [if_neg h0, if_neg h1, if_neg h5, if_neg h2] at h
    simp at h
theorem wnext_behind (a b : List UInt8) (l : List Fld) (s : RSt) (h : (wnext b s).1 = 0) (hf : l.length + (wnext b s).2.out.length ≤ 256) :
    wnext (a ++ b) ⟨a.length + s.at_, s.opn, l ++ s.out⟩ = (0, ⟨a.length + (wnext b s).2.at_, (wnext b s).2.opn, l ++ (wnext b s).2.out⟩) := by
  have he : (vget b s.at_).2.2 = 0 := by
    unfold wnext at h
    split at h
    · assumption
    · exact h
  unfold wnext at h hf ⊢
  simp only [vget_behind, if_pos he] at h hf ⊢
  by_cases h1 : (vget b s.at_).1 / 8 < 1 ∨ 536870912 ≤ (vget b s.at_).1 / 8
  · rw [if_pos h1] at h; simp at h
  rw [if_neg h1] at h hf ⊢
  rw [if_neg h1]
  by_cases h3 : (vget b s.at_).1 % 8 = 3
  · rw [if_pos h3] at h hf ⊢
    rw [if_pos h3]
    by_cases h8 : 8 ≤ s.opn.length
    · rw [if_pos h8] at h; simp at h
    · rw [if_neg h8, if_neg h8]
      simp
  rw [if_neg h3] at h hf ⊢
  rw [if_neg h3]
  by_cases h4 : (vget b s.at_).1 % 8 = 4
  · rw [if_pos h4] at h hf ⊢
    rw [if_pos h4]
    by_cases h8 : s.opn.getLast? = some ((vget b s.at_).1 / 8)
    · rw [if_pos h8, if_pos h8]
      simp
    · rw [if_neg h8] at h; simp at h
  rw [if_neg h4] at h hf ⊢
  rw [if_neg h4]
  have hv : (wval b (vget b s.at_).2.1 ((vget b s.at_).1 % 8)).err = 0 := by
    split at h
    · assumption
    · exact h
  rw [wval_behind _ _ _ _ hv]
  rw [if_pos hv] at h hf ⊢
  simp only [if_true]
  by_cases ho : s.opn.length = 0
  · rw [if_pos ho] at h hf ⊢
    rw [if_pos ho]
    by_cases hfl : 256 ≤ s.out.length
    · rw [if_pos hfl] at h; simp at h
    · rw [if_neg hfl] at hf ⊢
      simp only [List.length_append, List.length_singleton] at hf
      rw [if_neg (by simp; omega)]
      simp
  · rw [if_neg ho]
    rw [if_neg ho]
theorem wrun_end2 {b : List UInt8} {f : Nat} {s : RSt} (h : ¬ s.at_ < b.length) : wrun b f s = if s.opn.length = 0 then (s.out, 0) else ([], 2) := by
  cases f with
  | zero => rfl
  | succ f => rw [wrun, if_neg h]
theorem wrun_ends {s : RSt} {l : List Fld} (h : (if s.opn.length = 0 then (s.out, 0) else (([] : List Fld), 2)) = (l, 0)) : s.opn = [] ∧ s.out = l := by
  split at h
  · rename_i h0
    exact ⟨List.eq_nil_of_length_eq_zero h0, (Prod.mk.inj h).1⟩
  · have := (Prod.mk.inj h).2
    omega
theorem wrun_first (a b : List UInt8) (l : List Fld) (g : Nat) : ∀ (f : Nat) (s : RSt), wrun a f s = (l, 0) → a.length ≤ f + s.at_ → s.at_ ≤ a.length → ∃ g', g ≤ g' ∧ wrun (a ++ b) (f + g) s = wrun (a ++ b) g' ⟨a.length, [], l⟩ := by
  intro f
  induction f with
  | zero =>
    intro s h h1 h2
    rw [wrun] at h
    obtain ⟨e1, e2⟩ := wrun_ends h
    obtain ⟨p, o, u⟩ := s
    simp only at e1 e2 h1 h2
    obtain rfl : p = a.length := by omega
    subst e1 e2
    exact ⟨0 + g, by omega, rfl⟩
  | succ f ih =>
    intro s h h1 h2
    rw [wrun] at h
    by_cases hlt : s.at_ < a.length
    · rw [if_pos hlt] at h
      by_cases he : (wnext a s).1 = 0
      · rw [if_pos he] at h
        have ht := wnext_to he
        obtain ⟨g', hg, hw⟩ := ih _ h (by omega) ht.2
        refine ⟨g', hg, ?_⟩
        rw [show f + 1 + g = (f + g) + 1 by omega, wrun, if_pos (by simp; omega), wnext_app he, if_pos he, hw]
      · rw [if_neg he] at h
        have := (Prod.mk.inj h).2
        omega
    · rw [if_neg hlt] at h
      obtain ⟨e1, e2⟩ := wrun_ends h
      obtain ⟨p, o, u⟩ := s
      simp only at e1 e2 h1 h2 hlt
      obtain rfl : p = a.length := by omega
      subst e1 e2
      exact ⟨f + 1 + g, by omega, rfl⟩
theorem wnext_out {b : List UInt8} {s : RSt} : s.out.length ≤ (wnext b s).2.out.length := by
  unfold wnext
  split
  · split
    · exact Nat.le_refl _
    split
    · split <;> exact Nat.le_refl _
    split
    · split <;> exact Nat.le_refl _
    split
    · split
      · split
        · exact Nat.le_refl _
        · simp
      · exact Nat.le_refl _
    · exact Nat.le_refl _
  · exact Nat.le_refl _
theorem wrun_out (b : List UInt8) (m : List Fld) : ∀ (f : Nat) (s : RSt), wrun b f s = (m, 0) → s.out.length ≤ m.length := by
  intro f
  induction f with
  | zero =>
    intro s h
    rw [wrun] at h
    rw [(wrun_ends h).2]
    exact Nat.le_refl _
  | succ f ih =>
    intro s h
    rw [wrun] at h
    split at h
    · split at h
      · exact Nat.le_trans wnext_out (ih _ h)
      · rename_i he
        have := (Prod.mk.inj h).2
        omega
    · rw [(wrun_ends h).2]
      exact Nat.le_refl _
theorem wrun_second (a b : List UInt8) (l m : List Fld) (hm : l.length + m.length ≤ 256) : ∀ (f : Nat) (s : RSt) (g : Nat), wrun b f s = (m, 0) → b.length ≤ f + s.at_ → s.at_ ≤ b.length → f ≤ g → wrun (a ++ b) g ⟨a.length + s.at_, s.opn, l ++ s.out⟩ = (l ++ m, 0) := by
  intro f
  induction f with
  | zero =>
    intro s g h h1 h2 _
    rw [wrun] at h
    obtain ⟨e1, e2⟩ := wrun_ends h
    rw [wrun_end2 (by simp; omega), e1, e2]
    rfl
  | succ f ih =>
    intro s g h h1 h2 hg
    obtain ⟨g, rfl⟩ : ∃ k, g = k + 1 := ⟨g - 1, by omega⟩
    rw [wrun] at h
    by_cases hlt : s.at_ < b.length
    · rw [if_pos hlt] at h
      by_cases he : (wnext b s).1 = 0
      · rw [if_pos he] at h
        have ht := wnext_to he
        have hout := wrun_out b m _ _ h
        rw [wrun, if_pos (by simp; omega), wnext_behind a b l s he (by omega), if_pos rfl]
        exact ih _ _ h (by omega) ht.2 (by omega)
      · rw [if_neg he] at h
        have := (Prod.mk.inj h).2
        omega
    · rw [if_neg hlt] at h
      obtain ⟨e1, e2⟩ := wrun_ends h
      rw [wrun_end2 (by simp; omega), e1, e2]
      rfl
/-- what two messages tell, their bytes tell one behind the other -/
theorem wof_app {a b : List UInt8} {l m : List Fld} (ha : wof a = (l, 0)) (hb : wof b = (m, 0)) (hlen : a.length + b.length ≤ 4096) (hn : l.length + m.length ≤ 256) : wof (a ++ b) = (l ++ m, 0) := by
  unfold wof at ha hb ⊢
  rw [if_neg (by omega)] at ha hb
  rw [if_neg (by simp; omega), List.length_append]
  obtain ⟨g', hg, hw⟩ := wrun_first a b l b.length a.length ⟨0, [], []⟩ ha (by simp) (by simp)
  rw [hw]
  have := wrun_second a b l m hn b.length ⟨0, [], []⟩ g' hb (by simp) (by simp) hg
  simpa using this
end Go.Proofs.Ytkanhggmhjldmaa

/- PLAIN LAW: a number's bytes told again, with whatever behind. -/
namespace Go.Proofs.Ytkanhggmhjldmaa.Plain

theorem vgo_vb : ∀ (k i m v : Nat) (r : List UInt8), k + i = 9 → m < 128 ^ k * 2 → vgo (10 - i) i v (vb k m ++ r) = (v + m * 128 ^ i, i + (vb k m).length, 0) := by
  intro k
  induction k with
  | zero =>
    intro i m v r hi hm
    have h9 : i = 9 := by omega
    have hm2 : m < 2 := by simpa using hm
    subst h9
    simp only [vb, List.singleton_append]
    rw [vgo_cons (by omega)]
    have e : (UInt8.ofNat m).toNat = m := by rw [UInt8.toNat_ofNat', Nat.mod_eq_of_lt (by omega)]
    rw [e, if_neg (by omega), if_pos (by omega)]
    rfl
  | succ k ih =>
    intro i m v r hi hm
    have hi10 : i < 10 := by omega
    have hi9 : ¬ i = 9 := by omega
    rw [vb]
    by_cases h : m < 128
    · rw [if_pos h, List.singleton_append, vgo_cons hi10]
      have e : (UInt8.ofNat m).toNat = m := by rw [UInt8.toNat_ofNat', Nat.mod_eq_of_lt (by omega)]
      rw [e, if_neg (fun h => hi9 h.1), if_pos h]
      rfl
    · rw [if_neg h, List.cons_append, vgo_cons hi10]
      have e : (UInt8.ofNat (m % 128 + 128)).toNat = m % 128 + 128 := by rw [UInt8.toNat_ofNat', Nat.mod_eq_of_lt (by omega)]
      rw [e, if_neg (fun h => hi9 h.1), if_neg (by omega), ih (i + 1) (m / 128) _ r (by omega) (by
        rw [Nat.div_lt_iff_lt_mul (by omega)]
        rw [Nat.pow_succ] at hm
        have : 128 ^ k * 128 * 2 = 128 ^ k * 2 * 128 := by ac_rfl
        omega)]
      have e2 : (m % 128 + 128) % 128 = m % 128 := by omega
      have e3 : v + m % 128 * 128 ^ i + m / 128 * 128 ^ (i + 1) = v + m * 128 ^ i := by
        rw [Nat.pow_succ, Nat.mul_comm (128 ^ i) 128, ← Nat.mul_assoc, Nat.add_assoc, ← Nat.add_mul]
        congr 2
        have := Nat.mod_add_div m 128
        omega
      rw [e2, e3]
      simp only [List.length_cons]
      congr 2
      omega
theorem vgo_vput {n : Nat} (hn : n < 18446744073709551616) (r : List UInt8) : vgo 10 0 0 (vput n ++ r) = (n, vsize n, 0) := by
  have h := vgo_vb 9 0 n 0 r rfl (by
    have e : (128 : Nat) ^ 9 = 9223372036854775808 := by decide
    rw [e]; omega)
  simpa [vput, vsize] using h
theorem vget_mid {n : Nat} (l1 l2 : List UInt8) (hn : n < 18446744073709551616) : vget (l1 ++ vput n ++ l2) (l1.length : Nat) = (n, l1.length + vsize n, 0) := by
  have h : vgo 10 0 0 ((l1 ++ vput n ++ l2).drop l1.length) = (n, vsize n, 0) := by
    rw [List.append_assoc, List.drop_left]; exact vgo_vput hn l2
  unfold vget
  rw [if_neg (by simp; omega), Int.toNat_natCast, h]
  rfl

/-- L tells n, and may be told longer: ini go on, x is the last. -/
def Told (n : Nat) (L : List UInt8) (ini : List UInt8) (x : Nat) : Prop :=
  L = ini ++ [UInt8.ofNat x] ∧ x < 128 ∧ ini.length < 10 ∧ (ini.length = 9 → x ≤ 1) ∧ ∃ v, (∀ r, vgo 10 0 0 (ini ++ r) = vgo (10 - ini.length) ini.length v r) ∧ n = v + x * 128 ^ ini.length
theorem told_vb : ∀ (k : Nat) (ini : List UInt8) (n m v : Nat), k + ini.length = 9 → m < 128 ^ k * 2 → (∀ r, vgo 10 0 0 (ini ++ r) = vgo (10 - ini.length) ini.length v r) → n = v + m * 128 ^ ini.length →
    ∃ ini' x, Told n (ini ++ vb k m) ini' x := by
  intro k
  induction k with
  | zero =>
    intro ini n m v hi hm hv hn
    have hm2 : m < 2 := by simpa using hm
    exact ⟨ini, m, rfl, by omega, by omega, fun _ => by omega, v, hv, hn⟩
  | succ k ih =>
    intro ini n m v hi hm hv hn
    rw [vb]
    by_cases h : m < 128
    · rw [if_pos h]; exact ⟨ini, m, rfl, h, by omega, fun e => by omega, v, hv, hn⟩
    · rw [if_neg h]
      have e : (UInt8.ofNat (m % 128 + 128)).toNat = m % 128 + 128 := by rw [UInt8.toNat_ofNat', Nat.mod_eq_of_lt (by omega)]
      have hh := ih (ini ++ [UInt8.ofNat (m % 128 + 128)]) n (m / 128) (v + m % 128 * 128 ^ ini.length) (by simp; omega) (by
        rw [Nat.div_lt_iff_lt_mul (by omega)]
        rw [Nat.pow_succ] at hm
        have : 128 ^ k * 128 * 2 = 128 ^ k * 2 * 128 := by ac_rfl
        omega) (fun r => by
          rw [List.append_assoc, List.singleton_append, hv, vgo_cons (by omega), e, if_neg (by omega), if_neg (by omega)]
          rw [List.length_append, List.length_singleton]
          rw [show (m % 128 + 128) % 128 = m % 128 by omega]) (by
          rw [List.length_append, List.length_singleton, Nat.pow_succ, Nat.mul_comm (128 ^ ini.length) 128, ← Nat.mul_assoc, Nat.add_assoc, ← Nat.add_mul, hn]
          congr 2
          have := Nat.mod_add_div m 128
          omega)
      rw [List.append_assoc, List.singleton_append] at hh
      exact hh
theorem told_vput {n : Nat} (hn : n < 18446744073709551616) : ∃ ini x, Told n (vput n) ini x := by
  have e : (128 : Nat) ^ 9 = 9223372036854775808 := by decide
  exact told_vb 9 [] n n 0 rfl (by rw [e]; omega) (fun r => rfl) (by simp)
theorem told_more {n x : Nat} {L ini : List UInt8} (h : Told n L ini x) (h9 : ini.length + 1 < 9) : Told n (ini ++ [UInt8.ofNat (x + 128)] ++ [UInt8.ofNat 0]) (ini ++ [UInt8.ofNat (x + 128)]) 0 := by
  obtain ⟨rfl, hx, _, _, v, hv, hn⟩ := h
  have e : (UInt8.ofNat (x + 128)).toNat = x + 128 := by rw [UInt8.toNat_ofNat', Nat.mod_eq_of_lt (by omega)]
  refine ⟨rfl, by omega, by simp; omega, fun _ => by omega, v + x * 128 ^ ini.length, fun r => ?_, by rw [Nat.zero_mul]; exact hn⟩
  rw [List.append_assoc, List.singleton_append, hv, vgo_cons (by omega), e, if_neg (by omega), if_neg (by omega), List.length_append, List.length_singleton]
  rw [show (x + 128) % 128 = x by omega]
theorem told_get {n x : Nat} {L ini : List UInt8} (h : Told n L ini x) : vget L 0 = (n, L.length, 0) := by
  obtain ⟨rfl, hx, hl, h9, v, hv, hn⟩ := h
  have e : (UInt8.ofNat x).toNat = x := by rw [UInt8.toNat_ofNat', Nat.mod_eq_of_lt (by omega)]
  have hg : vgo 10 0 0 (ini ++ [UInt8.ofNat x]) = (n, ini.length + 1, 0) := by
    rw [hv, vgo_cons hl, e, if_neg (fun h => by have := h9 h.1; omega), if_pos hx, hn]
  unfold vget
  rw [if_neg (by simp; omega), Int.toNat_zero, List.drop_zero, hg]
  simp
theorem vget_open : ∀ i : Fin 13, vget (List.replicate i.val (UInt8.ofNat 128)) 0 = (0, 0, if i.val < 10 then 2 else 3) := by decide +kernel
end Go.Proofs.Ytkanhggmhjldmaa.Plain

/- PLAIN LAW: fields' bytes tell the fields. -/
namespace Go.Proofs.Ytkanhggmhjldmaa
open Go.RowKit Plain

theorem fget_at (k n : Nat) (l1 : List UInt8) (hn : n < 256 ^ k) : fget k (l1 ++ le k n) (l1.length : Nat) = (n, l1.length + k, 0) := by
  unfold fget
  rw [if_neg (by simp; omega), if_neg (by simp [le_length]; omega)]
  have h : (l1 ++ le k n).drop l1.length = le k n := by simp
  rw [Int.toNat_natCast, h, List.take_of_length_le (by rw [le_length]; exact Nat.le_refl _), un_le k n hn]
theorem vget_at {n : Nat} (l1 l2 : List UInt8) (hn : n < 18446744073709551616) : vget (l1 ++ (vput n ++ l2)) (l1.length : Nat) = (n, l1.length + vsize n, 0) := by
  rw [← List.append_assoc]; exact vget_mid l1 l2 hn
theorem vget_at0 {n : Nat} (l2 : List UInt8) (hn : n < 18446744073709551616) : vget (vput n ++ l2) 0 = (n, vsize n, 0) := by
  have := vget_at [] l2 hn
  simpa using this
theorem empty_of {s : ByteArray} (h : s.toList.isEmpty = true) : s = emptyT := by
  rw [ByteArray.toList_eq] at h
  have h2 : s.data = #[] := by simpa using h
  unfold emptyT
  rw [← h2]
/-- one field's bytes tell the field -/
theorem wof_one {f : Fld} (h : werrF f = 0) (hw : FldOk f) (hlen : (wencF f).length ≤ 4096) : wof (wencF f) = ([f], 0) := by
  obtain ⟨fnum, fkind, fval, ftext⟩ := f
  obtain ⟨k0, k1, k2, k3, k4, k5⟩ := werrF_ok h
  simp only at k0 k1 k2 k3 k4 k5
  have hval : fval < 18446744073709551616 := hw.2.2
  obtain ⟨num, rfl⟩ := Int.eq_ofNat_of_zero_le (show 0 ≤ fnum by omega)
  obtain ⟨kind, rfl⟩ := Int.eq_ofNat_of_zero_le (show 0 ≤ fkind by omega)
  have hT : 8 * num + kind < 18446744073709551616 := by omega
  have hd : (8 * num + kind) / 8 = num := by omega
  have hm : (8 * num + kind) % 8 = kind := by omega
  have hbd := vsize_bd (8 * num + kind)
  have hE : wencF ⟨num, kind, fval, ftext⟩ = wenc num kind fval ftext.data.toList := rfl
  rw [hE] at hlen ⊢
  -- what stands behind the tag
  have hv : wval (wenc num kind fval ftext.data.toList) (vsize (8 * num + kind)) kind = ⟨fval, ftext, (wenc num kind fval ftext.data.toList).length, 0⟩ := by
    have hk : kind = 0 ∨ kind = 1 ∨ kind = 2 ∨ kind = 5 := by omega
    have hvs : vsize (8 * num + kind) = (vput (8 * num + kind)).length := rfl
    rcases hk with rfl | rfl | rfl | rfl
    · have ht := empty_of (k5 (by decide))
      subst ht
      have e : wenc num 0 fval emptyT.data.toList = vput (8 * num + 0) ++ (vput fval ++ []) := by unfold wenc; simp
      rw [e, hvs, wval_e0, vget_at _ _ hval]
      simp [vsize]
    · have ht := empty_of (k5 (by decide))
      subst ht
      have e : wenc num 1 fval emptyT.data.toList = vput (8 * num + 1) ++ le 8 fval := by unfold wenc; simp
      rw [e, hvs, wval_e1, fget_at 8 fval _ (by simpa using hval)]
      simp [le_length]
    · have hv0 := k4 rfl
      subst hv0
      have e : wenc num 2 0 ftext.data.toList = vput (8 * num + 2) ++ (vput ftext.data.toList.length ++ ftext.data.toList) := by unfold wenc; simp
      have hl : ftext.data.toList.length < 18446744073709551616 := by rw [e] at hlen; simp at hlen ⊢; omega
      rw [e, hvs, wval_e2, vget_at _ _ hl]
      simp only [if_true]
      rw [if_neg (by simp [vsize]; omega)]
      have hdr : (vput (8 * num + 2) ++ (vput ftext.data.toList.length ++ ftext.data.toList)).drop ((vput (8 * num + 2)).length + vsize ftext.data.toList.length) = ftext.data.toList := by
        rw [← List.append_assoc, show (vput (8 * num + 2)).length + vsize ftext.data.toList.length = (vput (8 * num + 2) ++ vput ftext.data.toList.length).length by simp [vsize]]
        simp
      rw [hdr, List.take_of_length_le (Nat.le_refl _)]
      simp [vsize, Nat.add_assoc]
    · have ht := empty_of (k5 (by decide))
      subst ht
      have e : wenc num 5 fval emptyT.data.toList = vput (8 * num + 5) ++ le 4 fval := by unfold wenc; simp
      have h4 := k3 rfl
      rw [e, hvs, wval_e5, fget_at 4 fval _ (by simpa using h4)]
      simp [le_length]
  have hg : vget (wenc num kind fval ftext.data.toList) ((0 : Nat) : Int) = (8 * num + kind, vsize (8 * num + kind), 0) := by
    unfold wenc
    exact vget_at0 _ hT
  have hn : wnext (wenc num kind fval ftext.data.toList) ⟨0, [], []⟩ = (0, ⟨(wenc num kind fval ftext.data.toList).length, [], [⟨num, kind, fval, ftext⟩]⟩) := by
    unfold wnext
    simp only [hg, if_true, hd, hm, hv]
    rw [if_neg (by omega), if_neg (by omega), if_neg (by omega)]
    simp
  have hpos : 0 < (wenc num kind fval ftext.data.toList).length := by
    have : vsize (8 * num + kind) ≤ (wenc num kind fval ftext.data.toList).length := by unfold wenc; simp [vsize]
    omega
  unfold wof
  rw [if_neg (by omega)]
  obtain ⟨L, hL⟩ : ∃ L, (wenc num kind fval ftext.data.toList).length = L + 1 := ⟨(wenc num kind fval ftext.data.toList).length - 1, by omega⟩
  have hrun : ∀ g, wrun (wenc num kind fval ftext.data.toList) (g + 1) ⟨0, [], []⟩ = ([⟨num, kind, fval, ftext⟩], 0) := by
    intro g
    rw [wrun, if_pos hpos, hn, if_pos rfl, wrun_end2 (Nat.lt_irrefl _)]
    rfl
  have := hrun L
  rw [← hL] at this
  exact this
/-- what was put is read again -/
theorem wof_wencs : ∀ (l : List Fld), werrs l = 0 → (∀ f ∈ l, FldOk f) → l.length ≤ 256 → (wencs l).length ≤ 4096 → wof (wencs l) = (l, 0) := by
  intro l
  induction l with
  | nil => intro _ _ _ _; rfl
  | cons f l ih =>
    intro h hw hn hlen
    have hf := werrs_mem h
    have h2 : werrs l = 0 := by rw [werrs, if_pos (hf f (by simp))] at h; exact h
    have e : wencs (f :: l) = wencF f ++ wencs l := by simp [wencs]
    rw [e] at hlen ⊢
    rw [List.length_append] at hlen
    simp only [List.length_cons] at hn
    have := wof_app (wof_one (hf f (by simp)) (hw f (by simp)) (by omega)) (ih h2 (fun g hg => hw g (by simp [hg])) (by omega) (by omega)) hlen (by simp; omega)
    simpa using this
end Go.Proofs.Ytkanhggmhjldmaa

/- PLAIN LAW: the meta of bytes. -/
namespace Go.Proofs.Ytkanhggmhjldmaa
open Go.RowKit Plain

/-- what a field that was read is like -/
def FldIn (f : Fld) : Prop := 1 ≤ f.num ∧ f.num < 536870912 ∧ 0 ≤ f.kind ∧ f.kind < 8 ∧ f.val < 18446744073709551616
theorem fget8_lt (k : Nat) (hk : k ≤ 8) (b : List UInt8) (p : Int) : (fget k b p).1 < 18446744073709551616 := by
  unfold fget
  split
  · simp
  split
  · simp
  · exact un_take_lt8 _ _ _ hk
theorem wval_lt (b : List UInt8) (p k : Nat) : (wval b p k).val < 18446744073709551616 := by
  unfold wval
  split
  · exact vget_lt _ _
  split
  · exact fget8_lt 8 (by omega) _ _
  split
  · exact fget8_lt 4 (by omega) _ _
  split
  · split
    · split <;> simp
    · simp
  · simp
theorem wnext_in {b : List UInt8} {s : RSt} (h : ∀ f ∈ s.out, FldIn f) : ∀ f ∈ (wnext b s).2.out, FldIn f := by
  unfold wnext
  split
  · split
    · exact h
    rename_i h1
    split
    · split <;> exact h
    split
    · split <;> exact h
    split
    · split
      · split
        · exact h
        · intro f hf
          simp only [List.mem_append, List.mem_singleton] at hf
          rcases hf with hf | rfl
          · exact h f hf
          · refine ⟨?_, ?_, ?_, ?_, wval_lt _ _ _⟩ <;> dsimp only <;> omega
      · exact h
    · exact h
  · exact h
theorem wrun_in (b : List UInt8) : ∀ (f : Nat) (s : RSt), (∀ g ∈ s.out, FldIn g) → ∀ g ∈ (wrun b f s).1, FldIn g := by
  intro f
  induction f with
  | zero =>
    intro s h
    rw [wrun]
    split
    · exact h
    · simp
  | succ f ih =>
    intro s h
    rw [wrun]
    split
    · split
      · exact ih _ (wnext_in h)
      · simp
    · split
      · exact h
      · simp
theorem wof_in (b : List UInt8) : ∀ f ∈ (wof b).1, FldIn f := by
  unfold wof
  split
  · simp
  · exact wrun_in _ _ _ (by simp)
theorem wrun_out256 (b : List UInt8) : ∀ (f : Nat) (s : RSt), s.out.length ≤ 256 → (wrun b f s).1.length ≤ 256 := by
  intro f
  induction f with
  | zero => intro s h; rw [wrun]; split <;> simp [h]
  | succ f ih =>
    intro s h
    rw [wrun]
    split
    · split
      · refine ih _ ?_
        unfold wnext
        split
        · split
          · exact h
          split
          · split <;> exact h
          split
          · split <;> exact h
          split
          · split
            · split
              · exact h
              · simp; omega
            · exact h
          · exact h
        · exact h
      · simp
    · split <;> simp [h]
theorem wof_out (b : List UInt8) : (wof b).1.length ≤ 256 := by
  unfold wof
  split
  · simp
  · exact wrun_out256 _ _ _ (by simp)

def mzero : MM := ⟨false, ⟨#[]⟩, 0, 0, ⟨#[]⟩, ⟨#[]⟩, ⟨#[]⟩, ⟨#[]⟩⟩
/-- the kind that a meta's field has -/
def mknd (n : Int) : Int := if n = 1 then 0 else if n = 3 then 0 else if n = 4 then 0 else 2
def mset2 (m : MM) (f : Fld) : MM := if f.num = 1 then { m with multi := ((f.val : Int) == 1) } else mset m f
def merr (f : Fld) : Int := if f.kind = mknd f.num then (if f.num = 1 ∧ 1 < f.val then 5 else 0) else 4
def mrun : MM → List Fld → MM × Int
  | m, [] => (m, 0)
  | m, f :: l => if 8 < f.num then mrun m l else if merr f = 0 then mrun (mset2 m f) l else (mzero, merr f)
/-- what meta.Of answers -/
def mof (b : List UInt8) : MM × Int := if (wof b).2 = 0 then mrun mzero (wof b).1 else (mzero, (wof b).2)

theorem mset2_eq {m : MM} {f : Fld} (h : f.num = 1 → f.val = 1) : mset2 m f = mset m f := by
  unfold mset2
  split
  · rename_i h1
    unfold mset
    rw [if_pos h1, h h1]
    rfl
  · rfl
theorem mrun_fold : ∀ (l : List Fld) (m : MM), (∀ f ∈ l, f.num ≤ 8 → merr f = 0 ∧ (f.num = 1 → f.val = 1)) → mrun m l = ((l.filter fun f => decide (f.num ≤ 8)).foldl mset m, 0) := by
  intro l
  induction l with
  | nil => intro m _; rfl
  | cons f l ih =>
    intro m h
    rw [mrun]
    split
    · rename_i h8
      rw [ih m fun g hg => h g (by simp [hg]), List.filter_cons_of_neg (by simp; omega)]
    · rename_i h8
      obtain ⟨h1, h2⟩ := h f (by simp) (by omega)
      rw [if_pos h1, mset2_eq h2, ih _ fun g hg => h g (by simp [hg]), List.filter_cons_of_pos (by simp; omega)]
      rfl
theorem mfields_in {m : MM} {f : Fld} (h : f ∈ mfields m) : f.num ≤ 8 ∧ merr f = 0 ∧ (f.num = 1 → f.val = 1) := by
  obtain ⟨hf, hh⟩ := List.mem_filter.1 h
  simp only [mall, List.mem_cons, List.not_mem_nil, or_false] at hf
  rcases hf with rfl | rfl | rfl | rfl | rfl | rfl | rfl | rfl
  · cases hm : m.multi
    · rw [hm] at hh; exact absurd hh (by decide +kernel)
    · exact ⟨by simp, rfl, fun _ => rfl⟩
  all_goals exact ⟨by simp, rfl, fun h => absurd h (by simp)⟩
theorem mpick_e (s : ByteArray) : mpick ⟨#[]⟩ s = s := by
  unfold mpick
  split
  · rename_i h; exact (empty_of h).symm
  · rfl
theorem mjoin_zero (m : MM) : mjoin mzero m = m := by
  obtain ⟨m1, m2, m3, m4, m5, m6, m7, m8⟩ := m
  have hn : ∀ x : Nat, npick 0 x = x := by intro x; unfold npick; split <;> omega
  simp only [mjoin, mzero, mpick_e, hn, Bool.false_or]
theorem wencs_app (a b : List Fld) : wencs (a ++ b) = wencs a ++ wencs b := by simp [wencs]
theorem werrs_app {a b : List Fld} (ha : werrs a = 0) (hb : werrs b = 0) : werrs (a ++ b) = 0 := by
  induction a with
  | nil => exact hb
  | cons f a ih =>
    rw [werrs] at ha
    split at ha
    · rename_i h1; rw [List.cons_append, werrs, if_pos h1]; exact ih ha
    · rename_i h1; exact absurd ha h1
theorem mof_wencs (l : List Fld) (h1 : werrs l = 0) (h2 : ∀ f ∈ l, FldOk f) (h3 : l.length ≤ 256) (h4 : (wencs l).length ≤ 4096) (h5 : ∀ f ∈ l, f.num ≤ 8 → merr f = 0 ∧ (f.num = 1 → f.val = 1)) :
    mof (wencs l) = ((l.filter fun f => decide (f.num ≤ 8)).foldl mset mzero, 0) := by
  unfold mof
  rw [wof_wencs l h1 h2 h3 h4, if_pos rfl]
  exact mrun_fold _ _ h5
theorem mfields_filter (m : MM) : (mfields m).filter (fun f => decide (f.num ≤ 8)) = mfields m := by
  rw [List.filter_eq_self]
  intro f hf
  simpa using (mfields_in hf).1
/-- what was put is told again -/
theorem mof_put {m : MM} (h1 : werrs (mfields m) = 0) (hm : MOk m) (h4 : (wencs (mfields m)).length ≤ 4096) : mof (wencs (mfields m)) = (m, 0) := by
  rw [mof_wencs _ h1 (mfields_ok hm) (by have := mfields_len m; omega) h4 fun f hf _ => (mfields_in hf).2, mfields_filter, mjoin_fold, mjoin_zero]
/-- two of them, one behind the other -/
theorem mof_two {m n : MM} (h1 : werrs (mfields m) = 0) (h1' : werrs (mfields n) = 0) (hm : MOk m) (hn : MOk n) (h4 : (wencs (mfields m)).length + (wencs (mfields n)).length ≤ 4096) : mof (wencs (mfields m) ++ wencs (mfields n)) = (mjoin m n, 0) := by
  rw [← wencs_app, mof_wencs _ (werrs_app h1 h1') (fun f hf => by rcases List.mem_append.1 hf with h | h; exact mfields_ok hm f h; exact mfields_ok hn f h) (by have := mfields_len m; have := mfields_len n; simp; omega) (by rw [wencs_app, List.length_append]; omega)
    fun f hf _ => by rcases List.mem_append.1 hf with h | h; exact (mfields_in h).2; exact (mfields_in h).2]
  rw [List.filter_append, mfields_filter, mfields_filter, List.foldl_append, mjoin_fold, mjoin_fold, mjoin_zero]
theorem far_filter {l : List Fld} (h : ∀ f ∈ l, 8 < f.num) : l.filter (fun f => decide (f.num ≤ 8)) = [] := by
  rw [List.filter_eq_nil_iff]
  intro f hf
  have := h f hf
  simp; omega
/-- others tell nothing -/
theorem mof_far {m : MM} {l : List Fld} (h1 : werrs (mfields m) = 0) (h1' : werrs l = 0) (hm : MOk m) (hl : ∀ f ∈ l, FldOk f) (hfar : ∀ f ∈ l, 8 < f.num) (hn : l.length ≤ 20) (h4 : (wencs (mfields m)).length + (wencs l).length ≤ 4096) :
    mof (wencs (mfields m) ++ wencs l) = (m, 0) ∧ mof (wencs l ++ wencs (mfields m)) = (m, 0) := by
  have hq := mfields_len m
  constructor
  · rw [← wencs_app, mof_wencs _ (werrs_app h1 h1') (fun f hf => by rcases List.mem_append.1 hf with h | h; exact mfields_ok hm f h; exact hl f h) (by simp; omega) (by rw [wencs_app, List.length_append]; omega)
      fun f hf h8 => by rcases List.mem_append.1 hf with h | h; exact (mfields_in h).2; exact absurd (hfar f h) (by omega)]
    rw [List.filter_append, mfields_filter, far_filter hfar, List.append_nil, mjoin_fold, mjoin_zero]
  · rw [← wencs_app, mof_wencs _ (werrs_app h1' h1) (fun f hf => by rcases List.mem_append.1 hf with h | h; exact hl f h; exact mfields_ok hm f h) (by simp; omega) (by rw [wencs_app, List.length_append]; omega)
      fun f hf h8 => by rcases List.mem_append.1 hf with h | h; exact absurd (hfar f h) (by omega); exact (mfields_in h).2]
    rw [List.filter_append, mfields_filter, far_filter hfar, List.nil_append, mjoin_fold, mjoin_zero]
end Go.Proofs.Ytkanhggmhjldmaa

/- WALK: meta.Of -/
namespace Go.Proofs.Ytkanhggmhjldmaa
open Go.RowKit Plain

theorem takeF2_any (B M i : Nat) (b : Bool) (f : Fld) (m : MM) (W : World) (hb : W.cell? ⟨B, 0, none⟩ = some (.pointer (some ⟨M, i, none⟩))) (hm : BoxM W M m) (hi : m.cells[i]? = some (.bool b)) (hv : f.val ≤ 1) :
    Calls Try.prog 61 #[.agg (Fld.cells f).toArray, .pointer (some ⟨B, 0, none⟩)] W fun e w' => e = .returned (.int .i64 0) ∧ ∃ W1, Below W.heap.size W W1 ∧ w' = W1.setCell ⟨M, i, none⟩ (.bool ((f.val : Int) == 1)) := by
  have hc := (hm.cell i).trans hi
  have hz : W.frozen? ⟨M, i, none⟩ = false := by simp [World.frozen?, show W.heap[M]? = _ from hm]
  obtain ⟨fn, fk, fv, ft⟩ := f
  have hlb := World.block_lt_of_cell? W _ hb
  have hB := (Below.refl W.heap.size W).alloc (Nat.le_refl _) (Obj.cells #[.int .i64 fn, .int .i64 fk, .int .u64 fv, .string ft] 49)
  have hb1 := (hB.cell hlb).trans hb
  have hc1 := (hB.cell hm.lt).trans hc
  have hz1 : (W.alloc (Obj.cells #[.int .i64 fn, .int .i64 fk, .int .u64 fv, .string ft] 49)).frozen? ⟨M, i, none⟩ = false := by simp [World.frozen?, show (W.alloc (Obj.cells #[.int .i64 fn, .int .i64 fk, .int .u64 fv, .string ft] 49)).heap[M]? = _ from (hB.block M hm.lt).trans hm]
  have hF := BoxF.new W fn fk fv ft
  obtain ⟨d0, d1, d2, d3⟩ := hF.cells
  unfold Fld.cells
  have hv1 : decide ((1 : Int) < (fv : Int)) = false := by simp at hv; simp; omega
  clear hv
  go_enter Try.func61, Try.ntmps61
  go_wp2_with fail
  go_ret
  exact ⟨rfl, _, hB, rfl⟩
theorem takeF3_any (B M i : Nat) (b : Bool) (f : Fld) (m : MM) (W : World) (hb : W.cell? ⟨B, 0, none⟩ = some (.pointer (some ⟨M, i, none⟩))) (hm : BoxM W M m) (hi : m.cells[i]? = some (.bool b)) (hv : 1 < f.val) :
    Calls Try.prog 61 #[.agg (Fld.cells f).toArray, .pointer (some ⟨B, 0, none⟩)] W fun e w' => e = .returned (.int .i64 5) ∧ Below W.heap.size W w' := by
  have hc := (hm.cell i).trans hi
  obtain ⟨fn, fk, fv, ft⟩ := f
  have hlb := World.block_lt_of_cell? W _ hb
  have hB := (Below.refl W.heap.size W).alloc (Nat.le_refl _) (Obj.cells #[.int .i64 fn, .int .i64 fk, .int .u64 fv, .string ft] 49)
  have hF := BoxF.new W fn fk fv ft
  obtain ⟨d0, d1, d2, d3⟩ := hF.cells
  unfold Fld.cells
  have hv1 : decide ((1 : Int) < (fv : Int)) = true := by simp at hv; simp; omega
  clear hv
  go_enter Try.func61, Try.ntmps61
  go_wp2_with fail
  go_ret
  exact ⟨rfl, hB⟩
/-- what a part takes of whatever field -/
theorem takes2_any (i : Nat) (hi : i < 8) (B : Nat) (f : Fld) (hf : f.num = i + 1) : ∃ p : Prt, (prts B)[i]? = some p ∧ p.box = B + 2 * i ∧ p.kind = mknd f.num ∧ (∀ args W, (callFunc p.take args).run Try.prog W = .ok (.enter p.take args) W) ∧
    (¬ (f.num = 1 ∧ 1 < f.val) → ∀ (M : Nat) (m : MM) (W : World), W.cell? ⟨p.box, 0, none⟩ = some (.pointer (some ⟨M, i, none⟩)) → BoxM W M m →
      Calls Try.prog p.take #[.agg (Fld.cells f).toArray, .pointer (some ⟨p.box, 0, none⟩)] W fun e w' => e = .returned (.int .i64 0) ∧ BoxM w' M (mset2 m f) ∧ W.grownBy w' (some M)) ∧
    (f.num = 1 ∧ 1 < f.val → ∀ (M : Nat) (m : MM) (W : World), W.cell? ⟨p.box, 0, none⟩ = some (.pointer (some ⟨M, i, none⟩)) → BoxM W M m →
      Calls Try.prog p.take #[.agg (Fld.cells f).toArray, .pointer (some ⟨p.box, 0, none⟩)] W fun e w' => e = .returned (.int .i64 5) ∧ Below W.heap.size W w') := by
  by_cases h0 : i = 0
  · subst h0
    have hf1 : f.num = 1 := by simpa using hf
    refine ⟨_, rfl, rfl, by rw [hf1]; rfl, cf61, fun hv M m W hb hm => (takeF2_any _ M 0 m.multi f m W hb hm rfl (by omega)).mono ?_, fun hv M m W hb hm => takeF3_any _ M 0 m.multi f m W hb hm rfl hv.2⟩
    rintro e w' ⟨rfl, W1, hB, rfl⟩
    exact ⟨rfl, take_post hm hB _ (by unfold mset2; rw [if_pos hf1]; rfl)⟩
  · have hne : ¬ f.num = 1 := by omega
    obtain ⟨p, h1, h2, h3, h4⟩ := takes_any i hi B f hf (fun h => absurd h h0)
    refine ⟨p, h1, h2, ?_, h3, fun _ M m W hb hm => ?_, fun h => absurd h.1 hne⟩
    · have h8 : i = 1 ∨ i = 2 ∨ i = 3 ∨ i = 4 ∨ i = 5 ∨ i = 6 ∨ i = 7 := by omega
      rw [hf]
      rcases h8 with rfl | rfl | rfl | rfl | rfl | rfl | rfl <;> (obtain rfl := Option.some.inj h1; rfl)
    · have e : mset2 m f = mset m f := by unfold mset2; rw [if_neg hne]
      rw [e]
      exact h4 M m W hb hm
end Go.Proofs.Ytkanhggmhjldmaa

/- WALKS in a fence: septets and its closure: what a range over them is handed. -/
namespace Go.Proofs.Ytkanhggmhjldmaa
open Go.RowKit Go.Shelf Plain

attribute [local go_sem] Oper.semAt_some

/-- one septet: its place and its byte -/
def Sept (L : List UInt8) : Type := { x : Nat × UInt8 // x.1 < 10 ∧ L[x.1]? = some x.2 }
def encSept {L : List UInt8} (x : Sept L) : Array Value := #[.int .i64 (7 * (x.1.1 : Int)), .int .u8 (x.1.2.toNat : Int)]
def septAt (L : List UInt8) (j : Nat) (h : j < L.length) (h2 : j < 10) : Sept L := ⟨(j, L[j]), h2, by simp [h]⟩
/-- what has come when k rounds are over -/
def IsSeq {L : List UInt8} (pre : List (Sept L)) : Prop := ∀ j (h : j < pre.length), (pre[j]'h).1.1 = j
theorem IsSeq.nil {L : List UInt8} : IsSeq ([] : List (Sept L)) := fun j h => by simp at h
theorem IsSeq.snoc {L : List UInt8} {pre : List (Sept L)} {x : Sept L} (h : IsSeq pre) (hx : x.1.1 = pre.length) : IsSeq (pre ++ [x]) := by
  intro j hj
  by_cases hlt : j < pre.length
  · rw [List.getElem_append_left hlt]; exact h j hlt
  · have : j = pre.length := by simp at hj; omega
    subst this
    rw [List.getElem_append_right (Nat.le_refl _)]; simpa using hx
theorem IsSeq.of_snoc {L : List UInt8} {pre : List (Sept L)} {x : Sept L} (h : IsSeq (pre ++ [x])) : IsSeq pre ∧ x.1.1 = pre.length := by
  refine ⟨fun j hj => ?_, ?_⟩
  · have := h j (by simp; omega)
    rwa [List.getElem_append_left hj] at this
  · have := h pre.length (by simp)
    rw [List.getElem_append_right (Nat.le_refl _)] at this
    simpa using this

/-- what a round keeps: what lay below n₀, and the box of the slice -/
def Keeps (n₀ Bs : Nat) (W W' : World) : Prop := Below n₀ W W' ∧ W'.cell? ⟨Bs, 0, none⟩ = W.cell? ⟨Bs, 0, none⟩
theorem Keeps.trans {n₀ Bs : Nat} {A B C : World} (h : Keeps n₀ Bs A B) (k : Keeps n₀ Bs B C) : Keeps n₀ Bs A C := ⟨h.1.trans k.1, k.2.trans h.2⟩
theorem keepsB {n₀ Bs : Nat} {w : World} (hn : n₀ ≤ w.heap.size) (hB : Bs < w.heap.size) :
    ∀ (W : World) (l : Nat) (o o' : Obj), w.heap.size ≤ l → W.heap[l]? = some o → o.isCells = false → o.isWalk = false → Keeps n₀ Bs W (W.putObj l o') := fun W l o o' hl ho hc hw =>
  ⟨belowK_b (w := w) hn W l o o' hl ho hc hw, World.cell?_of_block (World.putObj_heap_other (by simp; omega))⟩

set_option maxRecDepth 100000 in
set_option maxHeartbeats 2000000 in
theorem sept1_in (F : Fence) (n : Nat) (hF : F.fn 77) (hro : F.round = none) (hn : 1 ≤ n) (l Bs n₀ : Nat) (A : Option Addr) (cap : Nat) (L : List UInt8) (hl : L.length ≤ 140737488355328) (J Jx : List (Sept L) → World → Prop)
    (hY : ∀ pre x W, J pre W → pre.length < min L.length 10 → YieldAt F (n - 1) Try.prog l (encSept x) W fun e W' =>
      (e = .returned (.bool true) ∧ J (pre ++ [x]) W' ∧ Keeps n₀ Bs W W') ∨ (e = .returned (.bool false) ∧ Jx (pre ++ [x]) W'))
    (W : World) (hBs : W.cell? ⟨Bs, 0, none⟩ = some (.slice A L.length cap)) (hr : Rd W n₀ A (bcl L)) (h0 : J [] W) :
    CallsIn F n Try.prog 77 #[.func (.yield l) #[] #[], .pointer (some ⟨Bs, 0, none⟩)] W fun e W' => (∃ v, e = .returned v) ∧
      ((∃ ys, (IsSeq ys ∧ ys.length = min L.length 10) ∧ J ys W') ∨ (∃ pre, (IsSeq pre ∧ pre.length ≤ min L.length 10) ∧ Jx pre W')) := by
  refine callsIn_of_wp Try.func77 rfl hF ?_ hro
  simp only [Try.ntmps77, List.size_toArray, List.length_cons, List.length_nil, Nat.reduceAdd, Nat.reduceSub, Array.replicate_succ, Array.replicate_zero, List.push_toArray, List.append_toArray, List.nil_append, List.cons_append]
  gi_wp2
  all_goals
    gi_loopw [3, 7] (fun _ i wr => ∃ k : Nat, k ≤ min L.length 10 ∧ i = .int .i64 k ∧ (∃ pre : List (Sept L), IsSeq pre ∧ pre.length = k ∧ J pre wr) ∧ Keeps n₀ Bs W wr)
      (fun _ i _ => min L.length 10 - (intOf i).toNat)
    case atStart => exact ⟨0, Nat.zero_le _, rfl, ⟨[], IsSeq.nil, rfl, h0⟩, Below.refl _ _, rfl⟩
    case round =>
      obtain ⟨k, hk, rfl, ⟨pre, hseq, hpl, hJs⟩, hnx⟩ := hrel
      by_cases hlt : k < min L.length 10
      · have hkL : k < L.length := by omega
        have hk10 : k < 10 := by omega
        obtain ⟨fn, tmps, assign, body, hy, hR⟩ := hY pre (septAt L k hkL hk10) wr hJs (by omega)
        have hB2 := hnx.2
        rw [hBs] at hB2
        obtain ⟨b, off, rfl, hb, hcell⟩ := (hr.below hnx.1 (Nat.le_refl _)).some_ (by simp [bcl]; omega)
        have hcj := hcell k (by simp [bcl]; exact hkL)
        rw [bcl_get hkL] at hcj
        have hsx : (septAt L k hkL hk10).1.1 = pre.length := hpl.symm
        have HS := Lib.hid (hseq.snoc hsx)
        have HP := Lib.hid hpl
        clear hcell hr hY hsx hpl hBs
        dsimp only [encSept, septAt] at hy
        gi_wp2
        refine hR.mono ?_
        rintro e W3 (⟨rfl, hJ3, hk3⟩ | ⟨rfl, hJx3⟩)
        · gi_wp2
          go_roundw
          case rel => exact ⟨k + 1, by omega, by go_num, ⟨_, HS.out, by rw [List.length_append, HP.out]; rfl, hJ3⟩, hnx.trans hk3⟩
          case measure => simp [intOf]; omega
        · gi_wp2
          refine bodyPost_ret (results_none rfl _ _ _) rfl ?_
          exact ⟨⟨_, rfl⟩, .inr ⟨_, ⟨HS.out, by rw [List.length_append, HP.out]; simp; omega⟩, hJx3⟩⟩
      · gi_wp2
        go_end0
        exact ⟨⟨_, rfl⟩, .inl ⟨pre, ⟨hseq, by omega⟩, hJs⟩⟩

set_option maxHeartbeats 1000000 in
theorem septets_in (F : Fence) (n : Nat) (hF : F.fn 74) (hro : F.round = none) (a : Option Addr) (len cap : Nat) (w : World) :
    CallsIn F n Try.prog 74 #[.slice a len cap] w fun e w' => e = .returned (.func (.func 77) #[] #[.pointer (some ⟨w.heap.size, 0, none⟩)]) ∧ w.alloc (.cells #[.slice a len cap] 25) = w' := by
  refine callsIn_of_wp Try.func74 rfl hF ?_ hro
  simp only [Try.ntmps74, List.size_toArray, List.length_cons, List.length_nil, Nat.reduceAdd, Nat.reduceSub, Array.replicate_succ, Array.replicate_zero, List.push_toArray, List.append_toArray, List.nil_append, List.cons_append]
  gi_wp2
  go_ret
  exact ⟨rfl, rfl⟩

theorem sept_stops (F : Fence) (n : Nat) (hF : F.fn 77) (hro : F.round = none) (hn : 1 ≤ n) (Bs n₀ : Nat) (A : Option Addr) (cap : Nat) (L : List UInt8) (hl : L.length ≤ 140737488355328) (w : World) (hBs : w.cell? ⟨Bs, 0, none⟩ = some (.slice A L.length cap)) (hBn : Bs < w.heap.size) (hn₀ : n₀ ≤ w.heap.size) (hr : Rd w n₀ A (bcl L)) :
    SeqStopsK F n Try.prog 77 #[.pointer (some ⟨Bs, 0, none⟩)] (encSept (L := L)) (Keeps n₀ Bs) (fun ys => IsSeq ys ∧ ys.length = min L.length 10) (fun pre => IsSeq pre ∧ pre.length ≤ min L.length 10) (min L.length 10) w :=
  fun l J Jx W hW _ _ hY h0 =>
    sept1_in F n hF hro hn l Bs n₀ A cap L hl J Jx hY W ((hW.cell (p := ⟨Bs, 0, none⟩) hBn).trans hBs) (hr.below hW hn₀) h0
end Go.Proofs.Ytkanhggmhjldmaa

/- a scope that no goto leaves, in a fence; and its label. -/
namespace Go.Proofs.Ytkanhggmhjldmaa


section
variable {F : Fence} {n : Nat} {P : Program} {b : Frame} {a : Act} {k : List Item} {cs : List Frame} {w : World} {Q : Exit → Act → World → Prop}
theorem stepR_scope {c : Code} : step P (lone (b.atR a (.code (.scope c) :: k)) cs w) = .next (lone (b.atR a (.code c :: .inScope c :: k)) cs w) :=
  step_lone_go (by simp [stepG, stepG.exec, Frame.atR])
theorem stepR_inScope {c : Code} : step P (lone (b.atR a (.inScope c :: k)) cs w) = .next (lone (b.atR a k) cs w) :=
  step_lone_go (by simp [stepG, stepG.exec, Frame.atR])

theorem wpIn_scope_straight {c : Code} (h : c.wpIn F n P (Exit.noGoto Q) a w) : (Code.scope c).wpIn F n P Q a w := by
  intro b k cs hro hb hr
  have h0 : (lone (b.atR a (.code (.scope c) :: k)) cs w).fenced P F := fenced_calm hb hr rfl
  obtain ⟨e, a₁, w₁, hq, harr⟩ := h b (.inScope c :: k) cs hro hb hr
  cases e with
  | normal => exact ⟨.normal, a₁, w₁, hq, .head h0 stepR_scope (StepsIn.trans harr (.one (fenced_calm hb hr rfl) stepR_inScope))⟩
  | exit id => 
    have hx : exitTo id (.inScope c :: k) = exitTo id k := by simp [exitTo]
    exact ⟨.exit id, a₁, w₁, hq, fun k' hk => .head h0 stepR_scope (harr.1 k' (by rw [hx]; exact hk)),
        fun hr' hk => let ⟨k₁, h1, h2⟩ := harr.2 hr' (by rw [hx]; exact hk); ⟨k₁, h1, .head h0 stepR_scope h2⟩⟩
  | goto l => exact hq.elim
  | ret => exact ⟨_, a₁, w₁, hq, .of_steps (.one h0 stepR_scope) harr⟩
  | panic ch => exact ⟨_, a₁, w₁, hq, .of_steps (.one h0 stepR_scope) harr⟩
  | outgrown => exact ⟨_, a₁, w₁, hq, .of_steps (.one h0 stepR_scope) harr⟩
end

end Go.Proofs.Ytkanhggmhjldmaa

/- what varint.Get's rounds keep, in plain words; a region inside a round walked once for all its orders. -/
namespace Go.Proofs.Ytkanhggmhjldmaa
open Go.RowKit Go.Shelf Plain

/-- what the rounds have told so far: at k bytes, none of them the last, v has come together. -/
def Sofar (L : List UInt8) (k : Nat) (v : Int) : Prop := ∃ m : Nat, v = m ∧ m < 128 ^ k ∧ vgo 10 0 0 L = vgo (10 - k) k m (L.drop k)
/-- the number with one more septet at i, as the program makes it -/
def orv (v : Int) (c i : Nat) : Int := bits BinOp.or .u64 v (IntKind.u64.wrap (IntKind.u64.wrap (bits BinOp.and .u8 (c : Int) 127) * 2 ^ (7 * i)))
theorem orv_nat {m c i : Nat} (hi : i < 10) (hm : m < 128 ^ i) (hc : c < 256) (h9 : i = 9 → c ≤ 1) : orv m c i = ((m + c % 128 * 128 ^ i : Nat) : Int) := by
  have e1 : bits BinOp.and .u8 (c : Int) 127 = ((c % 128 : Nat) : Int) := by rw [show (127 : Int) = ((127 : Nat) : Int) from rfl, u8_and_nat _ _ hc (by omega), nat_mask7]
  have hlt := vstep_lt hi hm h9
  have e3 : IntKind.u64.wrap (IntKind.u64.wrap (bits BinOp.and .u8 (c : Int) 127) * 2 ^ (7 * i)) = ((c % 128 * 128 ^ i : Nat) : Int) := by
    rw [e1, pow7]
    simp only [IntKind.wrap_u64]
    rw [Int.emod_eq_of_lt (by omega) (by omega : ((c % 128 : Nat) : Int) < 18446744073709551616), ← Int.natCast_mul, Int.emod_eq_of_lt (by omega) (by omega)]
  unfold orv
  rw [e3, u64_or_nat _ _ (by omega) (by omega), Nat.or_comm, nat_join (7 * i) _ _ (by rw [show 128 ^ i = 2 ^ (7 * i) by rw [Nat.pow_mul]]; exact Nat.mul_mod_left _ _) (by rw [Nat.pow_mul]; exact hm), Nat.add_comm]

theorem sofar_step {L : List UInt8} {k : Nat} {v : Int} {c : UInt8} (h : Sofar L k v) (hk : k < 10) (hc : L[k]? = some c) :
    (k = 9 ∧ 1 < c.toNat → vgo 10 0 0 L = (0, 0, 3)) ∧
    (¬ (k = 9 ∧ 1 < c.toNat) → (c.toNat < 128 → ∃ m : Nat, orv v c.toNat k = m ∧ vgo 10 0 0 L = (m, k + 1, 0)) ∧ (¬ c.toNat < 128 → Sofar L (k + 1) (orv v c.toNat k))) := by
  obtain ⟨m, rfl, hm, he⟩ := h
  obtain ⟨hlt, hget⟩ := List.getElem?_eq_some_iff.1 hc
  rw [List.drop_eq_getElem_cons hlt, hget, vgo_cons hk] at he
  refine ⟨fun h9 => he.trans (if_pos h9), fun h9 => ?_⟩
  rw [if_neg h9] at he
  have hv := orv_nat hk hm c.toNat_lt (fun e => by omega)
  refine ⟨fun hl => ⟨m + c.toNat % 128 * 128 ^ k, hv, ?_⟩, fun hl => ⟨_, hv, vstep_pow hm, ?_⟩⟩
  · rw [he, if_pos hl, Nat.mod_eq_of_lt hl]
  · rw [he, if_neg hl]
theorem sofar_end {L : List UInt8} {k : Nat} {v : Int} (h : Sofar L k v) (hk : k = min L.length 10) : vgo 10 0 0 L = (0, 0, if k = 10 then 3 else 2) := by
  obtain ⟨m, rfl, hm, he⟩ := h
  rw [he]
  by_cases h10 : k = 10
  · subst h10; rfl
  · rw [if_neg h10]; exact vgo_stop (List.drop_eq_nil_of_le (by omega)) (by omega)

theorem boxed_own {X Y : World} {row : Option Nat} {B : Nat} {t : TypeId} {v : Value} (h : Boxed X B t v) (hg : X.grownBy Y row) (hr : ∀ r, row = some r → ∃ o : Obj, X.heap[r]? = some o ∧ o.isCells = false) : Boxed Y B t v :=
  h.kept hg fun e => by
    obtain ⟨o, ho, hc⟩ := hr B e.symm
    rw [show X.heap[B]? = _ from h] at ho; cases ho; cases hc
theorem boxed_other {W : World} {B C : Nat} {t : TypeId} {v : Value} (h : Boxed W B t v) (hne : B ≠ C) (x : Value) : Boxed (W.setCell ⟨C, 0, none⟩ x) B t v :=
  h.kept (grownBy_setCell' W C x) (fun e => hne (by injection e))
theorem boxed_drew {W : World} {B : Nat} {t : TypeId} {v : Value} (h : Boxed W B t v) : Boxed W.drew B t v := h

theorem vget_err {l : List UInt8} {q e : Nat} (h : vgo 10 0 0 (l.drop q) = (0, 0, e + 1)) (hq : q ≤ l.length) : vget l q = (0, 0, e + 1) := (vget_of h hq).trans (if_neg (by simp))
theorem vget_ok {l : List UInt8} {q m k : Nat} (h : vgo 10 0 0 (l.drop q) = (m, k, 0)) (hq : q ≤ l.length) : vget l q = (m, q + k, 0) := (vget_of h hq).trans (if_pos rfl)

/-- a store into a box of ours -/
structure Stores (n₀ T Bs : Nat) (W W' : World) : Prop where
  from_ : KeepsFrom T W W'
  keeps : Keeps n₀ Bs W W'
theorem Stores.trans {n₀ T Bs : Nat} {A B C : World} (h : Stores n₀ T Bs A B) (k : Stores n₀ T Bs B C) : Stores n₀ T Bs A C := ⟨h.1.trans k.1, h.2.trans k.2⟩
theorem Stores.set {n₀ T Bs : Nat} (W : World) {C : Nat} (hC : n₀ ≤ C) (hne : C ≠ Bs) (x : Value) : Stores n₀ T Bs W (W.setCell ⟨C, 0, none⟩ x) := by
  refine ⟨(KeepsOthers.setCell _ _ _).from _, (Below.refl _ _).setCell (p := ⟨C, 0, none⟩) hC _, World.cell?_setCell_other _ _ _ _ fun e => hne ?_⟩
  have := congrArg Addr.block e
  exact this
theorem Stores.drew {n₀ T Bs : Nat} (W : World) : Stores n₀ T Bs W W.drew := ⟨(KeepsOthers.drew _).from _, (Below.refl _ W).drew, rfl⟩

/-- while rounds come: the boxes B (the number), B+1 (how many), B+2 (done) -/
def InvR (B : Nat) (w : World) (L : List UInt8) (pre : List (Sept L)) (W : World) : Prop :=
  (Boxed W (B + 1) 3 (.int .i64 pre.length) ∧ Boxed W (B + 1 + 1) 4 (.bool false) ∧ ∃ v, Boxed W B 22 (.int .u64 v) ∧ (IsSeq pre → Sofar L pre.length v)) ∧ Below B w W
/-- where a round leaves the loop -/
def InvX (B : Nat) (w : World) (L : List UInt8) (c : Code) (pre : List (Sept L)) (W : World) : Prop :=
  (c = .exit 0 ∧ ∃ d v, Boxed W (B + 1) 3 (.int .i64 pre.length) ∧ Boxed W (B + 1 + 1) 4 (.bool d) ∧ Boxed W B 22 (.int .u64 v) ∧
        (IsSeq pre → (d = false ∧ pre.length = 10 ∧ vgo 10 0 0 L = (0, 0, 3)) ∨ (d = true ∧ ∃ m : Nat, v = m ∧ vgo 10 0 0 L = (m, pre.length, 0)))) ∧ Below B w W
theorem InvR.own {B T : Nat} {w : World} {L : List UInt8} (hB : B ≤ w.heap.size) (hT : B ≤ T) : OwnFrom T (InvR B w L) :=
  OwnFrom.and (Own.from (fun s X Y row hs hg hr => by obtain ⟨a1, a2, v, a3, a4⟩ := hs; exact ⟨boxed_own a1 hg hr, boxed_own a2 hg hr, v, boxed_own a3 hg hr, a4⟩) _) (ownFrom_below hB hT)
theorem InvX.own {B T : Nat} {w : World} {L : List UInt8} (c : Code) (hB : B ≤ w.heap.size) (hT : B ≤ T) : OwnFrom T (InvX B w L c) :=
  OwnFrom.and (Own.from (fun s X Y row hs hg hr => by obtain ⟨e, d, v, a1, a2, a3, a4⟩ := hs; exact ⟨e, d, v, boxed_own a1 hg hr, boxed_own a2 hg hr, boxed_own a3 hg hr, a4⟩) _) (ownFrom_below hB hT)

section
variable {B T : Nat} {w W : World} {L : List UInt8} {pre : List (Sept L)} {x : Sept L} {v : Int} {cb i : Nat} {a : Act}
theorem round_long (hB : Below B w W) (bN : Boxed W (B + 1) 3 (.int .i64 pre.length)) (bD : Boxed W (B + 1 + 1) 4 (.bool false)) (bV : Boxed W B 22 (.int .u64 v)) (hs : IsSeq pre → Sofar L pre.length v)
    (hcb : x.1.2.toNat = cb) (h9 : (pre.length : Int) + 1 = 10) (hc : 1 < (cb : Int)) :
    ownPostG T (Keeps B (B + 1 + 1 + 1)) (InvR B w L) (InvX B w L) (pre ++ [x]) W (.exit 0) a (W.setCell ⟨B + 1, 0, none⟩ (.int .i64 10)) := by
  have st : Stores B T (B + 1 + 1 + 1) W (W.setCell ⟨B + 1, 0, none⟩ (.int .i64 10)) := .set W (by omega) (by omega) _
  have e10 : (pre ++ [x]).length = 10 := by rw [List.length_append, List.length_singleton]; omega
  refine ⟨st.1, ⟨rfl, false, v, ?_, boxed_other bD (by omega) _, boxed_other bV (by omega) _, fun hseq => .inl ⟨rfl, e10, ?_⟩⟩, hB.trans st.2.1⟩
  · rw [e10]; exact bN.set _
  · obtain ⟨h1, h2⟩ := hseq.of_snoc
    exact (sofar_step (hs h1) (by omega) (c := x.1.2) (by rw [← h2]; exact x.2.2)).1 ⟨by omega, by omega⟩
theorem round_done (hB : Below B w W) (bN : Boxed W (B + 1) 3 (.int .i64 pre.length)) (bD : Boxed W (B + 1 + 1) 4 (.bool false)) (bV : Boxed W B 22 (.int .u64 v)) (hs : IsSeq pre → Sofar L pre.length v)
    (hcb : x.1.2.toNat = cb) (hi : x.1.1 = i) (hk : pre.length < 10) (h9 : pre.length = 9 → cb ≤ 1) (hc : (cb : Int) < 128) {z : Int} (hz : z = (pre.length : Int) + 1) :
    ownPostG T (Keeps B (B + 1 + 1 + 1)) (InvR B w L) (InvX B w L) (pre ++ [x]) W (.exit 0) a
      (((W.setCell ⟨B + 1, 0, none⟩ (.int .i64 z)).setCell ⟨B, 0, none⟩ (.int .u64 (orv v cb i))).setCell ⟨B + 1 + 1, 0, none⟩ (.bool true)).drew := by
  have st : Stores B T (B + 1 + 1 + 1) W _ := ((Stores.set W (C := B + 1) (by omega) (by omega) (.int .i64 z)).trans (.set _ (C := B) (by omega) (by omega) (.int .u64 (orv v cb i)))).trans ((Stores.set _ (C := B + 1 + 1) (by omega) (by omega) (.bool true)).trans (.drew _))
  have e10 : ((pre ++ [x]).length : Int) = z := by rw [List.length_append, List.length_singleton]; omega
  have e11 : (pre ++ [x]).length = pre.length + 1 := by rw [List.length_append, List.length_singleton]
  refine ⟨st.1, ⟨rfl, true, orv v cb i, ?_, ?_, ?_, fun hseq => .inr ⟨rfl, ?_⟩⟩, hB.trans st.2.1⟩
  · rw [e10]; exact boxed_drew (boxed_other (boxed_other (bN.set _) (by omega) _) (by omega) _)
  · exact boxed_drew (Boxed.set _ (boxed_other (boxed_other bD (by omega) _) (by omega) _))
  · exact boxed_drew (boxed_other (Boxed.set _ (boxed_other bV (by omega) _)) (by omega) _)
  · obtain ⟨h1, h2⟩ := hseq.of_snoc
    rw [e11, ← hcb, show i = pre.length by omega]
    exact ((sofar_step (hs h1) hk (c := x.1.2) (by rw [← h2]; exact x.2.2)).2 (fun h => by have := h9 h.1; omega)).1 (by omega)
theorem round_more (hB : Below B w W) (bN : Boxed W (B + 1) 3 (.int .i64 pre.length)) (bD : Boxed W (B + 1 + 1) 4 (.bool false)) (bV : Boxed W B 22 (.int .u64 v)) (hs : IsSeq pre → Sofar L pre.length v)
    (hcb : x.1.2.toNat = cb) (hi : x.1.1 = i) (hk : pre.length < 10) (h9 : pre.length = 9 → cb ≤ 1) (hc : 128 ≤ (cb : Int)) {z : Int} (hz : z = (pre.length : Int) + 1) :
    ownPostG T (Keeps B (B + 1 + 1 + 1)) (InvR B w L) (InvX B w L) (pre ++ [x]) W .normal a
      ((W.setCell ⟨B + 1, 0, none⟩ (.int .i64 z)).setCell ⟨B, 0, none⟩ (.int .u64 (orv v cb i))).drew := by
  have st : Stores B T (B + 1 + 1 + 1) W _ := ((Stores.set W (C := B + 1) (by omega) (by omega) (.int .i64 z)).trans (.set _ (C := B) (by omega) (by omega) (.int .u64 (orv v cb i)))).trans (.drew _)
  have e10 : ((pre ++ [x]).length : Int) = z := by rw [List.length_append, List.length_singleton]; omega
  have e11 : (pre ++ [x]).length = pre.length + 1 := by rw [List.length_append, List.length_singleton]
  refine ⟨st.1, st.2, ⟨?_, ?_, orv v cb i, ?_, fun hseq => ?_⟩, hB.trans st.2.1⟩
  · rw [e10]; exact boxed_drew (boxed_other (bN.set _) (by omega) _)
  · exact boxed_drew (boxed_other (boxed_other bD (by omega) _) (by omega) _)
  · exact boxed_drew (Boxed.set _ (boxed_other bV (by omega) _))
  · obtain ⟨h1, h2⟩ := hseq.of_snoc
    rw [e11, ← hcb, show i = pre.length by omega]
    exact ((sofar_step (hs h1) hk (c := x.1.2) (by rw [← h2]; exact x.2.2)).2 (fun h => by have := h9 h.1; omega)).2 (by omega)
end
end Go.Proofs.Ytkanhggmhjldmaa

/- WALK: varint.Get computes vget: in a fence. -/
namespace Go.Proofs.Ytkanhggmhjldmaa
open Go.RowKit Go.Shelf Plain

attribute [local go_sem] Oper.semAt_some

set_option maxRecDepth 100000 in
set_option maxHeartbeats 4000000 in
theorem vget_in (F : Fence) (n : Nat) (h28 : F.fn 70) (h39 : F.fn 74) (h43 : F.fn 77) (hro : F.round = none) (hn : 3 ≤ n)
    (A : Option Addr) (len c : Nat) (l : List UInt8) (hlen : l.length = len) (hnc : len ≤ c) (hl : l.length ≤ 140737488355328) (q : Nat) (hq : q ≤ len) (w : World) (hr : Rd w w.heap.size A (bcl l)) :
    CallsIn F n Try.prog 70 #[.slice A len c, .int .i64 q] w fun e w' =>
      e = .returned (.tuple #[.int .u64 (vget l q).1, .int .i64 (vget l q).2.1, .int .i64 (vget l q).2.2]) ∧ Below w.heap.size w w' := by
  have h1 : 1 ≤ n := by omega
  subst hlen
  refine callsIn_of_wp_marks Try.func70 rfl h28 ?_ hro
  simp only [Try.ntmps70, List.size_toArray, List.length_cons, List.length_nil, Nat.reduceAdd, Nat.reduceSub, Array.replicate_succ, Array.replicate_zero, List.push_toArray, List.append_toArray, List.nil_append, List.cons_append]
  have HR := Lib.hid hr
  have HQ := Lib.hid (rfl : vget l q = vget l q)
  clear hr
  gi_wp2_with (first | apply wpIn_scope_straight | apply wpIn_label | (gi_at_call 74; refine (septets_in F (n - 1) h39 hro _ _ _ _).mono ?_; rintro e w' ⟨rfl, rfl⟩))
  all_goals
    have hrd : Rd w w.heap.size (if c = q then A else A.map (·.add (q * 1))) ((bcl l).drop (q * 1)) := HR.out.drop (by simp [bcl]; omega)
    obtain ⟨W0, hW0⟩ : ∃ W0, (((w.alloc (Obj.cells #[Value.int IntKind.u64 0] 22)).alloc (Obj.cells #[Value.int IntKind.i64 0] 3)).alloc (Obj.cells #[Value.bool false] 4)) = W0 := ⟨_, rfl⟩
    have bV : Boxed W0 w.heap.size 22 (.int .u64 0) := by rw [← hW0]; exact ((Boxed.new _ _ _).alloc _).alloc _
    have bN : Boxed W0 (w.heap.size + 1) 3 (.int .i64 0) := by rw [← hW0]; exact (by simpa using Boxed.new (w.alloc (Obj.cells #[Value.int IntKind.u64 0] 22)) 3 (.int .i64 0) : Boxed _ (w.heap.size + 1) _ _).alloc _
    have bD : Boxed W0 (w.heap.size + 1 + 1) 4 (.bool false) := by rw [← hW0]; simpa using Boxed.new ((w.alloc (Obj.cells #[Value.int IntKind.u64 0] 22)).alloc (Obj.cells #[Value.int IntKind.i64 0] 3)) 4 (.bool false)
    have hS0 : W0.heap.size = w.heap.size + 1 + 1 + 1 := by rw [← hW0]; simp
    have hB0 : Below w.heap.size w W0 := by rw [← hW0]; exact (((Below.refl _ w).alloc (Nat.le_refl _) _).alloc (by simp) _).alloc (by simp; omega) _
    rw [hW0]
    clear hW0
    first | rw [if_pos (by assumption)] at hrd | rw [if_neg (by assumption)] at hrd
    rw [Nat.mul_one] at hrd
    have hrD : Rd W0 w.heap.size _ (bcl (l.drop q)) := (by rw [show bcl (l.drop q) = (bcl l).drop q by simp [bcl]]; exact hrd : Rd w w.heap.size _ (bcl (l.drop q))).below hB0 (Nat.le_refl _)
    refine' wpIn_rangeFunc_ownG hro h1 (gf := 77) (lb := #[.pointer (some ⟨w.heap.size + 1 + 1 + 1, 0, none⟩)]) rfl h43 (enters_of Try.func77 (by kernel_rfl) rfl)
      (sept_stops F (n - 1) h43 hro (by omega) (w.heap.size + 1 + 1 + 1) w.heap.size _ _ (l.drop q) (by simp; omega) _ (by rw [List.length_drop, ← hS0]; exact (Boxed.new W0 _ _).cell) (by simp; omega) (by simp; omega) (hrD.alloc (by omega) _))
      Keeps.trans (keepsB (by simp; omega) (by simp; omega)) (Below.refl _ _) (fun _ => rfl)
      (InvR w.heap.size w (l.drop q)) (InvX w.heap.size w (l.drop q)) (InvR.own (Nat.le_refl _) (by simp; omega)) (fun c => InvX.own c (Nat.le_refl _) (by simp; omega))
      ⟨⟨bN.alloc _, bD.alloc _, _, bV.alloc _, fun _ => ⟨0, rfl, by simp, rfl⟩⟩, hB0.alloc (by omega) _⟩ _ ?assign ?body ?done ?stop
    case assign =>
      intro l x W K hK
      dsimp only [encSept]
      gi_wp2
      exact hK
    case body =>
      rintro l' pre x W ⟨⟨bN, bD, v, bV, hsf⟩, hB⟩ hlt
      by_cases hcl : (l.drop q).length = 0
      · exfalso; omega
      have hcq : ¬ c = q := by rw [List.length_drop] at hcl; omega
      have HS := Lib.hid hsf
      have hk10 : pre.length < 10 := by omega
      have hx10 := x.2.1
      have hx8 : x.1.2.toNat < 256 := x.1.2.toNat_lt
      have cN := bN.cell; have fN := bN.frozen; have cV := bV.cell; have fV := bV.frozen; have cD := bD.cell; have fD := bD.frozen
      have hmx : Try.prog.follows .mixedOrders = true := by kernel_rfl
      clear hsf hlt hrd hrD HR hB0 hcl
      generalize hi : x.1.1 = i at *
      generalize hcb : x.1.2.toNat = cb at *
      have HI := Lib.hid hi
      have HCB := Lib.hid hcb
      clear hi hcb
      first
      | (exfalso; exact hcq (by assumption))
      | (gi_wp2
         · exact round_long hB bN bD bV HS.out HCB.out (by assumption) (by assumption)
         · gi_region_o
           all_goals
             gi_wp2
             exact round_done hB bN bD bV HS.out HCB.out HI.out hk10 (fun _ => by omega) (by assumption) (by omega)
         · gi_region_o
           all_goals
             gi_wp2
             · exact round_done hB bN bD bV HS.out HCB.out HI.out hk10 (fun e => by omega) (by assumption) rfl
             · exact round_more hB bN bD bV HS.out HCB.out HI.out hk10 (fun e => by omega) (by assumption) rfl)
    case done =>
      rintro D ys W hD ⟨hseq, hys⟩ ⟨⟨bN, bD, v, bV, hsf⟩, hB⟩ hK
      have he := sofar_end (hsf hseq) hys
      have cN := bN.cell; have fN := bN.frozen; have cD := bD.cell; have fD := bD.frozen
      have hk10 : ys.length ≤ 10 := by omega
      have HD := Lib.hid hD
      clear hsf hys hrd hrD HR hB0 hD
      dsimp only
      by_cases h10 : ys.length = 10
      · have HV := Lib.hid (vget_err (e := 2) (he.trans (by rw [if_pos h10])) hq)
        rw [h10] at cN
        clear he
        gi_wp2_with (first | apply wpIn_scope_straight | apply wpIn_label)
        refine ⟨by simp, .inl ⟨_, _, rfl, run_takeDeferred hK, ?_⟩⟩
        refine ⟨_, results_tmp3 rfl _ _ _, ?_, hB.trans (belowK_b (w := w) (Nat.le_refl _) _ D _ _ (by have := HD.out; simp at this; omega) hK rfl rfl)⟩
        rw [HV.out]
        rfl
      · have HV := Lib.hid (vget_err (e := 1) (he.trans (by rw [if_neg h10])) hq)
        clear he
        gi_wp2_with (first | apply wpIn_scope_straight | apply wpIn_label)
        refine ⟨by simp, .inl ⟨_, _, rfl, run_takeDeferred hK, ?_⟩⟩
        refine ⟨_, results_tmp3 rfl _ _ _, ?_, hB.trans (belowK_b (w := w) (Nat.le_refl _) _ D _ _ (by have := HD.out; simp at this; omega) hK rfl rfl)⟩
        rw [HV.out]
        rfl
    case stop =>
      rintro D c' pre W hD ⟨hseq, hk⟩ ⟨⟨rfl, d, v, bN, bD, bV, hsf⟩, hB⟩ hK
      dsimp only
      have cN := bN.cell; have fN := bN.frozen; have cD := bD.cell; have fD := bD.frozen; have cV := bV.cell; have fV := bV.frozen
      have hk10 : pre.length ≤ 10 := by omega
      have hkl : pre.length ≤ l.length - q := by rw [List.length_drop] at hk; omega
      rcases hsf hseq with ⟨rfl, h10, he⟩ | ⟨rfl, m, rfl, he⟩
      · have HV := Lib.hid (vget_err (e := 2) he hq)
        have HD := Lib.hid hD
        rw [h10] at cN
        clear hsf he hrd hrD HR hB0 hD
        gi_wp2_with (first | apply wpIn_scope_straight | apply wpIn_label)
        refine ⟨by simp, .inl ⟨_, _, rfl, run_takeDeferred hK, ?_⟩⟩
        refine ⟨_, results_tmp3 rfl _ _ _, ?_, hB.trans (belowK_b (w := w) (Nat.le_refl _) _ D _ _ (by have := HD.out; simp at this; omega) hK rfl rfl)⟩
        rw [HV.out]
        rfl
      · have HV := Lib.hid (vget_ok he hq)
        have HD := Lib.hid hD
        have hmx : Try.prog.follows .mixedOrders = true := by kernel_rfl
        clear hsf he hrd hrD HR hB0 hD hk
        gi_wp2_with (first | apply wpIn_scope_straight | apply wpIn_label)
        gi_region_o
        all_goals
          gi_wp2_with (first | apply wpIn_scope_straight | apply wpIn_label)
          refine ⟨by simp, .inl ⟨_, _, rfl, run_takeDeferred hK, ?_⟩⟩
          refine ⟨_, results_tmp3 rfl _ _ _, ?_, (hB.trans (Below.refl _ W).drew).trans (belowK_b (w := w) (Nat.le_refl _) _ D _ _ (by have := HD.out; simp at this; omega) hK rfl rfl)⟩
          rw [HV.out]
          exact ret3_int rfl (by simp only [IntKind.wrap_i64]; omega) rfl
end Go.Proofs.Ytkanhggmhjldmaa

/- varint.Get's contract. -/
namespace Go.Proofs.Ytkanhggmhjldmaa
open Go.RowKit Plain

set_option maxRecDepth 100000 in
set_option maxHeartbeats 1000000 in
theorem vget_any (A : Option Addr) (n c : Nat) (l : List UInt8) (hn : l.length = n) (hnc : n ≤ c) (_hcm : c ≤ 9223372036854775807) (hl : l.length ≤ 140737488355328) (p : Int) (w : World) (hr : Rd w w.heap.size A (bcl l)) :
    Calls Try.prog 70 #[.slice A n c, .int .i64 p] w fun e w' =>
      e = .returned (.tuple #[.int .u64 (vget l p).1, .int .i64 (vget l p).2.1, .int .i64 (vget l p).2.2]) ∧ Below w.heap.size w w' := by
  by_cases h0 : p < 0 ∨ (l.length : Int) < p
  · subst hn
    rw [vget_arg _ _ h0]
    by_cases h1 : p < 0
    · go_enter Try.func70, Try.ntmps70
      go_wp2
      go_step3
      go_wp2
      rw [Exit.noGoto_ret]
      go_ret3
      exact ⟨rfl, Below.refl _ _⟩
    · have h2 : (l.length : Int) < p := by omega
      clear h0
      go_enter Try.func70, Try.ntmps70
      go_wp2
      go_step3
      go_wp2
      rw [Exit.noGoto_ret]
      go_ret3
      exact ⟨rfl, Below.refl _ _⟩
  · obtain ⟨q, rfl⟩ : ∃ q : Nat, p = q := ⟨p.toNat, by omega⟩
    exact callsIn_wide.1 (vget_in Fence.wide 3 trivial trivial trivial rfl (by omega) A n c l hn hnc hl q (by omega) w hr)
end Go.Proofs.Ytkanhggmhjldmaa
