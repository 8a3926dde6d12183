/- WALKS: slices.Equal. -/
import Derived.Test.YtaahhommfpohhaaSlD
import Derived.WalkKit
import Derived.BigQuiet
import Derived.Deep.QuietTactic
namespace Go.Proofs.Ytaahhommfpohhaa
open Go.RowKit

def alleq {α : Type} (f : α → α → Bool) : List α → List α → Bool
  | [], [] => true
  | a :: l, b :: m => f a b && alleq f l m
  | _, _ => false
theorem alleq_len {α : Type} {f : α → α → Bool} : ∀ {l m : List α}, ¬ l.length = m.length → alleq f l m = false := by
  intro l
  induction l with
  | nil => intro m h; cases m with
    | nil => exact absurd rfl h
    | cons b m => rfl
  | cons a l ih => intro m h; cases m with
    | nil => rfl
    | cons b m => rw [alleq, ih (by simpa using h), Bool.and_false]
theorem alleq_refl {α : Type} {f : α → α → Bool} (h : ∀ a, f a a = true) : ∀ l, alleq f l l = true := by
  intro l
  induction l with
  | nil => rfl
  | cons a l ih => rw [alleq, h a, ih]; rfl
theorem alleq_symm {α : Type} {f : α → α → Bool} (h : ∀ a b, f a b = f b a) : ∀ l m, alleq f l m = alleq f m l := by
  intro l
  induction l with
  | nil => intro m; cases m <;> rfl
  | cons a l ih => intro m; cases m with
    | nil => rfl
    | cons b m => rw [alleq, alleq, h a b, ih m]
def seq (x y : ByteArray) : Bool := x.toList == y.toList
def neq (x y : Nat) : Bool := (x : Int) == (y : Int)
def veq (x y : VV) : Bool := x.k == y.k && (((x.n : Int) == (y.n : Int)) && seq x.s y.s)
def req (x y : List VV) : Bool := alleq veq x y
theorem seq_refl (x : ByteArray) : seq x x = true := by simp [seq]
theorem seq_symm (x y : ByteArray) : seq x y = seq y x := by unfold seq; exact BEq.comm
theorem neq_refl (x : Nat) : neq x x = true := by simp [neq]
theorem neq_symm (x y : Nat) : neq x y = neq y x := by unfold neq; exact BEq.comm
theorem veq_refl (x : VV) : veq x x = true := by simp [veq, seq_refl]
theorem veq_symm (x y : VV) : veq x y = veq y x := by
  unfold veq
  rw [seq_symm x.s y.s, BEq.comm (a := x.k), BEq.comm (a := (x.n : Int))]
theorem req_refl (x : List VV) : req x x = true := alleq_refl veq_refl x
theorem req_symm (x y : List VV) : req x y = req y x := alleq_symm veq_symm x y
set_option maxRecDepth 100000 in
set_option maxHeartbeats 2000000 in
theorem eqs_any (l m : List ByteArray) (A1 A2 : Option Addr) (c1 c2 : Nat) (hl : l.length ≤ 9223372036854775807) (hm : m.length ≤ 9223372036854775807) (w : World) (hr1 : Rd w w.heap.size A1 (scl l)) (hr2 : Rd w w.heap.size A2 (scl m)) :
    Calls Try.prog 58 #[.slice A1 l.length c1, .slice A2 m.length c2] w fun e w' => e = .returned (.bool (alleq seq l m)) ∧ Below w.heap.size w w' := by
  obtain ⟨q, hq⟩ : ∃ q, alleq seq l m = q := ⟨_, rfl⟩
  rw [hq]
  have HQ := Lib.hid hq
  have HR1 := Lib.hid hr1
  have HR2 := Lib.hid hr2
  obtain ⟨n, hn⟩ : ∃ n, l.length = n := ⟨_, rfl⟩
  obtain ⟨n2, hn2⟩ : ∃ n, m.length = n := ⟨_, rfl⟩
  rw [hn] at hl ⊢
  rw [hn2] at hm ⊢
  have HN := Lib.hid hn
  have HN2 := Lib.hid hn2
  clear hq hr1 hr2 hn hn2
  by_cases hne : n = n2
  · subst hne
    go_enter Try.func58, Try.ntmps58
    go_wp2_with fail
    go_loopw [13] (fun i wr => ∃ j : Nat, i = .int .i64 j ∧ j ≤ n ∧ alleq seq (l.drop j) (m.drop j) = q ∧ Below w.heap.size w wr) (fun i _ => n - (intOf i).toNat)
    case atStart => exact ⟨0, rfl, Nat.zero_le _, HQ.out, Below.refl _ _⟩
    case round =>
      obtain ⟨j, rfl, hj, he, hB⟩ := hrel
      have HE := Lib.hid he
      clear he
      by_cases hlt : j < n
      · obtain ⟨x, hx⟩ : ∃ x, l[j]? = some x := ⟨_, List.getElem?_eq_getElem (by rw [HN.out]; exact hlt)⟩
        obtain ⟨y, hy⟩ : ∃ y, m[j]? = some y := ⟨_, List.getElem?_eq_getElem (by rw [HN2.out]; exact hlt)⟩
        obtain ⟨b1, o1, rfl, hb1, g0⟩ := one_at (HR1.out.below hB (Nat.le_refl _)) hx
        obtain ⟨b2, o2, rfl, hb2, g1⟩ := one_at (HR2.out.below hB (Nat.le_refl _)) hy
        have he2 := HE.out
        rw [drop_cons hx, drop_cons hy, alleq] at he2
        clear hx hy HE
        unfold seq at he2
        cases heq : (x.toList == y.toList)
        · rw [heq, Bool.false_and] at he2
          subst he2
          go_wp2_with fail
          go_quiet (fail)
          go_wp2_with fail
          go_ret
          exact ⟨rfl, below_drewN hB nq⟩
        · rw [heq, Bool.true_and] at he2
          have HE := Lib.hid he2
          clear he2
          go_wp2_with fail
          go_quiet (fail)
          go_wp2_with fail
          go_roundw
          case rel => exact ⟨j + 1, by go_num, by omega, HE.out, below_drewN hB nq⟩
          case measure => simp [intOf]; omega
      · rw [List.drop_eq_nil_of_le (by rw [HN.out]; omega), List.drop_eq_nil_of_le (by rw [HN2.out]; omega)] at HE
        have hq : true = q := HE.out
        subst hq
        clear HE
        go_wp2_with fail
        go_ret
        exact ⟨rfl, hB⟩
  · have hb : ((n : Int) != (n2 : Int)) = true := by simp; omega
    have hq : false = q := by rw [← HQ.out, alleq_len (by rw [HN.out, HN2.out]; exact hne)]
    subst hq
    clear hne
    go_enter Try.func58, Try.ntmps58
    go_wp2_with fail
    go_ret
    exact ⟨rfl, Below.refl _ _⟩
set_option maxRecDepth 100000 in
set_option maxHeartbeats 2000000 in
theorem equ_any (l m : List Nat) (A1 A2 : Option Addr) (c1 c2 : Nat) (hl : l.length ≤ 9223372036854775807) (hm : m.length ≤ 9223372036854775807) (w : World) (hr1 : Rd w w.heap.size A1 (ucl l)) (hr2 : Rd w w.heap.size A2 (ucl m)) :
    Calls Try.prog 59 #[.slice A1 l.length c1, .slice A2 m.length c2] w fun e w' => e = .returned (.bool (alleq neq l m)) ∧ Below w.heap.size w w' := by
  obtain ⟨q, hq⟩ : ∃ q, alleq neq l m = q := ⟨_, rfl⟩
  rw [hq]
  have HQ := Lib.hid hq
  have HR1 := Lib.hid hr1
  have HR2 := Lib.hid hr2
  obtain ⟨n, hn⟩ : ∃ n, l.length = n := ⟨_, rfl⟩
  obtain ⟨n2, hn2⟩ : ∃ n, m.length = n := ⟨_, rfl⟩
  rw [hn] at hl ⊢
  rw [hn2] at hm ⊢
  have HN := Lib.hid hn
  have HN2 := Lib.hid hn2
  clear hq hr1 hr2 hn hn2
  by_cases hne : n = n2
  · subst hne
    go_enter Try.func59, Try.ntmps59
    go_wp2_with fail
    go_loopw [13] (fun i wr => ∃ j : Nat, i = .int .i64 j ∧ j ≤ n ∧ alleq neq (l.drop j) (m.drop j) = q ∧ Below w.heap.size w wr) (fun i _ => n - (intOf i).toNat)
    case atStart => exact ⟨0, rfl, Nat.zero_le _, HQ.out, Below.refl _ _⟩
    case round =>
      obtain ⟨j, rfl, hj, he, hB⟩ := hrel
      have HE := Lib.hid he
      clear he
      by_cases hlt : j < n
      · obtain ⟨x, hx⟩ : ∃ x, l[j]? = some x := ⟨_, List.getElem?_eq_getElem (by rw [HN.out]; exact hlt)⟩
        obtain ⟨y, hy⟩ : ∃ y, m[j]? = some y := ⟨_, List.getElem?_eq_getElem (by rw [HN2.out]; exact hlt)⟩
        obtain ⟨b1, o1, rfl, hb1, g0⟩ := one_at (HR1.out.below hB (Nat.le_refl _)) hx
        obtain ⟨b2, o2, rfl, hb2, g1⟩ := one_at (HR2.out.below hB (Nat.le_refl _)) hy
        have he2 := HE.out
        rw [drop_cons hx, drop_cons hy, alleq] at he2
        clear hx hy HE
        unfold neq at he2
        cases heq : ((x : Int) == (y : Int))
        · rw [heq, Bool.false_and] at he2
          subst he2
          go_wp2_with fail
          go_quiet (fail)
          go_wp2_with fail
          go_ret
          exact ⟨rfl, below_drewN hB nq⟩
        · rw [heq, Bool.true_and] at he2
          have HE := Lib.hid he2
          clear he2
          go_wp2_with fail
          go_quiet (fail)
          go_wp2_with fail
          go_roundw
          case rel => exact ⟨j + 1, by go_num, by omega, HE.out, below_drewN hB nq⟩
          case measure => simp [intOf]; omega
      · rw [List.drop_eq_nil_of_le (by rw [HN.out]; omega), List.drop_eq_nil_of_le (by rw [HN2.out]; omega)] at HE
        have hq : true = q := HE.out
        subst hq
        clear HE
        go_wp2_with fail
        go_ret
        exact ⟨rfl, hB⟩
  · have hb : ((n : Int) != (n2 : Int)) = true := by simp; omega
    have hq : false = q := by rw [← HQ.out, alleq_len (by rw [HN.out, HN2.out]; exact hne)]
    subst hq
    clear hne
    go_enter Try.func59, Try.ntmps59
    go_wp2_with fail
    go_ret
    exact ⟨rfl, Below.refl _ _⟩
set_option maxRecDepth 100000 in
set_option maxHeartbeats 2000000 in
theorem eqv_any (l m : List VV) (A1 A2 : Option Addr) (c1 c2 : Nat) (hl : l.length ≤ 9223372036854775807) (hm : m.length ≤ 9223372036854775807) (w : World) (hr1 : Rd w w.heap.size A1 (vvl l)) (hr2 : Rd w w.heap.size A2 (vvl m)) :
    Calls Try.prog 62 #[.slice A1 l.length c1, .slice A2 m.length c2] w fun e w' => e = .returned (.bool (alleq veq l m)) ∧ Below w.heap.size w w' := by
  obtain ⟨q, hq⟩ : ∃ q, alleq veq l m = q := ⟨_, rfl⟩
  rw [hq]
  have HQ := Lib.hid hq
  have HR1 := Lib.hid hr1
  have HR2 := Lib.hid hr2
  obtain ⟨n, hn⟩ : ∃ n, l.length = n := ⟨_, rfl⟩
  obtain ⟨n2, hn2⟩ : ∃ n, m.length = n := ⟨_, rfl⟩
  rw [hn] at hl ⊢
  rw [hn2] at hm ⊢
  have HN := Lib.hid hn
  have HN2 := Lib.hid hn2
  clear hq hr1 hr2 hn hn2
  by_cases hne : n = n2
  · subst hne
    go_enter Try.func62, Try.ntmps62
    go_wp2_with fail
    go_loopw [13] (fun i wr => ∃ j : Nat, i = .int .i64 j ∧ j ≤ n ∧ alleq veq (l.drop j) (m.drop j) = q ∧ Below w.heap.size w wr) (fun i _ => n - (intOf i).toNat)
    case atStart => exact ⟨0, rfl, Nat.zero_le _, HQ.out, Below.refl _ _⟩
    case round =>
      obtain ⟨j, rfl, hj, he, hB⟩ := hrel
      have HE := Lib.hid he
      clear he
      by_cases hlt : j < n
      · obtain ⟨x, hx⟩ : ∃ x, l[j]? = some x := ⟨_, List.getElem?_eq_getElem (by rw [HN.out]; exact hlt)⟩
        obtain ⟨y, hy⟩ : ∃ y, m[j]? = some y := ⟨_, List.getElem?_eq_getElem (by rw [HN2.out]; exact hlt)⟩
        obtain ⟨b1, o1, rfl, hb1, g0, g1, g2⟩ := val_at (HR1.out.below hB (Nat.le_refl _)) hx
        obtain ⟨b2, o2, rfl, hb2, f0, f1, f2⟩ := val_at (HR2.out.below hB (Nat.le_refl _)) hy
        have he2 := HE.out
        rw [drop_cons hx, drop_cons hy, alleq] at he2
        clear hx hy HE
        obtain ⟨xk, xn, xs⟩ := x
        obtain ⟨yk, yn, ys⟩ := y
        unfold veq seq at he2
        simp only at he2 g0 g1 g2 f0 f1 f2
        have HE2 := Lib.hid he2
        clear he2
        cases e0 : (xk == yk) <;> cases e1 : ((xn : Int) == (yn : Int)) <;> cases e2 : (xs.toList == ys.toList)
        all_goals
          have he2 := HE2.out
          rw [e0, e1, e2] at he2
          simp only [Bool.and_self, Bool.and_true, Bool.true_and, Bool.false_and, Bool.and_false] at he2
        rotate_right
        · have HE := Lib.hid he2
          clear he2 HE2
          go_wp2_with fail
          go_quiet (fail)
          go_wp2_with fail
          go_roundw
          case rel => exact ⟨j + 1, by go_num, by omega, HE.out, below_drewN hB nq⟩
          case measure => simp [intOf]; omega
        all_goals
          subst he2
          clear HE2
          go_wp2_with fail
          go_quiet (fail)
          go_wp2_with fail
          go_ret
          exact ⟨rfl, below_drewN hB nq⟩
      · rw [List.drop_eq_nil_of_le (by rw [HN.out]; omega), List.drop_eq_nil_of_le (by rw [HN2.out]; omega)] at HE
        have hq : true = q := HE.out
        subst hq
        clear HE
        go_wp2_with fail
        go_ret
        exact ⟨rfl, hB⟩
  · have hb : ((n : Int) != (n2 : Int)) = true := by simp; omega
    have hq : false = q := by rw [← HQ.out, alleq_len (by rw [HN.out, HN2.out]; exact hne)]
    subst hq
    clear hne
    go_enter Try.func62, Try.ntmps62
    go_wp2_with fail
    go_ret
    exact ⟨rfl, Below.refl _ _⟩
end Go.Proofs.Ytaahhommfpohhaa
