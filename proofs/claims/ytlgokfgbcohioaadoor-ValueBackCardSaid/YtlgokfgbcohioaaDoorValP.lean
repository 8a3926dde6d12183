/- WALKS: value.Put -/
import Derived.Test.YtlgokfgbcohioaaDoorValR0
import Derived.Test.YtlgokfgbcohioaaDoorFld
import Derived.StillTailTactics
namespace Go.Proofs.YtlgokfgbcohioaaDoor
open Go.RowKit Plain

theorem based_any (b : Int) (w : World) : Calls Tryd.prog 52 #[.int .i64 b] w fun e w' => e = .returned (.bool (decide (1 ≤ b ∧ b ≤ 1000))) ∧ w = w' := by
  by_cases h0 : b < 1
  · have e : decide (1 ≤ b ∧ b ≤ 1000) = false := by simp; omega
    rw [e]; clear e
    go_enter Tryd.func52, Tryd.ntmps52
    go_wp2
    go_ret
    exact ⟨rfl, rfl⟩
  by_cases h1 : 1000 < b
  · have e : decide (1 ≤ b ∧ b ≤ 1000) = false := by simp; omega
    have e2 : decide (b ≤ 1000) = false := by simp; omega
    have E2 := Lib.hid e2
    rw [e]; clear e e2
    go_enter Tryd.func52, Tryd.ntmps52
    go_wp2
    go_ret
    exact ⟨congrArg (fun z => Ending.returned (.bool z)) E2.out, rfl⟩
  have e : decide (1 ≤ b ∧ b ≤ 1000) = true := by simp; omega
  have e2 : decide (b ≤ 1000) = true := by simp; omega
  rw [e]; clear e h1
  go_enter Tryd.func52, Tryd.ntmps52
  go_wp2
  go_ret
  exact ⟨rfl, rfl⟩

/-- the box of a value, and what it holds behind a call -/
theorem boxV1 {w w1 : World} {k : Int} {n : Nat} {s : ByteArray} (h : Below (w.alloc (Obj.cells #[Value.int IntKind.i64 k, Value.int IntKind.u64 n, Value.string s] 42)).heap.size (w.alloc (Obj.cells #[Value.int IntKind.i64 k, Value.int IntKind.u64 n, Value.string s] 42)) w1) :
    w1.cell? ⟨w.heap.size, 0, none⟩ = some (.int .i64 k) ∧ w1.cell? ⟨w.heap.size, 1, none⟩ = some (.int .u64 n) ∧ w1.cell? ⟨w.heap.size, 2, none⟩ = some (.string s) ∧ Below w.heap.size w w1 := by
  refine ⟨?_, ?_, ?_, bel_step ((Below.refl _ _).alloc (Nat.le_refl _) _) h⟩
  · exact (h.cell (by simp)).trans (World.cell?_alloc_at _ _ _ 0 rfl)
  · exact (h.cell (by simp)).trans (World.cell?_alloc_at _ _ _ 1 rfl)
  · exact (h.cell (by simp)).trans (World.cell?_alloc_at _ _ _ 2 rfl)

def vfld (k : Int) (n : Nat) (s : ByteArray) (base : Int) : Fld := ⟨base + k - 1, vkind k, n, s⟩
def vfls (k : Int) (n : Nat) (s : ByteArray) (base : Int) (raw : Bool) : List Fld := if verr k n s.toList.isEmpty base raw = 0 ∧ ¬ k = 0 then [vfld k n s base] else []
theorem vright_bd {k n : Int} {e : Bool} (h : vright k n e = 0) : 0 ≤ k ∧ k ≤ 7 := by
  unfold vright at h
  by_cases h1 : k < 0 ∨ 7 < k
  · rw [if_pos h1] at h; omega
  · omega
/-- what Put leaves -/
def PutPost (k : Int) (n : Nat) (s : ByteArray) (base : Int) (raw : Bool) (w : World) (e : Ending) (w' : World) : Prop :=
  ∃ A c, e = .returned (.tuple #[.slice A (vfls k n s base raw).length c, .int .i64 (verr k n s.toList.isEmpty base raw)]) ∧ (vfls k n s base raw).length ≤ c ∧ c ≤ 1 ∧ Rd w' w'.heap.size A (flc (vfls k n s base raw)) ∧ Below w.heap.size w w'
theorem putPost_none {k : Int} {n : Nat} {s : ByteArray} {base : Int} {raw : Bool} {w w' : World} {v : Int} (h : verr k n s.toList.isEmpty base raw = v) (h0 : ¬ v = 0 ∨ k = 0) (hB : Below w.heap.size w w') :
    PutPost k n s base raw w (.returned (.tuple #[.slice none 0 0, .int .i64 v])) w' := by
  have e : vfls k n s base raw = [] := by unfold vfls; rw [if_neg (by rw [h]; omega)]
  unfold PutPost
  rw [e, h]
  exact ⟨none, 0, rfl, Nat.le_refl _, by omega, Rd.nil, hB⟩
theorem putPost_one {k : Int} {n : Nat} {s : ByteArray} {base : Int} {raw : Bool} {w w' : World} (h : verr k n s.toList.isEmpty base raw = 0) (h0 : ¬ k = 0) (hB : Below w.heap.size w w') (t : TypeId) :
    PutPost k n s base raw w (.returned (.tuple #[.slice (some ⟨w'.heap.size, 0, none⟩) 1 1, .int .i64 0])) (w'.alloc (.cells #[.int .i64 (base + k - 1), .int .i64 (vkind k), .int .u64 n, .string s] t)) := by
  have e : vfls k n s base raw = [vfld k n s base] := by unfold vfls; rw [if_pos ⟨h, h0⟩]
  unfold PutPost
  rw [e, h]
  refine ⟨_, 1, rfl, Nat.le_refl _, Nat.le_refl _, ?_, hB.alloc hB.size _⟩
  have := Rd.cells w' #[.int .i64 (base + k - 1), .int .i64 (vkind k), .int .u64 n, .string s] t
  rw [World.size_alloc]
  exact this

set_option maxRecDepth 100000 in
set_option maxHeartbeats 1000000 in
theorem vput_any (k : Int) (n : Nat) (s : ByteArray) (base : Int) (raw : Bool) (hb0 : -9223372036854775808 ≤ base) (hb1 : base ≤ 9223372036854775807) (w : World) (hK : Kinds w) :
    Calls Tryd.prog 28 #[.agg #[.int .i64 k, .int .u64 n, .string s], .int .i64 base, .bool raw] w fun e w' => PutPost k n s base raw w e w' := by
  by_cases hb : 1 ≤ base ∧ base ≤ 1000
  · have hbd : decide (1 ≤ base ∧ base ≤ 1000) = true := by simpa using hb
    have hv : verr k n s.toList.isEmpty base raw = (if vright k n s.toList.isEmpty = 0 then (if k = 7 ∧ raw = false then 11 else 0) else vright k n s.toList.isEmpty) := by unfold verr; rw [if_pos hb]
    have HV := Lib.hid hv
    clear hv
    go_enter Tryd.func28, Tryd.ntmps28
    go_wp2_with (go_at_call 52; refine (based_any _ _).mono ?_; rintro e w1 ⟨rfl, rfl⟩)
    refine (right_any _ _ _ _).mono ?_
    rintro e w1 ⟨rfl, hB1⟩
    obtain ⟨c0, c1, c2, hB⟩ := boxV1 hB1
    have hK1 := hK.below hB hK.pos
    clear hB1
    by_cases hr : vright k n s.toList.isEmpty = 0
    · have hkb := vright_bd hr
      have HR := Lib.hid hr
      rw [hr]
      clear hr
      by_cases hk0 : k = 0
      · subst hk0
        go_wp2_with fail
        go_ret2
        exact putPost_none (by rw [HV.out, if_pos HR.out]; simp) (.inr rfl) hB
      by_cases hk7 : k = 7 ∧ raw = false
      · obtain ⟨rfl, rfl⟩ := hk7
        go_wp2_with fail
        go_ret2
        exact putPost_none (by rw [HV.out, if_pos HR.out]; simp) (.inl (by omega)) hB
      have hend : ∀ w' : World, Below w.heap.size w w' → PutPost k n s base raw w (.returned (.tuple #[.slice (some ⟨w'.heap.size, 0, none⟩) 1 1, .int .i64 0])) (w'.alloc (.cells #[.int .i64 (base + k - 1), .int .i64 (vkind k), .int .u64 n, .string s] 73)) :=
        fun w' h => putPost_one (by rw [HV.out, if_pos HR.out, if_neg hk7]) hk0 h _
      have hk0' : (k == 0) = false := by simpa using hk0
      have hKk : w1.cell? ⟨0, k.toNat, none⟩ = some (.int .i64 (vkind k)) := by
        have := hK1 k.toNat (by omega)
        rwa [show ((k.toNat : Nat) : Int) = k by omega] at this
      have hw1 : IntKind.i64.wrap (base + k) = base + k := by simp only [IntKind.wrap_i64]; omega
      have hw2 : IntKind.i64.wrap (base + k - 1) = base + k - 1 := by simp only [IntKind.wrap_i64]; omega
      obtain ⟨hb10, hb11⟩ := hb
      obtain ⟨hkb0, hkb1⟩ := hkb
      have HE := Lib.hid hend
      have hB5 : Below w.heap.size w w1.drew := hB.drew
      have hk8 : k < 8 := by omega
      by_cases hk7' : k = 7
      · have b7 : (k == 7) = true := by simpa using hk7'
        obtain rfl : raw = true := by cases raw <;> simp_all
        clear hend hk7 hk0 hK1 hk7'
        go_wp2_with fail
        go_still_tail 14, (by kernel_rfl)
        change wpList _ _ _ _ _ w1.drew
        generalize w1.drew = w5 at *
        go_wp2_with fail
        go_ret2
        exact HE.out _ hB5
      · have b7 : (k == 7) = false := by simpa using hk7'
        clear hend hk7 hk0 hK1 hk7'
        go_wp2_with fail
        go_still_tail 14, (by kernel_rfl)
        change wpList _ _ _ _ _ w1.drew
        generalize w1.drew = w5 at *
        go_wp2_with fail
        go_ret2
        exact HE.out _ hB5
    · have hr' : (vright k n s.toList.isEmpty != 0) = true := by simpa using hr
      have HR := Lib.hid hr
      clear hr
      go_wp2_with fail
      go_ret2
      exact putPost_none (by rw [HV.out, if_neg HR.out]) (.inl HR.out) hB
  · have hbd : decide (1 ≤ base ∧ base ≤ 1000) = false := by simpa using hb
    have hv : verr k n s.toList.isEmpty base raw = 1 := by unfold verr; rw [if_neg hb]
    have HV := Lib.hid hv
    clear hv hb
    go_enter Tryd.func28, Tryd.ntmps28
    go_wp2_with (go_at_call 52; refine (based_any _ _).mono ?_; rintro e w1 ⟨rfl, rfl⟩)
    go_ret2
    exact putPost_none HV.out (.inl (by omega)) ((Below.refl _ _).alloc (Nat.le_refl _) _)
end Go.Proofs.YtlgokfgbcohioaaDoor
