/- WALKS: value.Of -/
import Derived.Test.YtlgokfgbcohioaaDoorValS
namespace Go.Proofs.YtlgokfgbcohioaaDoor
open Go.RowKit Plain

/-- the kind of value that a field's number tells -/
def vkof (num base : Int) (raw : Bool) : Int := if 1 ≤ num - base + 1 ∧ num - base + 1 ≤ 7 ∧ (num - base + 1 = 7 → raw = true) then num - base + 1 else 0
structure VV where
  k : Int
  n : Nat
  s : ByteArray
def VV.zero : VV := ⟨0, 0, ⟨#[]⟩⟩
def VV.cells (v : VV) : Array Value := #[.int .i64 v.k, .int .u64 v.n, .string v.s]
/-- what fields tell: behind acc -/
def vofs (base : Int) (raw : Bool) : List Fld → VV → VV × Int
  | [], acc => (acc, 0)
  | f :: l, acc =>
    if vkof f.num base raw = 0 then vofs base raw l acc
    else if ¬ f.kind = vkind (vkof f.num base raw) then (VV.zero, 4)
    else if vgreat (vkof f.num base raw) f.val = true then (VV.zero, 5)
    else vofs base raw l ⟨vkof f.num base raw, f.val, f.text⟩
def vof (base : Int) (raw : Bool) (l : List Fld) : VV × Int := if 1 ≤ base ∧ base ≤ 1000 then vofs base raw l VV.zero else (VV.zero, 1)

theorem wrap_kof {num base : Int} (h0 : -9223372036854775808 ≤ num) (h1 : num ≤ 9223372036854775807) (hb0 : 1 ≤ base) (hb1 : base ≤ 1000) :
    (1 ≤ num - base + 1 ∧ num - base + 1 ≤ 7 → wrap64 (wrap64 (num - base) + 1) = num - base + 1) ∧ (num - base + 1 < 1 ∨ 7 < num - base + 1 → wrap64 (wrap64 (num - base) + 1) < 1 ∨ 7 < wrap64 (wrap64 (num - base) + 1)) := by
  unfold wrap64
  omega
set_option maxHeartbeats 1000000 in
theorem kindOf_any (num base : Int) (raw : Bool) (h0 : -9223372036854775808 ≤ num) (h1 : num ≤ 9223372036854775807) (hb0 : 1 ≤ base) (hb1 : base ≤ 1000) (w : World) :
    Calls Tryd.prog 55 #[.int .i64 num, .int .i64 base, .bool raw] w fun e w' => e = .returned (.int .i64 (vkof num base raw)) ∧ w = w' := by
  have hw := wrap_kof h0 h1 hb0 hb1
  obtain ⟨V, hV⟩ : ∃ V, vkof num base raw = V := ⟨_, rfl⟩
  rw [hV]
  have HV := Lib.hid hV
  have HW := Lib.hid hw
  clear hV hw
  go_enter Tryd.func55, Tryd.ntmps55
  go_wp2
  all_goals go_ret
  all_goals refine ⟨congrArg (fun z => Ending.returned (.int .i64 z)) ?_, rfl⟩
  all_goals rw [← HV.out]
  all_goals (have hw := HW.out; clear HV HW; unfold vkof)
  · rw [if_neg (by omega)]
  · rw [if_neg (by omega)]
  · rw [if_neg (by rintro ⟨a, b, c⟩; have := hw.1 ⟨a, b⟩; have := c (by omega); simp_all)]
  · rw [if_pos ⟨by omega, by omega, fun _ => by simp_all⟩]; omega
  · rw [if_pos ⟨by omega, by omega, fun _ => by omega⟩]; omega
end Go.Proofs.YtlgokfgbcohioaaDoor
