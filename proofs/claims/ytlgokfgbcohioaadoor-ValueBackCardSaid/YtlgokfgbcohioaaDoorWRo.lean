/- WALK: wire.Of -/
import Derived.Test.YtlgokfgbcohioaaDoorWRn
namespace Go.Proofs.YtlgokfgbcohioaaDoor
open Go.RowKit Plain

def atOf (W : World) (R : Nat) : Nat := match W.cell? ⟨R, 1, none⟩ with
  | some v => (intOf v).toNat
  | none => 0
theorem Rdr.atOf {w0 W : World} {R n c : Nat} {A : Option Addr} {s : RSt} (h : Rdr w0 W R A n c s) : atOf W R = s.at_ := by
  obtain ⟨_, _, _, _, _, h1, _⟩ := h.cells
  unfold Go.Proofs.YtlgokfgbcohioaaDoor.atOf
  rw [h1]
  simp [intOf]
theorem wrun_stop {b : List UInt8} {f : Nat} {s : RSt} (h : ¬ s.at_ < b.length) : wrun b f s = if s.opn.length = 0 then (s.out, 0) else ([], 2) := by
  cases f with
  | zero => rfl
  | succ f => rw [wrun, if_neg h]
def OfPost (b : List UInt8) (w : World) (e : Ending) (w' : World) : Prop :=
  ∃ A c, e = .returned (.tuple #[.slice A (wof b).1.length c, .int .i64 (wof b).2]) ∧ w'.ownsRow w.heap.size 73 4 (.slice A (wof b).1.length c) (wof b).1.length (flc (wof b).1) ∧ Below w.heap.size w w'
theorem of_err {b : List UInt8} {w w' : World} {e : Nat} (h : wof b = ([], e)) (hB : Below w.heap.size w w') : OfPost b w (.returned (.tuple #[.slice none 0 0, .int .i64 e])) w' :=
  ⟨none, 0, by rw [h]; rfl, by rw [h]; exact World.ownsRow_nil w' _ _ _, hB⟩
set_option maxRecDepth 100000 in
set_option maxHeartbeats 2000000 in
theorem of_any (b : List UInt8) (A : Option Addr) (n c : Nat) (hn : b.length = n) (hnc : n ≤ c) (hcm : c ≤ 9223372036854775807) (w : World) (hr0 : Rd w w.heap.size A (bcl b)) :
    Calls Tryd.prog 33 #[.slice A n c] w (OfPost b w) := by
  by_cases hlong : 4096 < b.length
  · have hb : decide ((4096 : Int) < (n : Int)) = true := decide_eq_true (by omega)
    have hw : wof b = ([], 3) := by unfold wof; rw [if_pos hlong]
    have HW := Lib.hid hw
    clear hlong hw hr0 hn
    go_enter Tryd.func33, Tryd.ntmps33
    go_wp2_with fail
    go_ret2
    exact of_err (e := 3) HW.out (Below.refl _ _)
  · have hb : decide ((4096 : Int) < (n : Int)) = false := decide_eq_false (by omega)
    have hl : b.length ≤ 140737488355328 := by omega
    have hw : wof b = wrun b b.length ⟨0, [], []⟩ := by unfold wof; rw [if_neg hlong]
    have hnext := fun (s : RSt) (R : Nat) (W : World) (h : Rdr w W R A n c s) => next_any b A n c hn hnc hcm hl w hr0 s R W h (wnext b s).1 (wnext b s).2 rfl
    have HW := Lib.hid hw
    have HN := Lib.hid hn
    clear hlong hw hl hr0 hn
    go_enter Tryd.func33, Tryd.ntmps33
    go_wp2_with fail
    have hR0 : Rdr w (w.alloc (Obj.cells #[.slice A n c, .int .i64 0, .slice none 0 0, .slice none 0 0] 97)) w.heap.size A n c ⟨0, [], []⟩ :=
      ⟨none, 0, none, 0, World.alloc_heap_new w _, World.ownsRow_nil _ _ _ _, World.ownsRow_nil _ _ _ _, (Below.refl _ w).alloc (Nat.le_refl _) _, Nat.le_refl _⟩
    go_loopw [5] (fun _ wr => ∃ (s : RSt) (f : Nat), Rdr w wr w.heap.size A n c s ∧ wof b = wrun b f s ∧ b.length ≤ f + s.at_) (fun _ wr => b.length - atOf wr w.heap.size)
    case atStart => exact ⟨_, b.length, hR0, HW.out, by simp⟩
    case round =>
      clear hR0
      obtain ⟨s, f, h, hw, hf⟩ := hrel
      obtain ⟨Ao, co, Ax, cx, c0, c1, c2, c3, f1, f2, f3, o1, o2⟩ := h.cells
      have hbel := h.bel
      have HWW := Lib.hid hw
      have HF := Lib.hid hf
      clear hw hf
      by_cases hlt : s.at_ < b.length
      · have hlt2 : s.at_ < n := by rw [← HN.out]; exact hlt
        have hb2 : decide ((s.at_ : Int) < (n : Int)) = true := decide_eq_true (by omega)
        have hto := @wnext_to b s
        have hcall := hnext s w.heap.size wr h
        obtain ⟨E, s2, hE⟩ : ∃ E s2, wnext b s = (E, s2) := ⟨_, _, rfl⟩
        rw [hE] at hto hcall
        simp only at hto hcall
        have hstep : ∃ f2, f = f2 + 1 ∧ wof b = if E = 0 then wrun b f2 s2 else ([], E) := by
          cases f with
          | zero => have := HF.out; omega
          | succ f2 => exact ⟨f2, rfl, by rw [HWW.out, wrun, if_pos hlt, hE]⟩
        obtain ⟨f2, hf2, hw2⟩ := hstep
        have HW2 := Lib.hid hw2
        have HT := Lib.hid hto
        have HLT := Lib.hid hlt
        have HAT := Lib.hid h.atOf
        clear hto hw2 hE hnext hlt o1 o2 h
        by_cases hE0 : E = 0
        · subst hE0
          go_wp2_with fail
          refine hcall.mono ?_
          rintro e w2 ⟨rfl, h2, hB2⟩
          have h3 := h2 (by first | rfl | trivial)
          go_wp2_with fail
          go_roundw
          case rel => exact ⟨s2, f2, h3, by rw [HW2.out, if_pos (by first | rfl | trivial)], by have := HT.out (by first | rfl | trivial); have := HF.out; omega⟩
          case measure => rw [h3.atOf, HAT.out]; have := HT.out (by first | rfl | trivial); have := HLT.out; omega
        · have hbe : ((E : Int) != 0) = true := by simp; omega
          have HE := Lib.hid hE0
          clear hE0
          go_wp2_with fail
          refine hcall.mono ?_
          rintro e w2 ⟨rfl, -, hB2⟩
          go_wp2_with fail
          go_ret2
          exact of_err (by rw [HW2.out, if_neg HE.out]) hB2
      · have hlt2 : ¬ s.at_ < n := by rw [← HN.out]; exact hlt
        have hb2 : decide ((s.at_ : Int) < (n : Int)) = false := decide_eq_false (by omega)
        have hw2 := HWW.out
        rw [wrun_stop hlt] at hw2
        have HW2 := Lib.hid hw2
        clear hw2 hlt hnext
        by_cases ho : s.opn.length = 0
        · go_wp2_with fail
          go_ret2
          have hw3 : wof b = (s.out, 0) := by rw [HW2.out, if_pos ho]
          exact ⟨Ax, cx, by rw [hw3]; rfl, by rw [hw3]; exact o2, hbel⟩
        · have hpos : 0 < s.opn.length := by omega
          have HO := Lib.hid ho
          clear ho
          go_wp2_with fail
          go_ret2
          exact of_err (e := 2) (by rw [HW2.out, if_neg HO.out]) hbel
end Go.Proofs.YtlgokfgbcohioaaDoor
