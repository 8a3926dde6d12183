/- WALK: same: two slices that read as one list of fields are one. -/
import Derived.Test.YtfmamcdlnbmpeaaDoorFld
import Derived.BigQuiet
import Derived.Deep.QuietTactic
import Derived.LoopTactic
namespace Go.Proofs.YtfmamcdlnbmpeaaDoor
open Go.RowKit Plain

theorem below_drewN' {B : Nat} {a w : World} (h : Below B a w) (n : Nat) : Below B a (w.drewN n) := ⟨h.os, h.tape, h.output, h.size, h.block⟩
theorem same_any (A1 A2 : Option Addr) (c1 c2 : Nat) (l : List Fld) (hl : l.length ≤ 9223372036854775807) {B1 B2 : Nat} (w : World) (hB1 : B1 ≤ w.heap.size) (hB2 : B2 ≤ w.heap.size) (hr1 : Rd w B1 A1 (flc l)) (hr2 : Rd w B2 A2 (flc l)) :
    Calls Tryd.prog 8 #[.slice A1 l.length c1, .slice A2 l.length c2] w fun e w' => e = .returned (.bool true) ∧ Below w.heap.size w w' := by
  have HR1 := Lib.hid hr1
  have HR2 := Lib.hid hr2
  clear hr1 hr2
  go_enter Tryd.func8, Tryd.ntmps8
  go_wp2
  go_loopw [5] (fun i wr => ∃ k : Nat, k ≤ l.length ∧ i = .int .i64 k ∧ Below w.heap.size w wr) (fun i _ => l.length - (intOf i).toNat)
  case atStart => exact ⟨0, Nat.zero_le _, rfl, Below.refl _ _⟩
  case round =>
    obtain ⟨k, hk, rfl, hB⟩ := hrel
    by_cases hlt : k < l.length
    · obtain ⟨f, hf⟩ : ∃ f, l[k]? = some f := ⟨_, List.getElem?_eq_getElem hlt⟩
      have hlen := flc_len l
      obtain ⟨b1, o1, rfl, hb1, hc1⟩ := (HR1.out.below hB (by omega)).some_ (by omega)
      obtain ⟨b2, o2, rfl, hb2, hc2⟩ := (HR2.out.below hB (by omega)).some_ (by omega)
      have g1 : ∀ j, j < 4 → wr.cell? ⟨b1, o1 + k * 4 + j, none⟩ = f.cells[j]? := fun j hj => by
        rw [show o1 + k * 4 + j = o1 + (4 * k + j) by omega]; exact (hc1 _ (by omega)).trans (flc_at hf j hj)
      have g2 : ∀ j, j < 4 → wr.cell? ⟨b2, o2 + k * 4 + j, none⟩ = f.cells[j]? := fun j hj => by
        rw [show o2 + k * 4 + j = o2 + (4 * k + j) by omega]; exact (hc2 _ (by omega)).trans (flc_at hf j hj)
      have g10 : wr.cell? ⟨b1, o1 + k * 4, none⟩ = some (.int .i64 f.num) := g1 0 (by omega)
      have g11 : wr.cell? ⟨b1, o1 + k * 4 + 1, none⟩ = some (.int .i64 f.kind) := g1 1 (by omega)
      have g12 : wr.cell? ⟨b1, o1 + k * 4 + 2, none⟩ = some (.int .u64 f.val) := g1 2 (by omega)
      have g13 : wr.cell? ⟨b1, o1 + k * 4 + 3, none⟩ = some (.string f.text) := g1 3 (by omega)
      have g20 : wr.cell? ⟨b2, o2 + k * 4, none⟩ = some (.int .i64 f.num) := g2 0 (by omega)
      have g21 : wr.cell? ⟨b2, o2 + k * 4 + 1, none⟩ = some (.int .i64 f.kind) := g2 1 (by omega)
      have g22 : wr.cell? ⟨b2, o2 + k * 4 + 2, none⟩ = some (.int .u64 f.val) := g2 2 (by omega)
      have g23 : wr.cell? ⟨b2, o2 + k * 4 + 3, none⟩ = some (.string f.text) := g2 3 (by omega)
      clear hc1 hc2 hlen hf g1 g2
      go_wp2_with fail
      go_quiet (fail)
      go_wp2_with fail
      go_roundw
      case rel => exact ⟨k + 1, by omega, by go_num, below_drewN' hB _⟩
      case measure => simp [intOf]; omega
    · go_wp2_with fail
      go_ret
      exact ⟨rfl, hB⟩
end Go.Proofs.YtfmamcdlnbmpeaaDoor
