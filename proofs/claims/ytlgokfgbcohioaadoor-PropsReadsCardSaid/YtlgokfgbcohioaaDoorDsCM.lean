/- WALKS: dataset.text, cell -/
import Derived.Test.YtlgokfgbcohioaaDoorDsPM
import Derived.Test.YtlgokfgbcohioaaDoorK2
namespace Go.Proofs.YtlgokfgbcohioaaDoor
open Go.RowKit Plain

set_option maxRecDepth 100000 in
set_option maxHeartbeats 1000000 in
theorem dtext_any (num : Int) (A : Option Addr) (n c : Nat) (l : List UInt8) (hn : l.length = n) (w : World) (hr : Rd w w.heap.size A (bcl l)) :
    Calls Tryd.prog 42 #[.int .i64 num, .slice A n c] w fun e w' => e = .returned (.agg (Fld.cells ⟨num, 2, 0, ⟨l.toArray⟩⟩).toArray) ∧ Below w.heap.size w w' := by
  have hs0 := strB hr hn c
  have hs1 := strB (hr.alloc (Nat.le_refl _) (.cells #[.int .i64 0, .int .i64 0, .int .u64 0, .string ⟨#[]⟩] 73)) hn c
  clear hr hn
  unfold Fld.cells
  go_enter Tryd.func42, Tryd.ntmps42
  go_wp2_with fail
  refine bodyPost_ret (v := .agg #[.int .i64 num, .int .i64 2, .int .u64 0, .string ⟨l.toArray⟩]) ?_ rfl ⟨rfl, (Below.refl _ w).alloc (Nat.le_refl _) _⟩
  rw [results_cell1 rfl]; go_simp
set_option maxRecDepth 100000 in
set_option maxHeartbeats 1000000 in
theorem dcell_any (v : VV) (hv : VVOk v) (w : World) (hK : Kinds w) : Calls Tryd.prog 69 #[.agg v.cells] w (BPost (dcell v) w) := by
  obtain ⟨k, n, s⟩ := v
  have hp := fun W hK => vput_any k n s 1 false (by omega) (by omega) W hK
  obtain ⟨q, hq⟩ : ∃ q, dcell ⟨k, n, s⟩ = q := ⟨_, rfl⟩
  rw [hq]
  unfold dcell at hq
  simp only at hq
  unfold VV.cells
  simp only
  go_enter Tryd.func69, Tryd.ntmps69
  go_wp2_with fail
  have hE := (Below.refl w.heap.size w).alloc (Nat.le_refl _) (Obj.cells #[.int .i64 k, .int .u64 n, .string s] 42)
  refine (hp _ (hK.below hE hK.pos)).mono ?_
  rintro e w1 ⟨A1, c1, rfl, hc1, hc2, hr1, hB1⟩
  have hW1 := bel_step' hE (Nat.le_refl _) hB1
  clear hp hE hB1 hK
  obtain ⟨l, hl⟩ : ∃ l, vfls k n s 1 false = l := ⟨_, rfl⟩
  obtain ⟨er, her⟩ : ∃ er, verr k n s.toList.isEmpty 1 false = er := ⟨_, rfl⟩
  rw [hl] at hr1 hc1 hq ⊢
  rw [her] at hq ⊢
  have hlen : l.length ≤ 1 := by omega
  by_cases h0 : er = 0
  · subst h0
    rw [if_pos rfl] at hq
    have hok := (vfls_ok hv.2.2 her).2.1
    rw [hl] at hok
    have hput := puts_any l A1 c1 (by omega) hok w1 hr1
    have hput2 : Calls Tryd.prog 32 #[.slice A1 l.length c1] w1 (BPost (wput l) w1) := hput
    rw [hq] at hput2
    clear hput hok hr1 hc1 hc2 hl her hv hq hlen
    go_wp2_with fail
    refine hput2.mono ?_
    rintro e w2 ⟨A2, c2, rfl, ho2, hB2⟩
    go_wp2_with fail
    go_ret2
    exact ⟨A2, c2, rfl, own_base ho2 hW1.size, bel_step hW1 hB2⟩
  · rw [if_neg h0] at hq
    have hbe : (er != 0) = true := by simpa using h0
    have HQ := Lib.hid hq
    clear hr1 hc1 hc2 hl her hv hq h0
    go_wp2_with fail
    go_ret2
    exact bpost_err HQ.out.symm hW1
/-- '[]byte(s)' -/
theorem run_bytes (W : World) (s : ByteArray) : ∃ c W', (convert 9 27 (.string s)).run Tryd.prog W = .ok (.slice (some ⟨W.heap.size, 0, none⟩) s.size c) W' ∧ Rd W' W'.heap.size (some ⟨W.heap.size, 0, none⟩) (bcl s.data.toList) ∧ Below W.heap.size W W' ∧ s.size ≤ c ∧ (s.size ≤ maxLen → c ≤ maxLen) := by
  refine ⟨_, _, run_bytes_of_string W _ _ _ s Tryd.underlying9 Tryd.underlying27 Tryd.underlying5, ?_, ?_, grownCap_ge _ _ _ _, grownCap_le_maxLen _ _ _ _⟩
  · refine .inr ⟨W.heap.size, 0, rfl, by simp, fun i hi => ?_⟩
    have hi2 : i < s.data.size := by simpa [bcl] using hi
    rw [Nat.zero_add]
    simp [World.cell?, World.alloc, World.drew, -World.alloc_eq, -World.drew_eq, bytesRow, bcl, Array.getElem?_append]
    intro h; exact absurd h (by have : s.size = s.data.size := rfl; omega)
  · exact ⟨rfl, rfl, rfl, by simp [World.alloc, World.drew, -World.alloc_eq, -World.drew_eq], fun k hk => by simp [World.alloc, World.drew, -World.alloc_eq, -World.drew_eq, Array.getElem?_push, Nat.ne_of_lt hk]⟩
theorem text_back (s : ByteArray) : (⟨s.data.toList.toArray⟩ : ByteArray) = s := by cases s; simp
end Go.Proofs.YtlgokfgbcohioaaDoor
