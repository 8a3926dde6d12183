/- WALKS: props.badly, ahead, text, laid -/
import Derived.Test.YtlgokfgbcohioaaDoorPpPM
import Derived.Test.YtlgokfgbcohioaaDoorDsCM
namespace Go.Proofs.YtlgokfgbcohioaaDoor
open Go.RowKit Plain

def BoxP (W : World) (B : Nat) (p : Pn) : Prop := W.heap[B]? = some (.cells #[.string p.key, .int .u32 p.type, .bool p.null, .int .i64 p.v.k, .int .u64 p.v.n, .string p.v.s, .slice p.adr p.sub.list.length p.cap] 82 (0, 0))
theorem BoxP.lt {W : World} {B : Nat} {p : Pn} (h : BoxP W B p) : B < W.heap.size := (Array.getElem?_eq_some_iff.1 h).1
theorem BoxP.below {W W' : World} {B : Nat} {p : Pn} (h : BoxP W B p) (hb : Below W.heap.size W W') : BoxP W' B p := (hb.block B h.lt).trans h
theorem BoxP.at {W : World} {B : Nat} {p : Pn} (h : BoxP W B p) : PropAt W B 0 p := by
  refine ⟨?_, ?_, ?_, ?_, ?_, ?_, ?_⟩ <;> (simp only [World.cell?, show W.heap[B]? = _ from h]; rfl)
theorem bad_iff (v : VV) (n : Nat) : pbad v n = if v.k = 8 then !(v.n == 0 && v.s.toList.isEmpty) else decide (0 < n) := rfl
set_option maxRecDepth 100000 in
set_option maxHeartbeats 1000000 in
theorem badly_any (p : Pn) (w : World) : Calls Tryd.prog 99 #[p.agg] w fun e w' => e = .returned (.bool (pbad p.v p.sub.list.length)) ∧ Below w.heap.size w w' := by
  obtain ⟨key, type, null, ⟨k, n, s⟩, adr, cap, sub⟩ := p
  unfold Pn.agg
  simp only
  generalize sub.list.length = L
  obtain ⟨q, hq⟩ : ∃ q, pbad ⟨k, n, s⟩ L = q := ⟨_, rfl⟩
  rw [hq]
  unfold pbad at hq
  simp only at hq
  have hE := (Below.refl w.heap.size w).alloc (Nat.le_refl _) (Obj.cells #[.string key, .int .u32 type, .bool null, .int .i64 k, .int .u64 n, .string s, .slice adr L cap] 82)
  by_cases hk : k = 8
  · subst hk
    rw [if_pos rfl] at hq
    by_cases hn : n = 0
    · subst hn
      have hs : q = !s.toList.isEmpty := by rw [← hq]; simp
      clear hq
      have HS := Lib.hid hs
      clear hs
      go_enter Tryd.func99, Tryd.ntmps99
      go_wp2_with fail
      go_ret
      exact ⟨by rw [HS.out]; rfl, hE⟩
    · have hb : ((n : Int) != 0) = true := by simp; omega
      have hs : q = true := by rw [← hq]; simp [hn]
      clear hq hn
      subst hs
      go_enter Tryd.func99, Tryd.ntmps99
      go_wp2_with fail
      go_ret
      exact ⟨rfl, hE⟩
  · rw [if_neg hk] at hq
    have hb : ((k : Int) == 8) = false := by simpa using hk
    have HQ := Lib.hid hq
    clear hq hk
    go_enter Tryd.func99, Tryd.ntmps99
    go_wp2_with fail
    go_ret
    exact ⟨by rw [← HQ.out]; simp, hE⟩
set_option maxRecDepth 100000 in
set_option maxHeartbeats 1000000 in
theorem ptext_any (num : Int) (s : ByteArray) (w : World) :
    Calls Tryd.prog 72 #[.int .i64 num, .string s] w fun e w' => e = .returned (.agg (Fld.cells ⟨num, 2, 0, s⟩).toArray) ∧ Below w.heap.size w w' := by
  unfold Fld.cells
  go_enter Tryd.func72, Tryd.ntmps72
  go_wp2_with fail
  refine bodyPost_ret (v := .agg #[.int .i64 num, .int .i64 2, .int .u64 0, .string s]) ?_ rfl ⟨rfl, (Below.refl _ w).alloc (Nat.le_refl _) _⟩
  rw [results_cell1 rfl]; go_simp
set_option maxRecDepth 100000 in
theorem playd_any (l : List Fld) (A : Option Addr) (c : Nat) (hl : l.length ≤ 9223372036854775807) (hwf : ∀ f ∈ l, FldOk f) (w : World) (hr : Rd w w.heap.size A (flc l)) :
    Calls Tryd.prog 73 #[.slice A l.length c] w (BPost (wput l) w) := by
  have hput := puts_any l A c hl hwf w hr
  have hput2 : Calls Tryd.prog 32 #[.slice A l.length c] w (BPost (wput l) w) := hput
  obtain ⟨q, hq⟩ : ∃ q, wput l = q := ⟨_, rfl⟩
  rw [hq] at hput2 ⊢
  clear hput hl hwf hr hq
  generalize l.length = n at *
  go_enter Tryd.func73, Tryd.ntmps73
  go_wp2_with fail
  refine hput2.mono ?_
  rintro e w1 ⟨A1, c1, rfl, ho, hB⟩
  go_wp2_with fail
  go_ret2
  exact ⟨A1, c1, rfl, ho, hB⟩
set_option maxRecDepth 100000 in
set_option maxHeartbeats 1000000 in
theorem ahead_any (p : Pn) (ht32 : p.type < 4294967296) (w : World) :
    Calls Tryd.prog 100 #[p.agg] w fun e w' => ∃ A c, e = .returned (.slice A (pahead p.type p.null).length c) ∧ w'.ownsRow w.heap.size 73 4 (.slice A (pahead p.type p.null).length c) (pahead p.type p.null).length (flc (pahead p.type p.null)) ∧ Below w.heap.size w w' := by
  obtain ⟨key, type, null, ⟨k, n, s⟩, adr, cap, sub⟩ := p
  unfold Pn.agg
  simp only at ht32 ⊢
  generalize sub.list.length = L
  obtain ⟨H, hH⟩ : ∃ H, pahead type null = H := ⟨_, rfl⟩
  rw [hH]
  unfold pahead at hH
  have hE0 := (Below.refl w.heap.size w).alloc (Nat.le_refl _) (Obj.cells #[.string key, .int .u32 type, .bool null, .int .i64 k, .int .u64 n, .string s, .slice adr L cap] 82)
  have hnil := World.ownsRow_nil (w.alloc (Obj.cells #[.string key, .int .u32 type, .bool null, .int .i64 k, .int .u64 n, .string s, .slice adr L cap] 82)) w.heap.size 73 4
  have hs0 := hE0.size
  by_cases ht : type = 0
  · subst ht
    rw [if_pos rfl, List.nil_append] at hH
    cases null
    · rw [if_neg (by simp)] at hH
      subst hH
      go_enter Tryd.func100, Tryd.ntmps100
      go_wp2_with fail
      go_ret
      exact ⟨none, 0, rfl, World.ownsRow_nil _ _ _ _, hE0⟩
    · rw [if_pos rfl] at hH
      subst hH
      go_enter Tryd.func100, Tryd.ntmps100
      go_wp2_with (at_builtin; refine wpList_appF1 (l := []) rfl _ _ rfl rfl hnil ⟨2, 0, 1, ⟨#[]⟩⟩ rfl (by simp) (by omega) hs0 ?_; intro A5 c5 w5 ho5 hg5; have hB5 := own_grown hE0 hnil hs0 hg5; clear hg5 hnil)
      go_ret
      exact ⟨A5, c5, rfl, ho5, hB5⟩
  · have hb : ((type : Int) != 0) = true := by simp; omega
    rw [if_neg ht] at hH
    clear ht
    have hc2 : (w.alloc (Obj.cells #[.string key, .int .u32 type, .bool null, .int .i64 k, .int .u64 n, .string s, .slice adr L cap] 82)).cell? ⟨w.heap.size, 2, none⟩ = some (.bool null) := by rw [World.cell?_alloc_at _ _ _ _ rfl]; rfl
    have HH := Lib.hid hH
    have hlt : w.heap.size < (w.alloc (Obj.cells #[.string key, .int .u32 type, .bool null, .int .i64 k, .int .u64 n, .string s, .slice adr L cap] 82)).heap.size := by simp
    have hB0 := Below.refl (w.alloc (Obj.cells #[.string key, .int .u32 type, .bool null, .int .i64 k, .int .u64 n, .string s, .slice adr L cap] 82)).heap.size (w.alloc (Obj.cells #[.string key, .int .u32 type, .bool null, .int .i64 k, .int .u64 n, .string s, .slice adr L cap] 82))
    have hnil2 := World.ownsRow_nil (w.alloc (Obj.cells #[.string key, .int .u32 type, .bool null, .int .i64 k, .int .u64 n, .string s, .slice adr L cap] 82)) (w.alloc (Obj.cells #[.string key, .int .u32 type, .bool null, .int .i64 k, .int .u64 n, .string s, .slice adr L cap] 82)).heap.size 73 4
    clear hH hnil
    cases null
    · go_enter Tryd.func100, Tryd.ntmps100
      go_wp2_with (at_builtin; refine wpList_appF1 (l := []) rfl _ _ rfl rfl hnil2 ⟨1, 0, type, ⟨#[]⟩⟩ rfl (by simp) (by omega) (Nat.le_refl _) ?_; intro A5 c5 w5 ho5 hg5; have hB5 := own_grown hB0 hnil2 (Nat.le_refl _) hg5; replace hc2 := (hB5.cell (p := ⟨w.heap.size, 2, none⟩) hlt).trans hc2; clear hg5 hnil2)
      go_ret
      obtain rfl := HH.out
      exact ⟨A5, c5, rfl, own_base ho5 hs0, hE0.trans (hB5.mono hs0)⟩
    · go_enter Tryd.func100, Tryd.ntmps100
      go_wp2_with (at_builtin; first
        | (refine wpList_appF1 (l := []) rfl _ _ rfl rfl hnil2 ⟨1, 0, type, ⟨#[]⟩⟩ rfl (by simp) (by omega) (Nat.le_refl _) ?_; intro A5 c5 w5 ho5 hg5; have hB5 := own_grown hB0 hnil2 (Nat.le_refl _) hg5; replace hc2 := (hB5.cell (p := ⟨w.heap.size, 2, none⟩) hlt).trans hc2; have hs5 := hB5.size; clear hg5 hnil2)
        | (refine wpList_appF1 rfl _ _ rfl rfl ho5 ⟨2, 0, 1, ⟨#[]⟩⟩ rfl (by simp) (by omega) hs5 ?_; intro A6 c6 w6 ho6 hg6; have hB6 := own_grown hB5 ho5 hs5 hg6; clear hg6))
      go_ret
      obtain rfl := HH.out
      exact ⟨A6, c6, rfl, own_base ho6 hs0, hE0.trans (hB6.mono hs0)⟩
end Go.Proofs.YtlgokfgbcohioaaDoor
