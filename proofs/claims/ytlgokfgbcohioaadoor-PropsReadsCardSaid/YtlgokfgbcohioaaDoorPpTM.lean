/- WALK: props.tell -/
import Derived.Test.YtlgokfgbcohioaaDoorPpAM
namespace Go.Proofs.YtlgokfgbcohioaaDoor
open Go.RowKit Plain

theorem flc_app2 (a b : List Fld) : flc (a ++ b) = flc a ++ flc b := by simp [flc]
theorem vfls_len (k : Int) (n : Nat) (s : ByteArray) (base : Int) (raw : Bool) : (vfls k n s base raw).length ≤ 1 := by unfold vfls; split <;> simp
set_option maxRecDepth 100000 in
set_option maxHeartbeats 2000000 in
theorem ptell_any (p : Pn) (deep : Nat) (hdeep : deep ≤ 8) (ht32 : p.type < 4294967296) (hv : VVOk p.v) (w : World) (hK : Kinds w)
    (hput : ∀ W, Below w.heap.size w W → Calls Tryd.prog 44 #[.slice p.adr p.sub.list.length p.cap, .int .i64 (deep + 1)] W (BPost (p.sub.put (deep + 1)) W)) :
    Calls Tryd.prog 71 #[p.agg, .int .i64 deep] w (BPost (p.tell deep) w) := by
  have hbad := fun W => badly_any p W
  have hah := fun W => ahead_any p ht32 W
  obtain ⟨q, hq⟩ : ∃ q, p.tell deep = q := ⟨_, rfl⟩
  rw [hq]
  unfold Pn.tell at hq
  obtain ⟨sb, hsb⟩ : ∃ s, p.sub.put (deep + 1) = s := ⟨_, rfl⟩
  rw [hsb] at hq hput
  unfold BPost at hput
  obtain ⟨sb, se⟩ := sb
  simp only at hput
  have hHok := pahead_ok ht32 p.null
  have hHl := pahead_len p.type p.null
  obtain ⟨H, hH⟩ : ∃ H, pahead p.type p.null = H := ⟨_, rfl⟩
  unfold ptell at hq
  rw [hH] at hah hHok hHl hq
  have hBX : BoxP (w.alloc (Obj.cells #[.string p.key, .int .u32 p.type, .bool p.null, .int .i64 p.v.k, .int .u64 p.v.n, .string p.v.s, .slice p.adr p.sub.list.length p.cap] 82)) w.heap.size p := World.alloc_heap_new w _
  have hE0 := (Below.refl w.heap.size w).alloc (Nat.le_refl _) (Obj.cells #[.string p.key, .int .u32 p.type, .bool p.null, .int .i64 p.v.k, .int .u64 p.v.n, .string p.v.s, .slice p.adr p.sub.list.length p.cap] 82)
  clear hsb hH ht32
  obtain ⟨key, type, null, ⟨k, n, s⟩, adr, cap, sub⟩ := p
  have hvn := hv.2.2
  unfold Pn.agg at *
  simp only at *
  generalize sub.list.length = L at *
  generalize pbad ⟨k, n, s⟩ L = bad at *
  obtain ⟨M, hM⟩ : ∃ M, H.length = M := ⟨_, rfl⟩
  rw [hM] at hah hHl
  have HM := Lib.hid hM
  have HOK := Lib.hid hHok
  have HQ := Lib.hid hq
  have HBX := Lib.hid hBX
  have HV := Lib.hid hv
  clear hM hHok hq hBX hv
  go_enter Tryd.func71, Tryd.ntmps71
  go_wp2_with fail
  refine (hbad _).mono ?_
  rintro e w1 ⟨rfl, hB1⟩
  have HX1 : Hid (w1.heap[w.heap.size]? = (w.alloc (Obj.cells #[.string key, .int .u32 type, .bool null, .int .i64 k, .int .u64 n, .string s, .slice adr L cap] 82)).heap[w.heap.size]?) := Lib.hid (hB1.block _ (by simp))
  have hW1 := bel_step' hE0 (Nat.le_refl _) hB1
  have hX1 : w1.heap[w.heap.size]? = some (.cells #[.string key, .int .u32 type, .bool null, .int .i64 k, .int .u64 n, .string s, .slice adr L cap] 82 (0, 0)) := HX1.out.trans (World.alloc_heap_new w _)
  have hlt1 : w.heap.size < w1.heap.size := (Array.getElem?_eq_some_iff.1 hX1).1
  clear hbad hE0 hB1 HX1 HBX
  cases bad
  case true =>
    have hq : q = ([], 4) := by rw [← HQ.out, if_pos rfl]
    have HQ2 := Lib.hid hq
    clear hq HQ hah hput hX1 hlt1
    go_wp2_with fail
    go_ret2
    exact bpost_err HQ2.out hW1
  have pcells : ∀ W : World, W.heap[w.heap.size]? = some (.cells #[.string key, .int .u32 type, .bool null, .int .i64 k, .int .u64 n, .string s, .slice adr L cap] 82 (0, 0)) →
      W.cell? ⟨w.heap.size, 0, none⟩ = some (.string key) ∧ W.cell? ⟨w.heap.size, 1, none⟩ = some (.int .u32 type) ∧ W.cell? ⟨w.heap.size, 2, none⟩ = some (.bool null) ∧ W.cell? ⟨w.heap.size, 3, none⟩ = some (.int .i64 k) ∧ W.cell? ⟨w.heap.size, 4, none⟩ = some (.int .u64 n) ∧ W.cell? ⟨w.heap.size, 5, none⟩ = some (.string s) ∧ W.cell? ⟨w.heap.size, 6, none⟩ = some (.slice adr L cap) := by
    intro W h
    refine ⟨?_, ?_, ?_, ?_, ?_, ?_, ?_⟩ <;> (simp only [World.cell?, h]; rfl)
  have HPC := Lib.hid pcells
  clear pcells
  obtain ⟨x0, x1, x2, x3, x4, x5, x6⟩ := HPC.out w1 hX1
  go_wp2_with fail
  refine (hah _).mono ?_
  rintro e w2 ⟨A2, c2, rfl, ho2, hB2⟩
  have hX2 := (hB2.block _ hlt1).trans hX1
  have hlt2 := Nat.lt_of_lt_of_le hlt1 hB2.size
  have hW2 := bel_step hW1 hB2
  have ho2b := own_base ho2 hW1.size
  have hK2 := hK.below hW2 hK.pos
  clear hah x0 x1 x2 x3 x4 x5 x6 hX1 hlt1 ho2 hB2
  obtain ⟨x0, x1, x2, x3, x4, x5, x6⟩ := HPC.out w2 hX2
  by_cases hk : k = 8
  · subst hk
    have hdi : (deep : Int) ≤ 8 := by omega
    have HQ2 : Hid ((if se = 0 then wput (H ++ [⟨9, 2, 0, ⟨sb.toArray⟩⟩]) else ([], se)) = q) := Lib.hid (by have := HQ.out; rwa [if_neg (by decide), if_pos rfl] at this)
    clear HQ
    go_wp2_with fail
    refine (hput _ hW2).mono ?_
    rintro e w3 ⟨A3, c3, rfl, ho3, hB3⟩
    have ho2c := own_kept ho2b hB3 (Nat.le_refl _)
    have hW3 := bel_step hW2 hB3
    clear hput x0 x1 x2 x3 x4 x5 x6 ho2b hX2 hlt2 hB3
    by_cases he : se = 0
    · subst he
      have hs3 := strB (Rd.of_own ho3) rfl c3
      have HQ3 : Hid (wput (H ++ [⟨9, 2, 0, ⟨sb.toArray⟩⟩]) = q) := Lib.hid (by have := HQ2.out; rwa [if_pos rfl] at this)
      have htx := ptext_any 9 ⟨sb.toArray⟩ w3
      unfold Fld.cells at htx
      clear ho3 HQ2
      go_wp2_with fail
      refine htx.mono ?_
      rintro e w4 ⟨rfl, hB4⟩
      have ho4 := own_kept ho2c hB4 (Nat.le_refl _)
      have hW4 := bel_step hW3 hB4
      have hs4 := hW4.size
      clear htx hs3 ho2c hB4
      go_wp2_with (at_builtin; refine wpList_appF1 rfl _ _ rfl rfl ho4 ⟨9, 2, 0, ⟨sb.toArray⟩⟩ rfl (by simp) (by omega) hs4 ?_; intro A5 c5 w5 ho5 hg5; have hW5 := own_grown hW4 ho4 hs4 hg5; clear hg5 ho4)
      have hpl := playd_any (H ++ [⟨9, 2, 0, ⟨sb.toArray⟩⟩]) A5 c5 (by rw [List.length_append, HM.out]; simp; omega) (by
        intro f hf
        rcases List.mem_append.1 hf with hf | hf
        · exact HOK.out f hf
        · obtain rfl : f = _ := by simpa using hf
          exact ⟨by simp, by simp, by simp⟩) w5 (Rd.of_own ho5)
      rw [HQ3.out, List.length_append, HM.out] at hpl
      refine hpl.mono ?_
      rintro e w6 ⟨A6, c6, rfl, ho6, hB6⟩
      clear hpl
      go_wp2_with fail
      go_ret2
      exact ⟨A6, c6, rfl, own_base ho6 hW5.size, bel_step hW5 hB6⟩
    · have hbe : (se != 0) = true := by simpa using he
      have HQ3 : Hid (q = ([], se)) := Lib.hid (by have := HQ2.out; rw [if_neg he] at this; exact this.symm)
      clear HQ2 he ho3
      go_wp2_with fail
      go_ret2
      exact bpost_err HQ3.out hW3
  · have hbk : (k == 8) = false := by simpa using hk
    obtain ⟨vl, hvl⟩ : ∃ l, vfls k n s 3 false = l := ⟨_, rfl⟩
    obtain ⟨er, her⟩ : ∃ er, verr k n s.toList.isEmpty 3 false = er := ⟨_, rfl⟩
    have hvput := vput_any k n s 3 false (by omega) (by omega) w2 hK2
    unfold PutPost at hvput
    have HQ2 : Hid ((if er = 0 then wput (H ++ vl) else ([], er)) = q) := Lib.hid (by have := HQ.out; rwa [if_neg (by decide), if_neg hk, hvl, her] at this)
    have hvlen := vfls_len k n s 3 false
    rw [hvl, her] at hvput
    rw [hvl] at hvlen
    have HVOK : Hid (er = 0 → ∀ f ∈ vl, FldOk f) := Lib.hid (fun h => by rw [← hvl]; exact (vfls_ok hvn (her.trans h)).2.1)
    clear HQ hvl her hk hput
    obtain ⟨vm, hvm⟩ : ∃ m, vl.length = m := ⟨_, rfl⟩
    rw [hvm] at hvput hvlen
    have HVM := Lib.hid hvm
    clear hvm
    go_wp2_with fail
    refine hvput.mono ?_
    rintro e w3 ⟨A3, c3, rfl, hc3, hc4, hr3, hB3⟩
    have ho2c := own_kept ho2b hB3 (Nat.le_refl _)
    have hW3 := bel_step hW2 hB3
    clear hvput x0 x1 x2 x3 x4 x5 x6 ho2b hX2 hlt2 hB3
    by_cases he : er = 0
    · subst he
      have HQ3 : Hid (wput (H ++ vl) = q) := Lib.hid (by have := HQ2.out; rwa [if_pos rfl] at this)
      have hs3 := hW3.size
      clear HQ2
      go_wp2_with (at_builtin; refine wpList_appF rfl _ _ rfl rfl ho2c rfl hr3 HVM.out (M + vm) rfl (by omega) hs3 ?_; intro A5 c5 w5 ho5 hg5; have hW5 := own_grown hW3 ho2c hs3 hg5; clear hg5 ho2c)
      have hpl := playd_any (H ++ vl) A5 c5 (by rw [List.length_append, HM.out, HVM.out]; omega) (by
        intro f hf
        rcases List.mem_append.1 hf with hf | hf
        · exact HOK.out f hf
        · exact HVOK.out (by first | rfl | trivial) f hf) w5 (Rd.of_own ho5)
      rw [HQ3.out, List.length_append, HM.out, HVM.out] at hpl
      refine hpl.mono ?_
      rintro e w6 ⟨A6, c6, rfl, ho6, hB6⟩
      clear hpl
      go_wp2_with fail
      go_ret2
      exact ⟨A6, c6, rfl, own_base ho6 hW5.size, bel_step hW5 hB6⟩
    · have hbe : (er != 0) = true := by simpa using he
      have HQ3 : Hid (q = ([], er)) := Lib.hid (by have := HQ2.out; rw [if_neg he] at this; exact this.symm)
      clear HQ2 he hr3
      go_wp2_with fail
      go_ret2
      exact bpost_err HQ3.out hW3
end Go.Proofs.YtlgokfgbcohioaaDoor
