/- WALK: crierref07.bytesOf (printed by genpprt.py) -/
import Derived.Test.YtlgokfgbcohioaaDoorPpTM
import Derived.Test.YtlgokfgbcohioaaDoorK3
import Derived.Test.YtlgokfgbcohioaaDoorK1
import Derived.Test.YtlgokfgbcohioaaDoorK5
namespace Go.Proofs.YtlgokfgbcohioaaDoor
open Go.RowKit Plain

theorem rplayd_any (l : List Fld) (A : Option Addr) (c : Nat) (hl : l.length ≤ 9223372036854775807) (hwf : ∀ f ∈ l, FldOk f) (w : World) (hr : Rd w w.heap.size A (flc l)) :
    Calls Tryd.prog 39 #[.slice A l.length c] w (BPost (wput l) w) := rputs_any l A c hl hwf w hr
theorem pahead_00 : pahead 0 false = [] := rfl
theorem pahead_01 : pahead 0 true = [⟨2, 0, 1, ⟨#[]⟩⟩] := rfl
theorem pahead_10 {t : Nat} (h : ¬ t = 0) : pahead t false = [⟨1, 0, t, ⟨#[]⟩⟩] := by simp [pahead, h]
theorem pahead_11 {t : Nat} (h : ¬ t = 0) : pahead t true = [⟨1, 0, t, ⟨#[]⟩⟩, ⟨2, 0, 1, ⟨#[]⟩⟩] := by simp [pahead, h]
/-- the box of a property -/
def InP (W : World) (B : Nat) (key : ByteArray) (type : Nat) (null : Bool) (k : Int) (n : Nat) (s : ByteArray) (adr : Option Addr) (L cap : Nat) : Prop := W.heap[B]? = some (.cells #[.string key, .int .u32 type, .bool null, .int .i64 k, .int .u64 n, .string s, .slice adr L cap] 82 (0, 0))
section
variable {W W' : World} {B : Nat} {key : ByteArray} {type : Nat} {null : Bool} {k : Int} {n : Nat} {s : ByteArray} {adr : Option Addr} {L cap : Nat}
theorem InP.lt (h : InP W B key type null k n s adr L cap) : B < W.heap.size := (Array.getElem?_eq_some_iff.1 h).1
theorem InP.below (h : InP W B key type null k n s adr L cap) (hb : Below W.heap.size W W') : InP W' B key type null k n s adr L cap := (hb.block B h.lt).trans h
theorem InP.cells (h : InP W B key type null k n s adr L cap) : W.cell? ⟨B, 0, none⟩ = some (.string key) ∧ W.cell? ⟨B, 1, none⟩ = some (.int .u32 type) ∧ W.cell? ⟨B, 2, none⟩ = some (.bool null) ∧ W.cell? ⟨B, 3, none⟩ = some (.int .i64 k) ∧ W.cell? ⟨B, 4, none⟩ = some (.int .u64 n) ∧ W.cell? ⟨B, 5, none⟩ = some (.string s) ∧ W.cell? ⟨B, 6, none⟩ = some (.slice adr L cap) := by
  refine ⟨?_, ?_, ?_, ?_, ?_, ?_, ?_⟩ <;> (simp only [World.cell?, show W.heap[B]? = _ from h]; rfl)
theorem InP.apart {base m c : Nat} {A : Option Addr} {xs : List Value} (ho : W.ownsRow base 73 4 (.slice A m c) m xs) (h : InP W B key type null k n s adr L cap) : (Value.slice A m c).ownBlock ≠ some B := own_ne ho (by decide) h
theorem InP.other {row : Option Nat} (h : InP W B key type null k n s adr L cap) (hne : row ≠ some B) (hg : W.grownBy W' row) : InP W' B key type null k n s adr L cap := (hg.block B h.lt (fun e => hne e.symm)).trans h
end
set_option maxRecDepth 100000 in
set_option maxHeartbeats 4000000 in
theorem rtell_set (key : ByteArray) (type : Nat) (null : Bool) (k : Int) (n : Nat) (s : ByteArray) (adr : Option Addr) (cap L deep : Nat) (hdeep : deep ≤ 8) (ht32 : type < 4294967296) (w : World) (q : List UInt8 × Int) (sb : List UInt8) (se : Int) (hk : k = 8) (hn : n = 0) (hse : s.toList.isEmpty = true)
    (hput : ∀ W, Below w.heap.size w W → Calls Tryd.prog 45 #[.slice adr L cap, .int .i64 (deep + 1)] W (BPost (sb, se) W))
    (hq : (if se = 0 then wput (pahead type null ++ [⟨9, 2, 0, ⟨sb.toArray⟩⟩]) else ([], se)) = q) :
    Calls Tryd.prog 74 #[.agg #[.string key, .int .u32 type, .bool null, .int .i64 k, .int .u64 n, .string s, .slice adr L cap], .int .i64 deep] w (BPost q w) := by
  have hHok := pahead_ok ht32 null
  have hX0 : InP (w.alloc (Obj.cells #[.string key, .int .u32 type, .bool null, .int .i64 k, .int .u64 n, .string s, .slice adr L cap] 82)) w.heap.size key type null k n s adr L cap := World.alloc_heap_new w _
  have hW0 := (Below.refl w.heap.size w).alloc (Nat.le_refl _) (Obj.cells #[.string key, .int .u32 type, .bool null, .int .i64 k, .int .u64 n, .string s, .slice adr L cap] 82)
  have hs0 := hW0.size
  have ho0 := World.ownsRow_nil (w.alloc (Obj.cells #[.string key, .int .u32 type, .bool null, .int .i64 k, .int .u64 n, .string s, .slice adr L cap] 82)) w.heap.size 73 4
  subst hk hn
  have hse2 : s.toList = [] := by simpa using hse
  have hdi : (deep : Int) ≤ 8 := by omega
  unfold BPost at hput
  simp only at hput
  by_cases ht : type = 0
  · subst ht
    cases null
    · rw [pahead_00] at hq hHok
      have HQ := Lib.hid hq
      have HOK := Lib.hid hHok
      clear hq hHok
      go_enter Tryd.func74, Tryd.ntmps74
      go_wp2_with fail
      have ho5 : World.ownsRow _ w.heap.size 73 4 _ 0 (flc []) := ho0
      have hW5 := hW0
      have hX5 := hX0
      clear ho0 hX0
      refine (hput _ hW5).mono ?_
      rintro e w7 ⟨A7, c7, rfl, ho7, hB7⟩
      have ho8 := own_kept ho5 hB7 (Nat.le_refl _)
      have hW8 := bel_step hW5 hB7
      clear hput hX5 ho5 hW5 hB7
      by_cases he : se = 0
      · subst he
        have hs7 := strB (Rd.of_own ho7) rfl c7
        have HQ3 : Hid (wput ([] ++ [⟨9, 2, 0, ⟨sb.toArray⟩⟩]) = q) := Lib.hid (by have := HQ.out; rwa [if_pos rfl] at this)
        have hsz := hW8.size
        clear ho7 HQ
        go_wp2_with (at_builtin; refine wpList_appF1 rfl _ _ rfl rfl ho8 ⟨9, 2, 0, ⟨sb.toArray⟩⟩ rfl (by simp) (by omega) hsz ?_; intro A9 c9 w9 ho9 hg9; have hW9 := own_grown hW8 ho8 hsz hg9; clear hg9 ho8)
        have hpl := rplayd_any ([] ++ [⟨9, 2, 0, ⟨sb.toArray⟩⟩]) A9 c9 (by simp) (by
          intro f hf
          rcases List.mem_append.1 hf with hf | hf
          · exact HOK.out f hf
          · obtain rfl : f = _ := by simpa using hf
            exact ⟨by simp, by simp, by simp⟩) w9 (Rd.of_own ho9)
        rw [HQ3.out] at hpl
        refine Calls.mono (show Calls Tryd.prog 39 #[.slice A9 1 c9] w9 (BPost q w9) from hpl) ?_
        rintro e w6 ⟨A6, c6, rfl, ho6, hB6⟩
        clear hpl
        go_wp2_with fail
        go_ret2
        exact ⟨A6, c6, rfl, own_base ho6 hW9.size, bel_step hW9 hB6⟩
      · have hbe : (se != 0) = true := by simpa using he
        have HQ3 : Hid (q = ([], se)) := Lib.hid (by have := HQ.out; rw [if_neg he] at this; exact this.symm)
        clear HQ he ho7
        go_wp2_with fail
        go_ret2
        exact bpost_err HQ3.out hW8
    · rw [pahead_01] at hq hHok
      have HQ := Lib.hid hq
      have HOK := Lib.hid hHok
      clear hq hHok
      go_enter Tryd.func74, Tryd.ntmps74
      go_wp2_with (at_builtin; refine wpList_appF1 (l := []) rfl _ _ rfl rfl ho0 ⟨2, 0, 1, ⟨#[]⟩⟩ rfl (by simp) (by omega) hs0 ?_; intro A2 c2 w2 ho2 hg2; have hW2 := own_grown hW0 ho0 hs0 hg2; have hX2 := InP.other hX0 (InP.apart ho0 hX0) hg2; obtain ⟨x0, x1, x2, x3, x4, x5, x6⟩ := hX2.cells; clear hg2 ho0)
      have ho5 : World.ownsRow _ w.heap.size 73 4 _ 1 (flc [⟨2, 0, 1, ⟨#[]⟩⟩]) := ho2
      have hW5 := hW2
      have hX5 := hX2
      clear ho2 hX2
      refine (hput _ hW5).mono ?_
      rintro e w7 ⟨A7, c7, rfl, ho7, hB7⟩
      have ho8 := own_kept ho5 hB7 (Nat.le_refl _)
      have hW8 := bel_step hW5 hB7
      clear hput hX5 ho5 hW5 hB7
      by_cases he : se = 0
      · subst he
        have hs7 := strB (Rd.of_own ho7) rfl c7
        have HQ3 : Hid (wput ([⟨2, 0, 1, ⟨#[]⟩⟩] ++ [⟨9, 2, 0, ⟨sb.toArray⟩⟩]) = q) := Lib.hid (by have := HQ.out; rwa [if_pos rfl] at this)
        have hsz := hW8.size
        clear ho7 HQ
        go_wp2_with (at_builtin; refine wpList_appF1 rfl _ _ rfl rfl ho8 ⟨9, 2, 0, ⟨sb.toArray⟩⟩ rfl (by simp) (by omega) hsz ?_; intro A9 c9 w9 ho9 hg9; have hW9 := own_grown hW8 ho8 hsz hg9; clear hg9 ho8)
        have hpl := rplayd_any ([⟨2, 0, 1, ⟨#[]⟩⟩] ++ [⟨9, 2, 0, ⟨sb.toArray⟩⟩]) A9 c9 (by simp) (by
          intro f hf
          rcases List.mem_append.1 hf with hf | hf
          · exact HOK.out f hf
          · obtain rfl : f = _ := by simpa using hf
            exact ⟨by simp, by simp, by simp⟩) w9 (Rd.of_own ho9)
        rw [HQ3.out] at hpl
        refine Calls.mono (show Calls Tryd.prog 39 #[.slice A9 2 c9] w9 (BPost q w9) from hpl) ?_
        rintro e w6 ⟨A6, c6, rfl, ho6, hB6⟩
        clear hpl
        go_wp2_with fail
        go_ret2
        exact ⟨A6, c6, rfl, own_base ho6 hW9.size, bel_step hW9 hB6⟩
      · have hbe : (se != 0) = true := by simpa using he
        have HQ3 : Hid (q = ([], se)) := Lib.hid (by have := HQ.out; rw [if_neg he] at this; exact this.symm)
        clear HQ he ho7
        go_wp2_with fail
        go_ret2
        exact bpost_err HQ3.out hW8
  · have hbt : ((type : Int) != 0) = true := by simp; omega
    cases null
    · rw [pahead_10 ht] at hq hHok
      have HQ := Lib.hid hq
      have HOK := Lib.hid hHok
      clear hq hHok ht
      go_enter Tryd.func74, Tryd.ntmps74
      go_wp2_with (at_builtin; refine wpList_appF1 (l := []) rfl _ _ rfl rfl ho0 ⟨1, 0, type, ⟨#[]⟩⟩ rfl (by simp) (by omega) hs0 ?_; intro A1 c1 w1 ho1 hg1; have hW1 := own_grown hW0 ho0 hs0 hg1; have hs1 := hW1.size; have hX1 := InP.other hX0 (InP.apart ho0 hX0) hg1; obtain ⟨x0, x1, x2, x3, x4, x5, x6⟩ := hX1.cells; clear hg1 ho0)
      have ho5 : World.ownsRow _ w.heap.size 73 4 _ 1 (flc [⟨1, 0, type, ⟨#[]⟩⟩]) := ho1
      have hW5 := hW1
      have hX5 := hX1
      clear ho1 hX1
      refine (hput _ hW5).mono ?_
      rintro e w7 ⟨A7, c7, rfl, ho7, hB7⟩
      have ho8 := own_kept ho5 hB7 (Nat.le_refl _)
      have hW8 := bel_step hW5 hB7
      clear hput hX5 ho5 hW5 hB7
      by_cases he : se = 0
      · subst he
        have hs7 := strB (Rd.of_own ho7) rfl c7
        have HQ3 : Hid (wput ([⟨1, 0, type, ⟨#[]⟩⟩] ++ [⟨9, 2, 0, ⟨sb.toArray⟩⟩]) = q) := Lib.hid (by have := HQ.out; rwa [if_pos rfl] at this)
        have hsz := hW8.size
        clear ho7 HQ
        go_wp2_with (at_builtin; refine wpList_appF1 rfl _ _ rfl rfl ho8 ⟨9, 2, 0, ⟨sb.toArray⟩⟩ rfl (by simp) (by omega) hsz ?_; intro A9 c9 w9 ho9 hg9; have hW9 := own_grown hW8 ho8 hsz hg9; clear hg9 ho8)
        have hpl := rplayd_any ([⟨1, 0, type, ⟨#[]⟩⟩] ++ [⟨9, 2, 0, ⟨sb.toArray⟩⟩]) A9 c9 (by simp) (by
          intro f hf
          rcases List.mem_append.1 hf with hf | hf
          · exact HOK.out f hf
          · obtain rfl : f = _ := by simpa using hf
            exact ⟨by simp, by simp, by simp⟩) w9 (Rd.of_own ho9)
        rw [HQ3.out] at hpl
        refine Calls.mono (show Calls Tryd.prog 39 #[.slice A9 2 c9] w9 (BPost q w9) from hpl) ?_
        rintro e w6 ⟨A6, c6, rfl, ho6, hB6⟩
        clear hpl
        go_wp2_with fail
        go_ret2
        exact ⟨A6, c6, rfl, own_base ho6 hW9.size, bel_step hW9 hB6⟩
      · have hbe : (se != 0) = true := by simpa using he
        have HQ3 : Hid (q = ([], se)) := Lib.hid (by have := HQ.out; rw [if_neg he] at this; exact this.symm)
        clear HQ he ho7
        go_wp2_with fail
        go_ret2
        exact bpost_err HQ3.out hW8
    · rw [pahead_11 ht] at hq hHok
      have HQ := Lib.hid hq
      have HOK := Lib.hid hHok
      clear hq hHok ht
      go_enter Tryd.func74, Tryd.ntmps74
      go_wp2_with (at_builtin; first
        | (refine wpList_appF1 (l := []) rfl _ _ rfl rfl ho0 ⟨1, 0, type, ⟨#[]⟩⟩ rfl (by simp) (by omega) hs0 ?_; intro A1 c1 w1 ho1 hg1; have hW1 := own_grown hW0 ho0 hs0 hg1; have hs1 := hW1.size; have hX1 := InP.other hX0 (InP.apart ho0 hX0) hg1; obtain ⟨x0, x1, x2, x3, x4, x5, x6⟩ := hX1.cells; clear hg1 ho0)
        | (refine wpList_appF1 rfl _ _ rfl rfl ho1 ⟨2, 0, 1, ⟨#[]⟩⟩ rfl (by simp) (by omega) hs1 ?_; intro A2 c2 w2 ho2 hg2; have hW2 := own_grown hW1 ho1 hs1 hg2; have hX2 := InP.other hX1 (InP.apart ho1 hX1) hg2; clear x0 x1 x2 x3 x4 x5 x6; obtain ⟨x0, x1, x2, x3, x4, x5, x6⟩ := hX2.cells; clear hg2 ho1))
      have ho5 : World.ownsRow _ w.heap.size 73 4 _ 2 (flc [⟨1, 0, type, ⟨#[]⟩⟩, ⟨2, 0, 1, ⟨#[]⟩⟩]) := ho2
      have hW5 := hW2
      have hX5 := hX2
      clear ho2 hX2
      refine (hput _ hW5).mono ?_
      rintro e w7 ⟨A7, c7, rfl, ho7, hB7⟩
      have ho8 := own_kept ho5 hB7 (Nat.le_refl _)
      have hW8 := bel_step hW5 hB7
      clear hput hX5 ho5 hW5 hB7
      by_cases he : se = 0
      · subst he
        have hs7 := strB (Rd.of_own ho7) rfl c7
        have HQ3 : Hid (wput ([⟨1, 0, type, ⟨#[]⟩⟩, ⟨2, 0, 1, ⟨#[]⟩⟩] ++ [⟨9, 2, 0, ⟨sb.toArray⟩⟩]) = q) := Lib.hid (by have := HQ.out; rwa [if_pos rfl] at this)
        have hsz := hW8.size
        clear ho7 HQ
        go_wp2_with (at_builtin; refine wpList_appF1 rfl _ _ rfl rfl ho8 ⟨9, 2, 0, ⟨sb.toArray⟩⟩ rfl (by simp) (by omega) hsz ?_; intro A9 c9 w9 ho9 hg9; have hW9 := own_grown hW8 ho8 hsz hg9; clear hg9 ho8)
        have hpl := rplayd_any ([⟨1, 0, type, ⟨#[]⟩⟩, ⟨2, 0, 1, ⟨#[]⟩⟩] ++ [⟨9, 2, 0, ⟨sb.toArray⟩⟩]) A9 c9 (by simp) (by
          intro f hf
          rcases List.mem_append.1 hf with hf | hf
          · exact HOK.out f hf
          · obtain rfl : f = _ := by simpa using hf
            exact ⟨by simp, by simp, by simp⟩) w9 (Rd.of_own ho9)
        rw [HQ3.out] at hpl
        refine Calls.mono (show Calls Tryd.prog 39 #[.slice A9 3 c9] w9 (BPost q w9) from hpl) ?_
        rintro e w6 ⟨A6, c6, rfl, ho6, hB6⟩
        clear hpl
        go_wp2_with fail
        go_ret2
        exact ⟨A6, c6, rfl, own_base ho6 hW9.size, bel_step hW9 hB6⟩
      · have hbe : (se != 0) = true := by simpa using he
        have HQ3 : Hid (q = ([], se)) := Lib.hid (by have := HQ.out; rw [if_neg he] at this; exact this.symm)
        clear HQ he ho7
        go_wp2_with fail
        go_ret2
        exact bpost_err HQ3.out hW8
set_option maxRecDepth 100000 in
set_option maxHeartbeats 4000000 in
theorem rtell_val (key : ByteArray) (type : Nat) (null : Bool) (k : Int) (n : Nat) (s : ByteArray) (adr : Option Addr) (cap L deep : Nat) (_hdeep : deep ≤ 8) (ht32 : type < 4294967296) (w : World) (q : List UInt8 × Int) (hn64 : n < 18446744073709551616) (hk : ¬ k = 8) (hL : L = 0)
    (hq : (if verr k n s.toList.isEmpty 3 false = 0 then wput (pahead type null ++ vfls k n s 3 false) else ([], verr k n s.toList.isEmpty 3 false)) = q) :
    Calls Tryd.prog 74 #[.agg #[.string key, .int .u32 type, .bool null, .int .i64 k, .int .u64 n, .string s, .slice adr L cap], .int .i64 deep] w (BPost q w) := by
  have hHok := pahead_ok ht32 null
  have hX0 : InP (w.alloc (Obj.cells #[.string key, .int .u32 type, .bool null, .int .i64 k, .int .u64 n, .string s, .slice adr L cap] 82)) w.heap.size key type null k n s adr L cap := World.alloc_heap_new w _
  have hW0 := (Below.refl w.heap.size w).alloc (Nat.le_refl _) (Obj.cells #[.string key, .int .u32 type, .bool null, .int .i64 k, .int .u64 n, .string s, .slice adr L cap] 82)
  have hs0 := hW0.size
  have ho0 := World.ownsRow_nil (w.alloc (Obj.cells #[.string key, .int .u32 type, .bool null, .int .i64 k, .int .u64 n, .string s, .slice adr L cap] 82)) w.heap.size 73 4
  subst hL
  have hbk : (k == 8) = false := by simpa using hk
  have hbk2 : (k != 8) = true := by simpa using hk
  have hvlen := vfls_len k n s 3 false
  have hvok : verr k n s.toList.isEmpty 3 false = 0 → ∀ f ∈ vfls k n s 3 false, FldOk f := fun h => (vfls_ok hn64 h).2.1
  have hvput := fun W => rvalput_any k n s 3 false hn64 W
  unfold PutPost at hvput
  obtain ⟨vl, hvl⟩ : ∃ l, vfls k n s 3 false = l := ⟨_, rfl⟩
  obtain ⟨er, her⟩ : ∃ er, verr k n s.toList.isEmpty 3 false = er := ⟨_, rfl⟩
  rw [hvl, her] at hvput hvok hq
  rw [hvl] at hvlen
  obtain ⟨vm, hvm⟩ : ∃ m, vl.length = m := ⟨_, rfl⟩
  rw [hvm] at hvput hvlen
  have HVOK := Lib.hid hvok
  have HVM := Lib.hid hvm
  clear hvl her hvm hvok hk
  by_cases ht : type = 0
  · subst ht
    cases null
    · rw [pahead_00] at hq hHok
      have HQ := Lib.hid hq
      have HOK := Lib.hid hHok
      clear hq hHok
      go_enter Tryd.func74, Tryd.ntmps74
      go_wp2_with fail
      have ho5 : World.ownsRow _ w.heap.size 73 4 _ 0 (flc []) := ho0
      have hW5 := hW0
      have hX5 := hX0
      clear ho0 hX0
      refine (hvput _).mono ?_
      rintro e w7 ⟨A7, c7, rfl, hc7, hd7, hr7, hB7⟩
      have ho8 := own_kept ho5 hB7 (Nat.le_refl _)
      have hW8 := bel_step hW5 hB7
      clear hvput hX5 ho5 hW5 hB7
      by_cases he : er = 0
      · subst he
        have HQ3 : Hid (wput ([] ++ vl) = q) := Lib.hid (by have := HQ.out; rwa [if_pos rfl] at this)
        have hsz := hW8.size
        obtain ⟨T, hT⟩ : ∃ T, 0 + vm = T := ⟨_, rfl⟩
        have hTb : T ≤ 10 := by omega
        have HTT := Lib.hid hT
        clear HQ hT
        go_wp2_with (at_builtin; refine wpList_appF rfl _ _ rfl rfl ho8 rfl hr7 HVM.out T HTT.out (by omega) hsz ?_; intro A9 c9 w9 ho9 hg9; have hW9 := own_grown hW8 ho8 hsz hg9; clear hg9 ho8)
        have hpl := rplayd_any ([] ++ vl) A9 c9 (by rw [List.length_append, HVM.out]; simp; omega) (by
          intro f hf
          rcases List.mem_append.1 hf with hf | hf
          · exact HOK.out f hf
          · exact HVOK.out (by first | rfl | trivial) f hf) w9 (Rd.of_own ho9)
        rw [HQ3.out, show ([] ++ vl : List Fld).length = T by rw [List.length_append, HVM.out]; exact HTT.out] at hpl
        refine hpl.mono ?_
        rintro e w6 ⟨A6, c6, rfl, ho6, hB6⟩
        clear hpl
        go_wp2_with fail
        go_ret2
        exact ⟨A6, c6, rfl, own_base ho6 hW9.size, bel_step hW9 hB6⟩
      · have hbe : (er != 0) = true := by simpa using he
        have HQ3 : Hid (q = ([], er)) := Lib.hid (by have := HQ.out; rw [if_neg he] at this; exact this.symm)
        clear HQ he hr7
        go_wp2_with fail
        go_ret2
        exact bpost_err HQ3.out hW8
    · rw [pahead_01] at hq hHok
      have HQ := Lib.hid hq
      have HOK := Lib.hid hHok
      clear hq hHok
      go_enter Tryd.func74, Tryd.ntmps74
      go_wp2_with (at_builtin; refine wpList_appF1 (l := []) rfl _ _ rfl rfl ho0 ⟨2, 0, 1, ⟨#[]⟩⟩ rfl (by simp) (by omega) hs0 ?_; intro A2 c2 w2 ho2 hg2; have hW2 := own_grown hW0 ho0 hs0 hg2; have hX2 := InP.other hX0 (InP.apart ho0 hX0) hg2; obtain ⟨x0, x1, x2, x3, x4, x5, x6⟩ := hX2.cells; clear hg2 ho0)
      have ho5 : World.ownsRow _ w.heap.size 73 4 _ 1 (flc [⟨2, 0, 1, ⟨#[]⟩⟩]) := ho2
      have hW5 := hW2
      have hX5 := hX2
      clear ho2 hX2
      refine (hvput _).mono ?_
      rintro e w7 ⟨A7, c7, rfl, hc7, hd7, hr7, hB7⟩
      have ho8 := own_kept ho5 hB7 (Nat.le_refl _)
      have hW8 := bel_step hW5 hB7
      clear hvput hX5 ho5 hW5 hB7
      by_cases he : er = 0
      · subst he
        have HQ3 : Hid (wput ([⟨2, 0, 1, ⟨#[]⟩⟩] ++ vl) = q) := Lib.hid (by have := HQ.out; rwa [if_pos rfl] at this)
        have hsz := hW8.size
        obtain ⟨T, hT⟩ : ∃ T, 1 + vm = T := ⟨_, rfl⟩
        have hTb : T ≤ 10 := by omega
        have HTT := Lib.hid hT
        clear HQ hT
        go_wp2_with (at_builtin; refine wpList_appF rfl _ _ rfl rfl ho8 rfl hr7 HVM.out T HTT.out (by omega) hsz ?_; intro A9 c9 w9 ho9 hg9; have hW9 := own_grown hW8 ho8 hsz hg9; clear hg9 ho8)
        have hpl := rplayd_any ([⟨2, 0, 1, ⟨#[]⟩⟩] ++ vl) A9 c9 (by rw [List.length_append, HVM.out]; simp; omega) (by
          intro f hf
          rcases List.mem_append.1 hf with hf | hf
          · exact HOK.out f hf
          · exact HVOK.out (by first | rfl | trivial) f hf) w9 (Rd.of_own ho9)
        rw [HQ3.out, show ([⟨2, 0, 1, ⟨#[]⟩⟩] ++ vl : List Fld).length = T by rw [List.length_append, HVM.out]; exact HTT.out] at hpl
        refine hpl.mono ?_
        rintro e w6 ⟨A6, c6, rfl, ho6, hB6⟩
        clear hpl
        go_wp2_with fail
        go_ret2
        exact ⟨A6, c6, rfl, own_base ho6 hW9.size, bel_step hW9 hB6⟩
      · have hbe : (er != 0) = true := by simpa using he
        have HQ3 : Hid (q = ([], er)) := Lib.hid (by have := HQ.out; rw [if_neg he] at this; exact this.symm)
        clear HQ he hr7
        go_wp2_with fail
        go_ret2
        exact bpost_err HQ3.out hW8
  · have hbt : ((type : Int) != 0) = true := by simp; omega
    cases null
    · rw [pahead_10 ht] at hq hHok
      have HQ := Lib.hid hq
      have HOK := Lib.hid hHok
      clear hq hHok ht
      go_enter Tryd.func74, Tryd.ntmps74
      go_wp2_with (at_builtin; refine wpList_appF1 (l := []) rfl _ _ rfl rfl ho0 ⟨1, 0, type, ⟨#[]⟩⟩ rfl (by simp) (by omega) hs0 ?_; intro A1 c1 w1 ho1 hg1; have hW1 := own_grown hW0 ho0 hs0 hg1; have hs1 := hW1.size; have hX1 := InP.other hX0 (InP.apart ho0 hX0) hg1; obtain ⟨x0, x1, x2, x3, x4, x5, x6⟩ := hX1.cells; clear hg1 ho0)
      have ho5 : World.ownsRow _ w.heap.size 73 4 _ 1 (flc [⟨1, 0, type, ⟨#[]⟩⟩]) := ho1
      have hW5 := hW1
      have hX5 := hX1
      clear ho1 hX1
      refine (hvput _).mono ?_
      rintro e w7 ⟨A7, c7, rfl, hc7, hd7, hr7, hB7⟩
      have ho8 := own_kept ho5 hB7 (Nat.le_refl _)
      have hW8 := bel_step hW5 hB7
      clear hvput hX5 ho5 hW5 hB7
      by_cases he : er = 0
      · subst he
        have HQ3 : Hid (wput ([⟨1, 0, type, ⟨#[]⟩⟩] ++ vl) = q) := Lib.hid (by have := HQ.out; rwa [if_pos rfl] at this)
        have hsz := hW8.size
        obtain ⟨T, hT⟩ : ∃ T, 1 + vm = T := ⟨_, rfl⟩
        have hTb : T ≤ 10 := by omega
        have HTT := Lib.hid hT
        clear HQ hT
        go_wp2_with (at_builtin; refine wpList_appF rfl _ _ rfl rfl ho8 rfl hr7 HVM.out T HTT.out (by omega) hsz ?_; intro A9 c9 w9 ho9 hg9; have hW9 := own_grown hW8 ho8 hsz hg9; clear hg9 ho8)
        have hpl := rplayd_any ([⟨1, 0, type, ⟨#[]⟩⟩] ++ vl) A9 c9 (by rw [List.length_append, HVM.out]; simp; omega) (by
          intro f hf
          rcases List.mem_append.1 hf with hf | hf
          · exact HOK.out f hf
          · exact HVOK.out (by first | rfl | trivial) f hf) w9 (Rd.of_own ho9)
        rw [HQ3.out, show ([⟨1, 0, type, ⟨#[]⟩⟩] ++ vl : List Fld).length = T by rw [List.length_append, HVM.out]; exact HTT.out] at hpl
        refine hpl.mono ?_
        rintro e w6 ⟨A6, c6, rfl, ho6, hB6⟩
        clear hpl
        go_wp2_with fail
        go_ret2
        exact ⟨A6, c6, rfl, own_base ho6 hW9.size, bel_step hW9 hB6⟩
      · have hbe : (er != 0) = true := by simpa using he
        have HQ3 : Hid (q = ([], er)) := Lib.hid (by have := HQ.out; rw [if_neg he] at this; exact this.symm)
        clear HQ he hr7
        go_wp2_with fail
        go_ret2
        exact bpost_err HQ3.out hW8
    · rw [pahead_11 ht] at hq hHok
      have HQ := Lib.hid hq
      have HOK := Lib.hid hHok
      clear hq hHok ht
      go_enter Tryd.func74, Tryd.ntmps74
      go_wp2_with (at_builtin; first
        | (refine wpList_appF1 (l := []) rfl _ _ rfl rfl ho0 ⟨1, 0, type, ⟨#[]⟩⟩ rfl (by simp) (by omega) hs0 ?_; intro A1 c1 w1 ho1 hg1; have hW1 := own_grown hW0 ho0 hs0 hg1; have hs1 := hW1.size; have hX1 := InP.other hX0 (InP.apart ho0 hX0) hg1; obtain ⟨x0, x1, x2, x3, x4, x5, x6⟩ := hX1.cells; clear hg1 ho0)
        | (refine wpList_appF1 rfl _ _ rfl rfl ho1 ⟨2, 0, 1, ⟨#[]⟩⟩ rfl (by simp) (by omega) hs1 ?_; intro A2 c2 w2 ho2 hg2; have hW2 := own_grown hW1 ho1 hs1 hg2; have hX2 := InP.other hX1 (InP.apart ho1 hX1) hg2; clear x0 x1 x2 x3 x4 x5 x6; obtain ⟨x0, x1, x2, x3, x4, x5, x6⟩ := hX2.cells; clear hg2 ho1))
      have ho5 : World.ownsRow _ w.heap.size 73 4 _ 2 (flc [⟨1, 0, type, ⟨#[]⟩⟩, ⟨2, 0, 1, ⟨#[]⟩⟩]) := ho2
      have hW5 := hW2
      have hX5 := hX2
      clear ho2 hX2
      refine (hvput _).mono ?_
      rintro e w7 ⟨A7, c7, rfl, hc7, hd7, hr7, hB7⟩
      have ho8 := own_kept ho5 hB7 (Nat.le_refl _)
      have hW8 := bel_step hW5 hB7
      clear hvput hX5 ho5 hW5 hB7
      by_cases he : er = 0
      · subst he
        have HQ3 : Hid (wput ([⟨1, 0, type, ⟨#[]⟩⟩, ⟨2, 0, 1, ⟨#[]⟩⟩] ++ vl) = q) := Lib.hid (by have := HQ.out; rwa [if_pos rfl] at this)
        have hsz := hW8.size
        obtain ⟨T, hT⟩ : ∃ T, 2 + vm = T := ⟨_, rfl⟩
        have hTb : T ≤ 10 := by omega
        have HTT := Lib.hid hT
        clear HQ hT
        go_wp2_with (at_builtin; refine wpList_appF rfl _ _ rfl rfl ho8 rfl hr7 HVM.out T HTT.out (by omega) hsz ?_; intro A9 c9 w9 ho9 hg9; have hW9 := own_grown hW8 ho8 hsz hg9; clear hg9 ho8)
        have hpl := rplayd_any ([⟨1, 0, type, ⟨#[]⟩⟩, ⟨2, 0, 1, ⟨#[]⟩⟩] ++ vl) A9 c9 (by rw [List.length_append, HVM.out]; simp; omega) (by
          intro f hf
          rcases List.mem_append.1 hf with hf | hf
          · exact HOK.out f hf
          · exact HVOK.out (by first | rfl | trivial) f hf) w9 (Rd.of_own ho9)
        rw [HQ3.out, show ([⟨1, 0, type, ⟨#[]⟩⟩, ⟨2, 0, 1, ⟨#[]⟩⟩] ++ vl : List Fld).length = T by rw [List.length_append, HVM.out]; exact HTT.out] at hpl
        refine hpl.mono ?_
        rintro e w6 ⟨A6, c6, rfl, ho6, hB6⟩
        clear hpl
        go_wp2_with fail
        go_ret2
        exact ⟨A6, c6, rfl, own_base ho6 hW9.size, bel_step hW9 hB6⟩
      · have hbe : (er != 0) = true := by simpa using he
        have HQ3 : Hid (q = ([], er)) := Lib.hid (by have := HQ.out; rw [if_neg he] at this; exact this.symm)
        clear HQ he hr7
        go_wp2_with fail
        go_ret2
        exact bpost_err HQ3.out hW8
end Go.Proofs.YtlgokfgbcohioaaDoor
