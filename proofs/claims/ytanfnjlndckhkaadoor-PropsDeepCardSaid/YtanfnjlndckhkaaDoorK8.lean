/- Several texts in one: words, plain laws and walks that the statement's proof imports. -/
import Derived.Test.YtanfnjlndckhkaaDoorK7
import Derived.Test.YtanfnjlndckhkaaDoorK5
import Derived.Test.YtanfnjlndckhkaaDoorK1
import Derived.Test.YtanfnjlndckhkaaDoorK4
import Derived.Test.YtanfnjlndckhkaaDoorK3
import Derived.Laws.ResultCell
import Derived.Test.YtanfnjlndckhkaaDoorK6
import Derived.StillTailTactics
/- WALK: crierref07.bytesOf (printed by genpprt.py) -/
namespace Go.Proofs.YtanfnjlndckhkaaDoor
open Go.RowKit Plain

theorem rplayd_any (l : List Fld) (A : Option Addr) (c : Nat) (hl : l.length ≤ 9223372036854775807) (hwf : ∀ f ∈ l, FldOk f) (w : World) (hr : Rd w w.heap.size A (flc l)) :
    Calls Tryd.prog 32 #[.slice A l.length c] w (BPost (wput l) w) := rputs_any l A c hl hwf w hr
theorem pahead_00 : pahead 0 false = [] := rfl
theorem pahead_01 : pahead 0 true = [⟨2, 0, 1, ⟨#[]⟩⟩] := rfl
theorem pahead_10 {t : Nat} (h : ¬ t = 0) : pahead t false = [⟨1, 0, t, ⟨#[]⟩⟩] := by simp [pahead, h]
theorem pahead_11 {t : Nat} (h : ¬ t = 0) : pahead t true = [⟨1, 0, t, ⟨#[]⟩⟩, ⟨2, 0, 1, ⟨#[]⟩⟩] := by simp [pahead, h]
/-- the box of a property -/
def InP (W : World) (B : Nat) (key : ByteArray) (type : Nat) (null : Bool) (k : Int) (n : Nat) (s : ByteArray) (adr : Option Addr) (L cap : Nat) : Prop := W.heap[B]? = some (.cells #[.string key, .int .u32 type, .bool null, .int .i64 k, .int .u64 n, .string s, .slice adr L cap] 75 (0, 0))
section
variable {W W' : World} {B : Nat} {key : ByteArray} {type : Nat} {null : Bool} {k : Int} {n : Nat} {s : ByteArray} {adr : Option Addr} {L cap : Nat}
theorem InP.lt (h : InP W B key type null k n s adr L cap) : B < W.heap.size := (Array.getElem?_eq_some_iff.1 h).1
theorem InP.below (h : InP W B key type null k n s adr L cap) (hb : Below W.heap.size W W') : InP W' B key type null k n s adr L cap := (hb.block B h.lt).trans h
theorem InP.cells (h : InP W B key type null k n s adr L cap) : W.cell? ⟨B, 0, none⟩ = some (.string key) ∧ W.cell? ⟨B, 1, none⟩ = some (.int .u32 type) ∧ W.cell? ⟨B, 2, none⟩ = some (.bool null) ∧ W.cell? ⟨B, 3, none⟩ = some (.int .i64 k) ∧ W.cell? ⟨B, 4, none⟩ = some (.int .u64 n) ∧ W.cell? ⟨B, 5, none⟩ = some (.string s) ∧ W.cell? ⟨B, 6, none⟩ = some (.slice adr L cap) := by
  refine ⟨?_, ?_, ?_, ?_, ?_, ?_, ?_⟩ <;> (simp only [World.cell?, show W.heap[B]? = _ from h]; rfl)
theorem InP.apart {base m c : Nat} {A : Option Addr} {xs : List Value} (ho : W.ownsRow base 64 4 (.slice A m c) m xs) (h : InP W B key type null k n s adr L cap) : (Value.slice A m c).ownBlock ≠ some B := own_ne ho (by decide) h
theorem InP.other {row : Option Nat} (h : InP W B key type null k n s adr L cap) (hne : row ≠ some B) (hg : W.grownBy W' row) : InP W' B key type null k n s adr L cap := (hg.block B h.lt (fun e => hne e.symm)).trans h
end
set_option maxRecDepth 100000 in
set_option maxHeartbeats 4000000 in
theorem rtell_set (key : ByteArray) (type : Nat) (null : Bool) (k : Int) (n : Nat) (s : ByteArray) (adr : Option Addr) (cap L deep : Nat) (hdeep : deep ≤ 8) (ht32 : type < 4294967296) (w : World) (q : List UInt8 × Int) (sb : List UInt8) (se : Int) (hk : k = 8) (hn : n = 0) (hse : s.toList.isEmpty = true)
    (hput : ∀ W, Below w.heap.size w W → Calls Tryd.prog 39 #[.slice adr L cap, .int .i64 (deep + 1)] W (BPost (sb, se) W))
    (hq : (if se = 0 then wput (pahead type null ++ [⟨9, 2, 0, ⟨sb.toArray⟩⟩]) else ([], se)) = q) :
    Calls Tryd.prog 64 #[.agg #[.string key, .int .u32 type, .bool null, .int .i64 k, .int .u64 n, .string s, .slice adr L cap], .int .i64 deep] w (BPost q w) := by
  have hHok := pahead_ok ht32 null
  have hX0 : InP (w.alloc (Obj.cells #[.string key, .int .u32 type, .bool null, .int .i64 k, .int .u64 n, .string s, .slice adr L cap] 75)) w.heap.size key type null k n s adr L cap := World.alloc_heap_new w _
  have hW0 := (Below.refl w.heap.size w).alloc (Nat.le_refl _) (Obj.cells #[.string key, .int .u32 type, .bool null, .int .i64 k, .int .u64 n, .string s, .slice adr L cap] 75)
  have hs0 := hW0.size
  have ho0 := World.ownsRow_nil (w.alloc (Obj.cells #[.string key, .int .u32 type, .bool null, .int .i64 k, .int .u64 n, .string s, .slice adr L cap] 75)) w.heap.size 64 4
  subst hk hn
  have hse2 : s.toList = [] := by simpa using hse
  have hdi : (deep : Int) ≤ 8 := by omega
  unfold BPost at hput
  simp only at hput
  by_cases ht : type = 0
  · subst ht
    cases null
    · rw [pahead_00] at hq hHok
      have HQ := Lib.hid hq
      have HOK := Lib.hid hHok
      clear hq hHok
      go_enter Tryd.func64, Tryd.ntmps64
      go_wp2_with fail
      have ho5 : World.ownsRow _ w.heap.size 64 4 _ 0 (flc []) := ho0
      have hW5 := hW0
      have hX5 := hX0
      clear ho0 hX0
      refine (hput _ hW5).mono ?_
      rintro e w7 ⟨A7, c7, rfl, ho7, hB7⟩
      have ho8 := own_kept ho5 hB7 (Nat.le_refl _)
      have hW8 := bel_step hW5 hB7
      clear hput hX5 ho5 hW5 hB7
      by_cases he : se = 0
      · subst he
        have hs7 := strB (Rd.of_own ho7) rfl c7
        have HQ3 : Hid (wput ([] ++ [⟨9, 2, 0, ⟨sb.toArray⟩⟩]) = q) := Lib.hid (by have := HQ.out; rwa [if_pos rfl] at this)
        have hsz := hW8.size
        clear ho7 HQ
        go_wp2_with (at_builtin; refine wpList_appF1 rfl _ _ rfl rfl ho8 ⟨9, 2, 0, ⟨sb.toArray⟩⟩ rfl (by simp) (by omega) hsz ?_; intro A9 c9 w9 ho9 hg9; have hW9 := own_grown hW8 ho8 hsz hg9; clear hg9 ho8)
        have hpl := rplayd_any ([] ++ [⟨9, 2, 0, ⟨sb.toArray⟩⟩]) A9 c9 (by simp) (by
          intro f hf
          rcases List.mem_append.1 hf with hf | hf
          · exact HOK.out f hf
          · obtain rfl : f = _ := by simpa using hf
            exact ⟨by simp, by simp, by simp⟩) w9 (Rd.of_own ho9)
        rw [HQ3.out] at hpl
        refine Calls.mono (show Calls Tryd.prog 32 #[.slice A9 1 c9] w9 (BPost q w9) from hpl) ?_
        rintro e w6 ⟨A6, c6, rfl, ho6, hB6⟩
        clear hpl
        go_wp2_with fail
        go_ret2
        exact ⟨A6, c6, rfl, own_base ho6 hW9.size, bel_step hW9 hB6⟩
      · have hbe : (se != 0) = true := by simpa using he
        have HQ3 : Hid (q = ([], se)) := Lib.hid (by have := HQ.out; rw [if_neg he] at this; exact this.symm)
        clear HQ he ho7
        go_wp2_with fail
        go_ret2
        exact bpost_err HQ3.out hW8
    · rw [pahead_01] at hq hHok
      have HQ := Lib.hid hq
      have HOK := Lib.hid hHok
      clear hq hHok
      go_enter Tryd.func64, Tryd.ntmps64
      go_wp2_with (at_builtin; refine wpList_appF1 (l := []) rfl _ _ rfl rfl ho0 ⟨2, 0, 1, ⟨#[]⟩⟩ rfl (by simp) (by omega) hs0 ?_; intro A2 c2 w2 ho2 hg2; have hW2 := own_grown hW0 ho0 hs0 hg2; have hX2 := InP.other hX0 (InP.apart ho0 hX0) hg2; obtain ⟨x0, x1, x2, x3, x4, x5, x6⟩ := hX2.cells; clear hg2 ho0)
      have ho5 : World.ownsRow _ w.heap.size 64 4 _ 1 (flc [⟨2, 0, 1, ⟨#[]⟩⟩]) := ho2
      have hW5 := hW2
      have hX5 := hX2
      clear ho2 hX2
      refine (hput _ hW5).mono ?_
      rintro e w7 ⟨A7, c7, rfl, ho7, hB7⟩
      have ho8 := own_kept ho5 hB7 (Nat.le_refl _)
      have hW8 := bel_step hW5 hB7
      clear hput hX5 ho5 hW5 hB7
      by_cases he : se = 0
      · subst he
        have hs7 := strB (Rd.of_own ho7) rfl c7
        have HQ3 : Hid (wput ([⟨2, 0, 1, ⟨#[]⟩⟩] ++ [⟨9, 2, 0, ⟨sb.toArray⟩⟩]) = q) := Lib.hid (by have := HQ.out; rwa [if_pos rfl] at this)
        have hsz := hW8.size
        clear ho7 HQ
        go_wp2_with (at_builtin; refine wpList_appF1 rfl _ _ rfl rfl ho8 ⟨9, 2, 0, ⟨sb.toArray⟩⟩ rfl (by simp) (by omega) hsz ?_; intro A9 c9 w9 ho9 hg9; have hW9 := own_grown hW8 ho8 hsz hg9; clear hg9 ho8)
        have hpl := rplayd_any ([⟨2, 0, 1, ⟨#[]⟩⟩] ++ [⟨9, 2, 0, ⟨sb.toArray⟩⟩]) A9 c9 (by simp) (by
          intro f hf
          rcases List.mem_append.1 hf with hf | hf
          · exact HOK.out f hf
          · obtain rfl : f = _ := by simpa using hf
            exact ⟨by simp, by simp, by simp⟩) w9 (Rd.of_own ho9)
        rw [HQ3.out] at hpl
        refine Calls.mono (show Calls Tryd.prog 32 #[.slice A9 2 c9] w9 (BPost q w9) from hpl) ?_
        rintro e w6 ⟨A6, c6, rfl, ho6, hB6⟩
        clear hpl
        go_wp2_with fail
        go_ret2
        exact ⟨A6, c6, rfl, own_base ho6 hW9.size, bel_step hW9 hB6⟩
      · have hbe : (se != 0) = true := by simpa using he
        have HQ3 : Hid (q = ([], se)) := Lib.hid (by have := HQ.out; rw [if_neg he] at this; exact this.symm)
        clear HQ he ho7
        go_wp2_with fail
        go_ret2
        exact bpost_err HQ3.out hW8
  · have hbt : ((type : Int) != 0) = true := by simp; omega
    cases null
    · rw [pahead_10 ht] at hq hHok
      have HQ := Lib.hid hq
      have HOK := Lib.hid hHok
      clear hq hHok ht
      go_enter Tryd.func64, Tryd.ntmps64
      go_wp2_with (at_builtin; refine wpList_appF1 (l := []) rfl _ _ rfl rfl ho0 ⟨1, 0, type, ⟨#[]⟩⟩ rfl (by simp) (by omega) hs0 ?_; intro A1 c1 w1 ho1 hg1; have hW1 := own_grown hW0 ho0 hs0 hg1; have hs1 := hW1.size; have hX1 := InP.other hX0 (InP.apart ho0 hX0) hg1; obtain ⟨x0, x1, x2, x3, x4, x5, x6⟩ := hX1.cells; clear hg1 ho0)
      have ho5 : World.ownsRow _ w.heap.size 64 4 _ 1 (flc [⟨1, 0, type, ⟨#[]⟩⟩]) := ho1
      have hW5 := hW1
      have hX5 := hX1
      clear ho1 hX1
      refine (hput _ hW5).mono ?_
      rintro e w7 ⟨A7, c7, rfl, ho7, hB7⟩
      have ho8 := own_kept ho5 hB7 (Nat.le_refl _)
      have hW8 := bel_step hW5 hB7
      clear hput hX5 ho5 hW5 hB7
      by_cases he : se = 0
      · subst he
        have hs7 := strB (Rd.of_own ho7) rfl c7
        have HQ3 : Hid (wput ([⟨1, 0, type, ⟨#[]⟩⟩] ++ [⟨9, 2, 0, ⟨sb.toArray⟩⟩]) = q) := Lib.hid (by have := HQ.out; rwa [if_pos rfl] at this)
        have hsz := hW8.size
        clear ho7 HQ
        go_wp2_with (at_builtin; refine wpList_appF1 rfl _ _ rfl rfl ho8 ⟨9, 2, 0, ⟨sb.toArray⟩⟩ rfl (by simp) (by omega) hsz ?_; intro A9 c9 w9 ho9 hg9; have hW9 := own_grown hW8 ho8 hsz hg9; clear hg9 ho8)
        have hpl := rplayd_any ([⟨1, 0, type, ⟨#[]⟩⟩] ++ [⟨9, 2, 0, ⟨sb.toArray⟩⟩]) A9 c9 (by simp) (by
          intro f hf
          rcases List.mem_append.1 hf with hf | hf
          · exact HOK.out f hf
          · obtain rfl : f = _ := by simpa using hf
            exact ⟨by simp, by simp, by simp⟩) w9 (Rd.of_own ho9)
        rw [HQ3.out] at hpl
        refine Calls.mono (show Calls Tryd.prog 32 #[.slice A9 2 c9] w9 (BPost q w9) from hpl) ?_
        rintro e w6 ⟨A6, c6, rfl, ho6, hB6⟩
        clear hpl
        go_wp2_with fail
        go_ret2
        exact ⟨A6, c6, rfl, own_base ho6 hW9.size, bel_step hW9 hB6⟩
      · have hbe : (se != 0) = true := by simpa using he
        have HQ3 : Hid (q = ([], se)) := Lib.hid (by have := HQ.out; rw [if_neg he] at this; exact this.symm)
        clear HQ he ho7
        go_wp2_with fail
        go_ret2
        exact bpost_err HQ3.out hW8
    · rw [pahead_11 ht] at hq hHok
      have HQ := Lib.hid hq
      have HOK := Lib.hid hHok
      clear hq hHok ht
      go_enter Tryd.func64, Tryd.ntmps64
      go_wp2_with (at_builtin; first
        | (refine wpList_appF1 (l := []) rfl _ _ rfl rfl ho0 ⟨1, 0, type, ⟨#[]⟩⟩ rfl (by simp) (by omega) hs0 ?_; intro A1 c1 w1 ho1 hg1; have hW1 := own_grown hW0 ho0 hs0 hg1; have hs1 := hW1.size; have hX1 := InP.other hX0 (InP.apart ho0 hX0) hg1; obtain ⟨x0, x1, x2, x3, x4, x5, x6⟩ := hX1.cells; clear hg1 ho0)
        | (refine wpList_appF1 rfl _ _ rfl rfl ho1 ⟨2, 0, 1, ⟨#[]⟩⟩ rfl (by simp) (by omega) hs1 ?_; intro A2 c2 w2 ho2 hg2; have hW2 := own_grown hW1 ho1 hs1 hg2; have hX2 := InP.other hX1 (InP.apart ho1 hX1) hg2; clear x0 x1 x2 x3 x4 x5 x6; obtain ⟨x0, x1, x2, x3, x4, x5, x6⟩ := hX2.cells; clear hg2 ho1))
      have ho5 : World.ownsRow _ w.heap.size 64 4 _ 2 (flc [⟨1, 0, type, ⟨#[]⟩⟩, ⟨2, 0, 1, ⟨#[]⟩⟩]) := ho2
      have hW5 := hW2
      have hX5 := hX2
      clear ho2 hX2
      refine (hput _ hW5).mono ?_
      rintro e w7 ⟨A7, c7, rfl, ho7, hB7⟩
      have ho8 := own_kept ho5 hB7 (Nat.le_refl _)
      have hW8 := bel_step hW5 hB7
      clear hput hX5 ho5 hW5 hB7
      by_cases he : se = 0
      · subst he
        have hs7 := strB (Rd.of_own ho7) rfl c7
        have HQ3 : Hid (wput ([⟨1, 0, type, ⟨#[]⟩⟩, ⟨2, 0, 1, ⟨#[]⟩⟩] ++ [⟨9, 2, 0, ⟨sb.toArray⟩⟩]) = q) := Lib.hid (by have := HQ.out; rwa [if_pos rfl] at this)
        have hsz := hW8.size
        clear ho7 HQ
        go_wp2_with (at_builtin; refine wpList_appF1 rfl _ _ rfl rfl ho8 ⟨9, 2, 0, ⟨sb.toArray⟩⟩ rfl (by simp) (by omega) hsz ?_; intro A9 c9 w9 ho9 hg9; have hW9 := own_grown hW8 ho8 hsz hg9; clear hg9 ho8)
        have hpl := rplayd_any ([⟨1, 0, type, ⟨#[]⟩⟩, ⟨2, 0, 1, ⟨#[]⟩⟩] ++ [⟨9, 2, 0, ⟨sb.toArray⟩⟩]) A9 c9 (by simp) (by
          intro f hf
          rcases List.mem_append.1 hf with hf | hf
          · exact HOK.out f hf
          · obtain rfl : f = _ := by simpa using hf
            exact ⟨by simp, by simp, by simp⟩) w9 (Rd.of_own ho9)
        rw [HQ3.out] at hpl
        refine Calls.mono (show Calls Tryd.prog 32 #[.slice A9 3 c9] w9 (BPost q w9) from hpl) ?_
        rintro e w6 ⟨A6, c6, rfl, ho6, hB6⟩
        clear hpl
        go_wp2_with fail
        go_ret2
        exact ⟨A6, c6, rfl, own_base ho6 hW9.size, bel_step hW9 hB6⟩
      · have hbe : (se != 0) = true := by simpa using he
        have HQ3 : Hid (q = ([], se)) := Lib.hid (by have := HQ.out; rw [if_neg he] at this; exact this.symm)
        clear HQ he ho7
        go_wp2_with fail
        go_ret2
        exact bpost_err HQ3.out hW8
set_option maxRecDepth 100000 in
set_option maxHeartbeats 4000000 in
theorem rtell_val (key : ByteArray) (type : Nat) (null : Bool) (k : Int) (n : Nat) (s : ByteArray) (adr : Option Addr) (cap L deep : Nat) (_hdeep : deep ≤ 8) (ht32 : type < 4294967296) (w : World) (q : List UInt8 × Int) (hn64 : n < 18446744073709551616) (hk : ¬ k = 8) (hL : L = 0)
    (hq : (if verr k n s.toList.isEmpty 3 false = 0 then wput (pahead type null ++ vfls k n s 3 false) else ([], verr k n s.toList.isEmpty 3 false)) = q) :
    Calls Tryd.prog 64 #[.agg #[.string key, .int .u32 type, .bool null, .int .i64 k, .int .u64 n, .string s, .slice adr L cap], .int .i64 deep] w (BPost q w) := by
  have hHok := pahead_ok ht32 null
  have hX0 : InP (w.alloc (Obj.cells #[.string key, .int .u32 type, .bool null, .int .i64 k, .int .u64 n, .string s, .slice adr L cap] 75)) w.heap.size key type null k n s adr L cap := World.alloc_heap_new w _
  have hW0 := (Below.refl w.heap.size w).alloc (Nat.le_refl _) (Obj.cells #[.string key, .int .u32 type, .bool null, .int .i64 k, .int .u64 n, .string s, .slice adr L cap] 75)
  have hs0 := hW0.size
  have ho0 := World.ownsRow_nil (w.alloc (Obj.cells #[.string key, .int .u32 type, .bool null, .int .i64 k, .int .u64 n, .string s, .slice adr L cap] 75)) w.heap.size 64 4
  subst hL
  have hbk : (k == 8) = false := by simpa using hk
  have hbk2 : (k != 8) = true := by simpa using hk
  have hvlen := vfls_len k n s 3 false
  have hvok : verr k n s.toList.isEmpty 3 false = 0 → ∀ f ∈ vfls k n s 3 false, FldOk f := fun h => (vfls_ok hn64 h).2.1
  have hvput := fun W => rvalput_any k n s 3 false hn64 W
  unfold PutPost at hvput
  obtain ⟨vl, hvl⟩ : ∃ l, vfls k n s 3 false = l := ⟨_, rfl⟩
  obtain ⟨er, her⟩ : ∃ er, verr k n s.toList.isEmpty 3 false = er := ⟨_, rfl⟩
  rw [hvl, her] at hvput hvok hq
  rw [hvl] at hvlen
  obtain ⟨vm, hvm⟩ : ∃ m, vl.length = m := ⟨_, rfl⟩
  rw [hvm] at hvput hvlen
  have HVOK := Lib.hid hvok
  have HVM := Lib.hid hvm
  clear hvl her hvm hvok hk
  by_cases ht : type = 0
  · subst ht
    cases null
    · rw [pahead_00] at hq hHok
      have HQ := Lib.hid hq
      have HOK := Lib.hid hHok
      clear hq hHok
      go_enter Tryd.func64, Tryd.ntmps64
      go_wp2_with fail
      have ho5 : World.ownsRow _ w.heap.size 64 4 _ 0 (flc []) := ho0
      have hW5 := hW0
      have hX5 := hX0
      clear ho0 hX0
      refine (hvput _).mono ?_
      rintro e w7 ⟨A7, c7, rfl, hc7, hd7, hr7, hB7⟩
      have ho8 := own_kept ho5 hB7 (Nat.le_refl _)
      have hW8 := bel_step hW5 hB7
      clear hvput hX5 ho5 hW5 hB7
      by_cases he : er = 0
      · subst he
        have HQ3 : Hid (wput ([] ++ vl) = q) := Lib.hid (by have := HQ.out; rwa [if_pos rfl] at this)
        have hsz := hW8.size
        obtain ⟨T, hT⟩ : ∃ T, 0 + vm = T := ⟨_, rfl⟩
        have hTb : T ≤ 10 := by omega
        have HTT := Lib.hid hT
        clear HQ hT
        go_wp2_with (at_builtin; refine wpList_appF rfl _ _ rfl rfl ho8 rfl hr7 HVM.out T HTT.out (by omega) hsz ?_; intro A9 c9 w9 ho9 hg9; have hW9 := own_grown hW8 ho8 hsz hg9; clear hg9 ho8)
        have hpl := rplayd_any ([] ++ vl) A9 c9 (by rw [List.length_append, HVM.out]; simp; omega) (by
          intro f hf
          rcases List.mem_append.1 hf with hf | hf
          · exact HOK.out f hf
          · exact HVOK.out (by first | rfl | trivial) f hf) w9 (Rd.of_own ho9)
        rw [HQ3.out, show ([] ++ vl : List Fld).length = T by rw [List.length_append, HVM.out]; exact HTT.out] at hpl
        refine hpl.mono ?_
        rintro e w6 ⟨A6, c6, rfl, ho6, hB6⟩
        clear hpl
        go_wp2_with fail
        go_ret2
        exact ⟨A6, c6, rfl, own_base ho6 hW9.size, bel_step hW9 hB6⟩
      · have hbe : (er != 0) = true := by simpa using he
        have HQ3 : Hid (q = ([], er)) := Lib.hid (by have := HQ.out; rw [if_neg he] at this; exact this.symm)
        clear HQ he hr7
        go_wp2_with fail
        go_ret2
        exact bpost_err HQ3.out hW8
    · rw [pahead_01] at hq hHok
      have HQ := Lib.hid hq
      have HOK := Lib.hid hHok
      clear hq hHok
      go_enter Tryd.func64, Tryd.ntmps64
      go_wp2_with (at_builtin; refine wpList_appF1 (l := []) rfl _ _ rfl rfl ho0 ⟨2, 0, 1, ⟨#[]⟩⟩ rfl (by simp) (by omega) hs0 ?_; intro A2 c2 w2 ho2 hg2; have hW2 := own_grown hW0 ho0 hs0 hg2; have hX2 := InP.other hX0 (InP.apart ho0 hX0) hg2; obtain ⟨x0, x1, x2, x3, x4, x5, x6⟩ := hX2.cells; clear hg2 ho0)
      have ho5 : World.ownsRow _ w.heap.size 64 4 _ 1 (flc [⟨2, 0, 1, ⟨#[]⟩⟩]) := ho2
      have hW5 := hW2
      have hX5 := hX2
      clear ho2 hX2
      refine (hvput _).mono ?_
      rintro e w7 ⟨A7, c7, rfl, hc7, hd7, hr7, hB7⟩
      have ho8 := own_kept ho5 hB7 (Nat.le_refl _)
      have hW8 := bel_step hW5 hB7
      clear hvput hX5 ho5 hW5 hB7
      by_cases he : er = 0
      · subst he
        have HQ3 : Hid (wput ([⟨2, 0, 1, ⟨#[]⟩⟩] ++ vl) = q) := Lib.hid (by have := HQ.out; rwa [if_pos rfl] at this)
        have hsz := hW8.size
        obtain ⟨T, hT⟩ : ∃ T, 1 + vm = T := ⟨_, rfl⟩
        have hTb : T ≤ 10 := by omega
        have HTT := Lib.hid hT
        clear HQ hT
        go_wp2_with (at_builtin; refine wpList_appF rfl _ _ rfl rfl ho8 rfl hr7 HVM.out T HTT.out (by omega) hsz ?_; intro A9 c9 w9 ho9 hg9; have hW9 := own_grown hW8 ho8 hsz hg9; clear hg9 ho8)
        have hpl := rplayd_any ([⟨2, 0, 1, ⟨#[]⟩⟩] ++ vl) A9 c9 (by rw [List.length_append, HVM.out]; simp; omega) (by
          intro f hf
          rcases List.mem_append.1 hf with hf | hf
          · exact HOK.out f hf
          · exact HVOK.out (by first | rfl | trivial) f hf) w9 (Rd.of_own ho9)
        rw [HQ3.out, show ([⟨2, 0, 1, ⟨#[]⟩⟩] ++ vl : List Fld).length = T by rw [List.length_append, HVM.out]; exact HTT.out] at hpl
        refine hpl.mono ?_
        rintro e w6 ⟨A6, c6, rfl, ho6, hB6⟩
        clear hpl
        go_wp2_with fail
        go_ret2
        exact ⟨A6, c6, rfl, own_base ho6 hW9.size, bel_step hW9 hB6⟩
      · have hbe : (er != 0) = true := by simpa using he
        have HQ3 : Hid (q = ([], er)) := Lib.hid (by have := HQ.out; rw [if_neg he] at this; exact this.symm)
        clear HQ he hr7
        go_wp2_with fail
        go_ret2
        exact bpost_err HQ3.out hW8
  · have hbt : ((type : Int) != 0) = true := by simp; omega
    cases null
    · rw [pahead_10 ht] at hq hHok
      have HQ := Lib.hid hq
      have HOK := Lib.hid hHok
      clear hq hHok ht
      go_enter Tryd.func64, Tryd.ntmps64
      go_wp2_with (at_builtin; refine wpList_appF1 (l := []) rfl _ _ rfl rfl ho0 ⟨1, 0, type, ⟨#[]⟩⟩ rfl (by simp) (by omega) hs0 ?_; intro A1 c1 w1 ho1 hg1; have hW1 := own_grown hW0 ho0 hs0 hg1; have hs1 := hW1.size; have hX1 := InP.other hX0 (InP.apart ho0 hX0) hg1; obtain ⟨x0, x1, x2, x3, x4, x5, x6⟩ := hX1.cells; clear hg1 ho0)
      have ho5 : World.ownsRow _ w.heap.size 64 4 _ 1 (flc [⟨1, 0, type, ⟨#[]⟩⟩]) := ho1
      have hW5 := hW1
      have hX5 := hX1
      clear ho1 hX1
      refine (hvput _).mono ?_
      rintro e w7 ⟨A7, c7, rfl, hc7, hd7, hr7, hB7⟩
      have ho8 := own_kept ho5 hB7 (Nat.le_refl _)
      have hW8 := bel_step hW5 hB7
      clear hvput hX5 ho5 hW5 hB7
      by_cases he : er = 0
      · subst he
        have HQ3 : Hid (wput ([⟨1, 0, type, ⟨#[]⟩⟩] ++ vl) = q) := Lib.hid (by have := HQ.out; rwa [if_pos rfl] at this)
        have hsz := hW8.size
        obtain ⟨T, hT⟩ : ∃ T, 1 + vm = T := ⟨_, rfl⟩
        have hTb : T ≤ 10 := by omega
        have HTT := Lib.hid hT
        clear HQ hT
        go_wp2_with (at_builtin; refine wpList_appF rfl _ _ rfl rfl ho8 rfl hr7 HVM.out T HTT.out (by omega) hsz ?_; intro A9 c9 w9 ho9 hg9; have hW9 := own_grown hW8 ho8 hsz hg9; clear hg9 ho8)
        have hpl := rplayd_any ([⟨1, 0, type, ⟨#[]⟩⟩] ++ vl) A9 c9 (by rw [List.length_append, HVM.out]; simp; omega) (by
          intro f hf
          rcases List.mem_append.1 hf with hf | hf
          · exact HOK.out f hf
          · exact HVOK.out (by first | rfl | trivial) f hf) w9 (Rd.of_own ho9)
        rw [HQ3.out, show ([⟨1, 0, type, ⟨#[]⟩⟩] ++ vl : List Fld).length = T by rw [List.length_append, HVM.out]; exact HTT.out] at hpl
        refine hpl.mono ?_
        rintro e w6 ⟨A6, c6, rfl, ho6, hB6⟩
        clear hpl
        go_wp2_with fail
        go_ret2
        exact ⟨A6, c6, rfl, own_base ho6 hW9.size, bel_step hW9 hB6⟩
      · have hbe : (er != 0) = true := by simpa using he
        have HQ3 : Hid (q = ([], er)) := Lib.hid (by have := HQ.out; rw [if_neg he] at this; exact this.symm)
        clear HQ he hr7
        go_wp2_with fail
        go_ret2
        exact bpost_err HQ3.out hW8
    · rw [pahead_11 ht] at hq hHok
      have HQ := Lib.hid hq
      have HOK := Lib.hid hHok
      clear hq hHok ht
      go_enter Tryd.func64, Tryd.ntmps64
      go_wp2_with (at_builtin; first
        | (refine wpList_appF1 (l := []) rfl _ _ rfl rfl ho0 ⟨1, 0, type, ⟨#[]⟩⟩ rfl (by simp) (by omega) hs0 ?_; intro A1 c1 w1 ho1 hg1; have hW1 := own_grown hW0 ho0 hs0 hg1; have hs1 := hW1.size; have hX1 := InP.other hX0 (InP.apart ho0 hX0) hg1; obtain ⟨x0, x1, x2, x3, x4, x5, x6⟩ := hX1.cells; clear hg1 ho0)
        | (refine wpList_appF1 rfl _ _ rfl rfl ho1 ⟨2, 0, 1, ⟨#[]⟩⟩ rfl (by simp) (by omega) hs1 ?_; intro A2 c2 w2 ho2 hg2; have hW2 := own_grown hW1 ho1 hs1 hg2; have hX2 := InP.other hX1 (InP.apart ho1 hX1) hg2; clear x0 x1 x2 x3 x4 x5 x6; obtain ⟨x0, x1, x2, x3, x4, x5, x6⟩ := hX2.cells; clear hg2 ho1))
      have ho5 : World.ownsRow _ w.heap.size 64 4 _ 2 (flc [⟨1, 0, type, ⟨#[]⟩⟩, ⟨2, 0, 1, ⟨#[]⟩⟩]) := ho2
      have hW5 := hW2
      have hX5 := hX2
      clear ho2 hX2
      refine (hvput _).mono ?_
      rintro e w7 ⟨A7, c7, rfl, hc7, hd7, hr7, hB7⟩
      have ho8 := own_kept ho5 hB7 (Nat.le_refl _)
      have hW8 := bel_step hW5 hB7
      clear hvput hX5 ho5 hW5 hB7
      by_cases he : er = 0
      · subst he
        have HQ3 : Hid (wput ([⟨1, 0, type, ⟨#[]⟩⟩, ⟨2, 0, 1, ⟨#[]⟩⟩] ++ vl) = q) := Lib.hid (by have := HQ.out; rwa [if_pos rfl] at this)
        have hsz := hW8.size
        obtain ⟨T, hT⟩ : ∃ T, 2 + vm = T := ⟨_, rfl⟩
        have hTb : T ≤ 10 := by omega
        have HTT := Lib.hid hT
        clear HQ hT
        go_wp2_with (at_builtin; refine wpList_appF rfl _ _ rfl rfl ho8 rfl hr7 HVM.out T HTT.out (by omega) hsz ?_; intro A9 c9 w9 ho9 hg9; have hW9 := own_grown hW8 ho8 hsz hg9; clear hg9 ho8)
        have hpl := rplayd_any ([⟨1, 0, type, ⟨#[]⟩⟩, ⟨2, 0, 1, ⟨#[]⟩⟩] ++ vl) A9 c9 (by rw [List.length_append, HVM.out]; simp; omega) (by
          intro f hf
          rcases List.mem_append.1 hf with hf | hf
          · exact HOK.out f hf
          · exact HVOK.out (by first | rfl | trivial) f hf) w9 (Rd.of_own ho9)
        rw [HQ3.out, show ([⟨1, 0, type, ⟨#[]⟩⟩, ⟨2, 0, 1, ⟨#[]⟩⟩] ++ vl : List Fld).length = T by rw [List.length_append, HVM.out]; exact HTT.out] at hpl
        refine hpl.mono ?_
        rintro e w6 ⟨A6, c6, rfl, ho6, hB6⟩
        clear hpl
        go_wp2_with fail
        go_ret2
        exact ⟨A6, c6, rfl, own_base ho6 hW9.size, bel_step hW9 hB6⟩
      · have hbe : (er != 0) = true := by simpa using he
        have HQ3 : Hid (q = ([], er)) := Lib.hid (by have := HQ.out; rw [if_neg he] at this; exact this.symm)
        clear HQ he hr7
        go_wp2_with fail
        go_ret2
        exact bpost_err HQ3.out hW8
end Go.Proofs.YtanfnjlndckhkaaDoor

/- WALK: props.read -/
namespace Go.Proofs.YtanfnjlndckhkaaDoor
open Go.RowKit Plain

/-- what the reading of a list answers -/
def POPost (q : Ps × Int) (w : World) (e : Ending) (w' : World) : Prop :=
  ∃ (l : Ps) (A : Option Addr) (c : Nat), e = .returned (.tuple #[.slice A l.list.length c, .int .i64 q.2]) ∧ l.AtS w' (fun k => w.heap.size ≤ k) A ∧ l.Ok ∧ l.list.length ≤ 1000 ∧ l.strip = q.1 ∧ Below w.heap.size w w'
theorem popost_err {q : Ps × Int} {w w' : World} {e : Int} (h : q = (.nil, e)) (hB : Below w.heap.size w w') : POPost q w (.returned (.tuple #[.slice none 0 0, .int .i64 e])) w' :=
  ⟨.nil, none, 0, by rw [h]; rfl, Ps.nil_atS _ _, trivial, Nat.zero_le _, by rw [h]; rfl, hB⟩
/-- what the reading of one property answers -/
def PRPost (q : Pn × Int) (w : World) (e : Ending) (w' : World) : Prop :=
  ∃ p : Pn, e = .returned (.tuple #[p.agg, .int .i64 q.2]) ∧ p.strip = q.1 ∧ p.Ok ∧ p.sub.list.length ≤ 1000 ∧ p.sub.AtS w' (fun k => w.heap.size ≤ k) p.adr ∧ Below w.heap.size w w'
theorem zero_okP : Pn.zero.Ok := ⟨by simp [Pn.zero], zero_rd.ok, by simp [Pn.zero, Ps.list], trivial⟩
theorem prpost_err {q : Pn × Int} {w w' : World} {e : Int} (h : q = (Pn.zero, e)) (hB : Below w.heap.size w w') : PRPost q w (.returned (.tuple #[.agg #[.string ⟨#[]⟩, .int .u32 0, .bool false, .int .i64 0, .int .u64 0, .string ⟨#[]⟩, .slice none 0 0], .int .i64 e])) w' :=
  ⟨Pn.zero, by rw [h]; rfl, by rw [h]; rfl, zero_okP, Nat.zero_le _, Ps.nil_atS _ _, hB⟩
theorem below_set7 {B R a b c d e f g : Nat} {w W : World} (h : Below B w W) (hB : B ≤ R) (v0 v1 v2 v3 v4 v5 v6 : Value) : Below B w (((((((W.setCell ⟨R, a, none⟩ v0).setCell ⟨R, b, none⟩ v1).setCell ⟨R, c, none⟩ v2).setCell ⟨R, d, none⟩ v3).setCell ⟨R, e, none⟩ v4).setCell ⟨R, f, none⟩ v5).setCell ⟨R, g, none⟩ v6) :=
  ((((((h.setCell (p := ⟨R, a, none⟩) hB _).setCell (p := ⟨R, b, none⟩) hB _).setCell (p := ⟨R, c, none⟩) hB _).setCell (p := ⟨R, d, none⟩) hB _).setCell (p := ⟨R, e, none⟩) hB _).setCell (p := ⟨R, f, none⟩) hB _).setCell (p := ⟨R, g, none⟩) hB _
theorem Ps.AtS.low {l : Ps} {W : World} {S : Nat → Prop} {A : Option Addr} {B i : Nat} (h : l.AtS W S A) (hne : ∀ b, S b → b ≠ B) (v : Value) : l.AtS (W.setCell ⟨B, i, none⟩ v) S A :=
  h.keep (fun b _ hb => heap_setCell_other W ⟨B, i, none⟩ b v (hne b hb)) (by simp) (fun _ _ h => h)
theorem Ps.AtS.to {l : Ps} {W : World} {S S' : Nat → Prop} {A : Option Addr} (h : l.AtS W S A) (hS : ∀ b, S b → S' b) : l.AtS W S' A := h.keep (fun _ _ _ => rfl) (Nat.le_refl _) (fun b _ hb => hS b hb)
theorem FoundAt.setS {W : World} {B : Nat} {key : ByteArray} {s : PSt} (h : FoundAt W B key s) (v : Value) : (W.setCell ⟨B, 6, none⟩ v).heap[B]? = some (.cells #[.string key, .int .u32 s.type, .bool s.null, .int .i64 s.v.k, .int .u64 s.v.n, .string s.v.s, v, .string s.set] 141 (0, 0)) := heap_setCell_same W B 6 _ _ _ h
set_option maxRecDepth 100000 in
set_option maxHeartbeats 8000000 in
theorem pread_any (key s : ByteArray) (hs : s.size ≤ 4096) (deep n : Nat) (hdeep : deep ≤ 8) (w : World) (hK : Kinds w)
    (hrec : ∀ (b : List UInt8) (A : Option Addr) (bn c : Nat) (W : World), b.length = bn → bn ≤ c → c ≤ 9223372036854775807 → Below w.heap.size w W → Rd W W.heap.size A (bcl b) → Calls Tryd.prog 46 #[.slice A bn c, .int .i64 (deep + 1)] W (POPost (pofn n b) W)) :
    Calls Tryd.prog 66 #[.string key, .string s, .int .i64 deep] w (PRPost (pitem (pofn n) key s) w) := by
  obtain ⟨q, hq⟩ : ∃ q, pitem (pofn n) key s = q := ⟨_, rfl⟩
  rw [hq]
  unfold pitem at hq
  have hX0 : InP (w.alloc (.cells #[.string ⟨#[]⟩, .int .u32 0, .bool false, .int .i64 0, .int .u64 0, .string ⟨#[]⟩, .slice none 0 0] 75)) w.heap.size ⟨#[]⟩ 0 false 0 0 ⟨#[]⟩ none 0 0 := World.alloc_heap_new w _
  have hE0 : Below w.heap.size w (w.alloc (.cells #[.string ⟨#[]⟩, .int .u32 0, .bool false, .int .i64 0, .int .u64 0, .string ⟨#[]⟩, .slice none 0 0] 75)) := (Below.refl _ w).alloc (Nat.le_refl _) _
  obtain ⟨c0, W0, hcv, hr0, hB0, hc0, hc1⟩ := run_bytes (w.alloc (.cells #[.string ⟨#[]⟩, .int .u32 0, .bool false, .int .i64 0, .int .u64 0, .string ⟨#[]⟩, .slice none 0 0] 75)) s
  have hof := of_any s.data.toList _ s.size c0 (by simp) hc0 (by have := hc1 (by unfold maxLen; omega); unfold maxLen at this; exact this) W0 hr0
  unfold OfPost at hof
  have hX00 := hX0.below hB0
  have hW0 := bel_step hE0 hB0
  have HRD := Lib.hid (wof_rd s.data.toList)
  have h256 := wof_256R s.data.toList
  obtain ⟨o, ho⟩ : ∃ o, wof s.data.toList = o := ⟨_, rfl⟩
  rw [ho] at hof hq HRD h256
  obtain ⟨l, er⟩ := o
  simp only at hof hq HRD h256
  have HQ := Lib.hid hq
  obtain ⟨m, hm⟩ : ∃ m, l.length = m := ⟨_, rfl⟩
  rw [hm] at hof h256
  have HM := Lib.hid hm
  have HREC := Lib.hid hrec
  clear ho hq hm hr0 hc0 hc1 hB0 hE0 hX0 hrec
  go_enter Tryd.func66, Tryd.ntmps66
  go_wp2_with fail
  rw [World.size_alloc] at hof
  refine hof.mono ?_
  rintro e w1 ⟨A1, c1, rfl, ho1, hB1⟩
  have hX1 := hX00.below hB1
  have hW1 := bel_step hW0 hB1
  clear hof hcv hB1 hX00 hW0
  by_cases he : er = 0
  rotate_left
  · have hbe : ((er : Int) != 0) = true := by simp; omega
    have HQ2 : Hid (q = (Pn.zero, (er : Int))) := Lib.hid (by have := HQ.out; rw [if_neg he] at this; exact this.symm)
    obtain ⟨x0, x1, x2, x3, x4, x5, x6⟩ := hX1.cells
    have hfz : ∀ i, w1.frozen? ⟨w.heap.size, i, none⟩ = false := fun i => by simp [World.frozen?, show w1.heap[w.heap.size]? = _ from hX1]
    have y0 := hfz 0
    have y1 := hfz 1
    have y2 := hfz 2
    have y3 := hfz 3
    have y4 := hfz 4
    have y5 := hfz 5
    have y6 := hfz 6
    clear he HQ ho1 hX1 hfz
    go_wp2_with fail
    refine bodyPost_ret (v := .tuple #[.agg #[.string ⟨#[]⟩, .int .u32 0, .bool false, .int .i64 0, .int .u64 0, .string ⟨#[]⟩, .slice none 0 0], .int .i64 (er : Int)]) ?_ rfl (prpost_err HQ2.out (below_set7 hW1 (Nat.le_refl _) _ _ _ _ _ _ _))
    rw [results_cell_tmp rfl]; go_simp
  subst he
  obtain ⟨t, ht⟩ : ∃ t, ptakes l PSt.zero = t := ⟨_, rfl⟩
  have htok := ptakes_ok l PSt.zero PSt.zero_ok HRD.out
  have HQ2 : Hid ((if t.2 = 0 then (if t.1.v.k = 8 then (if (pofn n t.1.set.data.toList).2 = 0 then ((⟨key, t.1.type, t.1.null, t.1.v, none, 0, (pofn n t.1.set.data.toList).1⟩ : Pn), 0) else (Pn.zero, (pofn n t.1.set.data.toList).2)) else (⟨key, t.1.type, t.1.null, t.1.v, none, 0, .nil⟩, 0)) else (Pn.zero, t.2)) = q) := Lib.hid (by
    have := HQ.out
    rwa [if_pos rfl, ht] at this)
  rw [ht] at htok
  have HT := Lib.hid ht
  have HTOK := Lib.hid htok
  have hr1 := Rd.of_own ho1
  have hF0 : FoundAt (w1.alloc (Obj.cells #[.string key, .int .u32 0, .bool false, .int .i64 0, .int .u64 0, .string ⟨#[]⟩, .slice none 0 0, .string ⟨#[]⟩] 141)) w1.heap.size key PSt.zero := World.alloc_heap_new w1 _
  have hE1 : Below w1.heap.size w1 (w1.alloc (Obj.cells #[.string key, .int .u32 0, .bool false, .int .i64 0, .int .u64 0, .string ⟨#[]⟩, .slice none 0 0, .string ⟨#[]⟩] 141)) := (Below.refl _ w1).alloc (Nat.le_refl _) _
  have hK1 := hK.below hW1 hK.pos
  have hwl := hX1.lt
  clear HQ ht htok ho1 hK
  go_wp2_with fail
  go_loopw [30] (fun i wr => ∃ (j : Nat) (st : PSt), i = .int .i64 j ∧ j ≤ m ∧ FoundAt wr w1.heap.size key st ∧ ptakes (l.drop j) st = t ∧ Below w1.heap.size w1 wr) (fun i _ => m - (intOf i).toNat)
  case atStart => exact ⟨0, PSt.zero, rfl, Nat.zero_le _, hF0, HT.out, hE1⟩
  case round =>
    clear hF0 hE1
    obtain ⟨j, st, rfl, hj, hF, hpt, hB⟩ := hrel
    have hsz := hB.size
    have HPT := Lib.hid hpt
    have hX := (hB.block _ hwl).trans hX1
    clear hpt
    by_cases hlt : j < m
    · obtain ⟨f, hf⟩ : ∃ f, l[j]? = some f := ⟨_, List.getElem?_eq_getElem (by rw [HM.out]; exact hlt)⟩
      obtain ⟨b1, o1, rfl, hb1, g0, g1, g2, g3⟩ := fld_at (hr1.below hB (Nat.le_refl _)) hf
      have hfrd := HRD.out f (List.mem_of_getElem? hf)
      have hbw := hB.alloc hsz (Obj.cells #[.int .i64 f.num, .int .i64 f.kind, .int .u64 f.val, .string f.text] 64)
      have htk := take_any f w1.heap.size key st hfrd (wr.alloc (Obj.cells #[.int .i64 f.num, .int .i64 f.kind, .int .u64 f.val, .string f.text] 64)) (hF.alloc _) (hK1.below hbw hK1.pos)
      have HSTEP : Hid ((if (ptake f st).2 = 0 then ptakes (l.drop (j + 1)) (ptake f st).1 else (PSt.zero, (ptake f st).2)) = t) := Lib.hid (by have := HPT.out; rwa [drop_cons hf, ptakes] at this)
      obtain ⟨tq, htq⟩ : ∃ d, ptake f st = d := ⟨_, rfl⟩
      rw [htq] at htk HSTEP
      obtain ⟨st2, te⟩ := tq
      obtain ⟨num, kind, val, text⟩ := f
      unfold Fld.agg at htk
      simp only at g0 g1 g2 g3 htk hbw HSTEP
      clear hf hfrd htq HPT
      go_wp2_with fail
      refine htk.mono ?_
      rintro e w2 ⟨rfl, hF2, hB2⟩
      have hB3 := hbw.trans hB2
      have HF2 := Lib.hid hF2
      clear htk hbw hB2 hF2 g0 g1 g2 g3
      by_cases h0 : te = 0
      · subst h0
        have HS2 : Hid (ptakes (l.drop (j + 1)) st2 = t) := Lib.hid (by have := HSTEP.out; rwa [if_pos rfl] at this)
        clear HSTEP
        go_wp2_with fail
        go_roundw
        case rel => exact ⟨j + 1, st2, by go_num, by omega, HF2.out (by first | rfl | trivial), HS2.out, hB3⟩
        case measure => simp [intOf]; omega
      · have hbe : (te != 0) = true := by simpa using h0
        have HQ3 : Hid (q = (Pn.zero, te)) := Lib.hid (by
          have h1 := HSTEP.out
          rw [if_neg h0] at h1
          rw [← HQ2.out, ← h1, if_neg h0])
        have hX2 : InP w2 w.heap.size ⟨#[]⟩ 0 false 0 0 ⟨#[]⟩ none 0 0 := (hB3.block _ hwl).trans hX1
        obtain ⟨x0, x1, x2, x3, x4, x5, x6⟩ := hX2.cells
        have hfz : ∀ i, w2.frozen? ⟨w.heap.size, i, none⟩ = false := fun i => by simp [World.frozen?, show w2.heap[w.heap.size]? = _ from hX2]
        have y0 := hfz 0
        have y1 := hfz 1
        have y2 := hfz 2
        have y3 := hfz 3
        have y4 := hfz 4
        have y5 := hfz 5
        have y6 := hfz 6
        have hW2 := bel_step hW1 hB3
        clear h0 HSTEP HF2 hX2 hfz hX hF
        go_wp2_with fail
        refine bodyPost_ret (v := .tuple #[.agg #[.string ⟨#[]⟩, .int .u32 0, .bool false, .int .i64 0, .int .u64 0, .string ⟨#[]⟩, .slice none 0 0], .int .i64 te]) ?_ rfl (prpost_err HQ3.out (below_set7 hW2 (Nat.le_refl _) _ _ _ _ _ _ _))
        rw [results_cell_tmp rfl]; go_simp
    · obtain rfl : j = m := by omega
      have hst : t = (st, 0) := by rw [← HPT.out, List.drop_eq_nil_of_le (by rw [HM.out]; exact Nat.le_refl _)]; rfl
      have hstok := HTOK.out
      rw [hst] at hstok
      have HQ3 : Hid ((if st.v.k = 8 then (if (pofn n st.set.data.toList).2 = 0 then ((⟨key, st.type, st.null, st.v, none, 0, (pofn n st.set.data.toList).1⟩ : Pn), 0) else (Pn.zero, (pofn n st.set.data.toList).2)) else (⟨key, st.type, st.null, st.v, none, 0, .nil⟩, 0)) = q) := Lib.hid (by
        have := HQ2.out
        rwa [hst, if_pos rfl] at this)
      obtain ⟨sty, snu, ⟨sk, sn, ss⟩, sset⟩ := st
      simp only at HQ3
      have HSOK := Lib.hid hstok
      have hWr := bel_step hW1 hB
      have hX' : InP wr w.heap.size ⟨#[]⟩ 0 false 0 0 ⟨#[]⟩ none 0 0 := hX
      obtain ⟨c0', c1', c2', c3', c4', c5', c6', c7'⟩ := hF.cells
      simp only at c1' c2' c3' c4' c5' c7'
      clear hst hstok HQ2 HPT hlt hX HTOK HT
      by_cases hk8 : sk = 8
      · subst hk8
        obtain ⟨cb, W5, hcv, hr5, hB5, hcb0, hcb1⟩ := run_bytes wr sset
        have hss := HSOK.out.set
        simp only at hss
        have hW5 := bel_step hWr hB5
        have hcall := HREC.out sset.data.toList (some ⟨wr.heap.size, 0, none⟩) sset.size cb W5 (by simp) hcb0 (by have := hcb1 (by unfold maxLen; omega); unfold maxLen at this; exact this) hW5 hr5
        unfold POPost at hcall
        have HQ4 : Hid ((if (pofn n sset.data.toList).2 = 0 then ((⟨key, sty, snu, ⟨8, sn, ss⟩, none, 0, (pofn n sset.data.toList).1⟩ : Pn), 0) else (Pn.zero, (pofn n sset.data.toList).2)) = q) := Lib.hid (by have := HQ3.out; rwa [if_pos rfl] at this)
        obtain ⟨⟨rl, re⟩, hrq⟩ : ∃ d, pofn n sset.data.toList = d := ⟨_, rfl⟩
        rw [hrq] at hcall HQ4
        simp only at hcall HQ4
        have hF5 := hF.below hB5
        have hX5 := hX'.below hB5
        have hwB : w.heap.size ≠ w1.heap.size := Nat.ne_of_lt hwl
        have hs5 := Nat.le_trans hsz hB5.size
        have hdi : (deep : Int) ≤ 8 := by omega
        have hw5l := hX5.lt
        have hF5l := hF5.lt
        clear hrq hr5 hcb0 hcb1 hB5 HQ3 hF hX' hss
        go_wp2_with fail
        refine hcall.mono ?_
        rintro e w6 ⟨l6, A6, c6, rfl, hat6, hok6, hlen6, hstr6, hB6⟩
        have hF6 := hF5.below hB6
        have hX6 := hX5.below hB6
        have hW6 := bel_step hW5 hB6
        have hS6 := hF6.setS (.slice A6 l6.list.length c6)
        obtain ⟨d0, d1, d2, d3, d4, d5, d6, d7⟩ := hF6.cells
        have z6 := hF6.frozen 6
        obtain ⟨x0, x1, x2, x3, x4, x5, x6⟩ := hX6.cells
        have hfz : ∀ i, w6.frozen? ⟨w.heap.size, i, none⟩ = false := fun i => by simp [World.frozen?, show w6.heap[w.heap.size]? = _ from hX6]
        have y0 := hfz 0
        have y1 := hfz 1
        have y2 := hfz 2
        have y3 := hfz 3
        have y4 := hfz 4
        have y5 := hfz 5
        have y6 := hfz 6
        clear hfz
        simp only at d1 d2 d3 d4 d5 d7 hS6
        have hX7 : InP (w6.setCell ⟨w1.heap.size, 6, none⟩ (.slice A6 l6.list.length c6)) w.heap.size ⟨#[]⟩ 0 false 0 0 ⟨#[]⟩ none 0 0 := (heap_setCell_other w6 ⟨w1.heap.size, 6, none⟩ w.heap.size _ hwB).trans hX6
        have hW7 := hW6.setCell (p := ⟨w1.heap.size, 6, none⟩) (Nat.le_of_lt hwl) (.slice A6 l6.list.length c6)
        have hat7 := (hat6.low (B := w1.heap.size) (i := 6) (fun b hb => by omega) (.slice A6 l6.list.length c6))
        obtain ⟨L6, hL6⟩ : ∃ k, l6.list.length = k := ⟨_, rfl⟩
        rw [hL6] at hS6 hX7 hW7 hat7 ⊢
        have HAT := Lib.hid hat7
        have HO6 := Lib.hid (And.intro hok6 (And.intro hlen6 (And.intro hstr6 hL6)))
        have HX7 := Lib.hid hX7
        have HS6 := Lib.hid hS6
        have HW7 := Lib.hid hW7
        clear hcall hcv hF5 hX5 hat6 hok6 hlen6 hstr6 hB6 hF6 hX6 hL6 hX7 hS6 hW7 hat7
        by_cases h0 : re = 0
        rotate_left
        · have hbe : (re != 0) = true := by simpa using h0
          have HQ5 : Hid (q = (Pn.zero, re)) := Lib.hid (by have := HQ4.out; rw [if_neg h0] at this; exact this.symm)
          clear h0
          go_wp2_with fail
          refine bodyPost_ret (v := .tuple #[.agg #[.string ⟨#[]⟩, .int .u32 0, .bool false, .int .i64 0, .int .u64 0, .string ⟨#[]⟩, .slice none 0 0], .int .i64 re]) ?_ rfl (prpost_err HQ5.out (below_set7 HW7.out (Nat.le_refl _) _ _ _ _ _ _ _))
          rw [results_cell_tmp rfl]; go_simp
        subst h0
        have HQ5 : Hid (((⟨key, sty, snu, ⟨8, sn, ss⟩, none, 0, rl⟩ : Pn), (0 : Int)) = q) := Lib.hid (by have := HQ4.out; rwa [if_pos rfl] at this)
        go_wp2_with fail
        refine bodyPost_ret (v := .tuple #[.agg #[.string key, .int .u32 sty, .bool snu, .int .i64 8, .int .u64 sn, .string ss, .slice A6 L6 c6], .int .i64 0]) ?_ rfl ?_
        · rw [results_cell_tmp rfl]; go_simp
        · obtain ⟨o1, o2, o3, o4⟩ := HO6.out
          have hlow : ∀ b, W5.heap.size ≤ b → b ≠ w.heap.size := fun b hb => by omega
          refine ⟨⟨key, sty, snu, ⟨8, sn, ss⟩, A6, c6, l6⟩, ?_, ?_, ⟨HSOK.out.ty, HSOK.out.v, by simp only; omega, o1⟩, o2, ?_, below_set7 HW7.out (Nat.le_refl _) _ _ _ _ _ _ _⟩
          · rw [← HQ5.out]; unfold Pn.agg; simp only [o4]
          · rw [← HQ5.out]; unfold Pn.strip; simp only [o3]
          · exact (((((((HAT.out.low hlow _).low hlow _).low hlow _).low hlow _).low hlow _).low hlow _).low hlow _).to (fun b hb => by omega)
      · have hbk : (sk != 8) = true := by simpa using hk8
        have HQ4 : Hid (((⟨key, sty, snu, ⟨sk, sn, ss⟩, none, 0, .nil⟩ : Pn), (0 : Int)) = q) := Lib.hid (by have := HQ3.out; rwa [if_neg hk8] at this)
        obtain ⟨x0, x1, x2, x3, x4, x5, x6⟩ := hX'.cells
        have hfz : ∀ i, wr.frozen? ⟨w.heap.size, i, none⟩ = false := fun i => by simp [World.frozen?, show wr.heap[w.heap.size]? = _ from hX']
        have y0 := hfz 0
        have y1 := hfz 1
        have y2 := hfz 2
        have y3 := hfz 3
        have y4 := hfz 4
        have y5 := hfz 5
        have y6 := hfz 6
        clear hk8 HQ3 hX' hfz hF
        go_wp2_with fail
        refine bodyPost_ret (v := .tuple #[.agg #[.string key, .int .u32 sty, .bool snu, .int .i64 sk, .int .u64 sn, .string ss, .slice none 0 0], .int .i64 0]) ?_ rfl ?_
        · rw [results_cell_tmp rfl]; go_simp
        · exact ⟨⟨key, sty, snu, ⟨sk, sn, ss⟩, none, 0, .nil⟩, by rw [← HQ4.out]; rfl, by rw [← HQ4.out]; rfl, ⟨HSOK.out.ty, HSOK.out.v, Nat.zero_le _, trivial⟩, Nat.zero_le _, Ps.nil_atS _ _, below_set7 hWr (Nat.le_refl _) _ _ _ _ _ _ _⟩
end Go.Proofs.YtanfnjlndckhkaaDoor

/- WALK: the reference's value of layer 3 -/
namespace Go.Proofs.YtanfnjlndckhkaaDoor
open Go.RowKit Plain

theorem results_cell_tmp2 {fn : Func} {p u v : Tmp} {ty : TypeId} (h : fn.results = #[.cell p ty, .tmp u, .tmp v]) (tmps : Array Value) (P : Program) (w : World) :
    (results fn tmps).run P w = ((asAddr (tmps.getD p undef)).run P w).andThen fun a w₁ => ((loadVar ty a).run P w₁).andThen fun x w₂ => .ok (.tuple #[x, tmps.getD u undef, tmps.getD v undef]) w₂ := by
  simp only [results, h]
  simp [Sem.run_bind, Result.andThen]
theorem bel2 (w : World) (x y : Obj) : Below w.heap.size w ((w.alloc x).alloc y) := ((Below.refl _ w).alloc (Nat.le_refl _) _).alloc (by simp) _
theorem rd2 {w : World} {B : Nat} {A : Option Addr} {xs : List Value} (hr : Rd w B A xs) (hB : B ≤ w.heap.size) (x y : Obj) : Rd ((w.alloc x).alloc y) B A xs := (hr.alloc hB x).alloc (by simp; omega) y
theorem sub_facts {n to v c K T bl : Nat} (hn : bl = n) (hnc : n ≤ c) (hl : bl ≤ 1000000) (t2 : to ≤ bl) (hlong : ¬ bl - to < v) (hT : to + v = T) (hK : n - to = K) :
    v ≤ 140737488355328 ∧ T ≤ 140737488355328 ∧ to ≤ T ∧ T ≤ c ∧ T - to = v ∧ (T : Int) = (to : Int) + (v : Int) ∧ (to : Int) ≤ T ∧ (T : Int) ≤ c ∧ ¬ K < v := by
  refine ⟨?_, ?_, ?_, ?_, ?_, ?_, ?_, ?_, ?_⟩ <;> omega
theorem sub_min {to v bl : Nat} (hlong : ¬ bl - to < v) : min v (bl - to) = v := by omega
set_option maxRecDepth 100000 in
set_option maxHeartbeats 2000000 in
theorem rvalue_any (b : List UInt8) (A : Option Addr) (n c : Nat) (hn : b.length = n) (hnc : n ≤ c) (hl : b.length ≤ 1000000) (p num kind : Nat) (B : Nat) (w : World) (hB : B ≤ w.heap.size) (hr : Rd w B A (bcl b)) :
    Calls Tryd.prog 76 #[.slice A n c, .int .i64 p, .int .i64 num, .int .i64 kind] w fun e w' =>
      e = .returned (.tuple #[.agg #[.int .i64 num, .int .i64 kind, .int .u64 (wval b p kind).val, .string (wval b p kind).text], .int .i64 (wval b p kind).to, .int .i64 (wval b p kind).err]) ∧ Below w.heap.size w w' := by
  by_cases hk0 : kind = 0
  · subst hk0
    have hw : wval b p 0 = ⟨(vget b p).1, emptyT, (vget b p).2.1, (vget b p).2.2⟩ := by unfold wval; rw [if_pos rfl]
    rw [hw]
    have hcall := fun (x y : Obj) => rvget_any A n c b hn (by omega) p B ((w.alloc x).alloc y) (rd2 hr hB x y)
    obtain ⟨r, hrr⟩ : ∃ r, vget b p = r := ⟨_, rfl⟩
    rw [hrr] at hcall ⊢
    obtain ⟨v, to, er⟩ := r
    simp only at hcall ⊢
    clear hrr hw hr
    go_enter Tryd.func76, Tryd.ntmps76
    go_wp2_with fail
    refine (hcall _ _).mono ?_
    rintro e w1 ⟨rfl, rfl⟩
    clear hcall
    go_wp2_with fail
    (try simp only [Exit.inBlock, Exit.then])
    refine bodyPost_ret (v := .tuple #[.agg #[.int .i64 num, .int .i64 0, .int .u64 v, .string ⟨#[]⟩], .int .i64 to, .int .i64 er]) ?_ rfl ⟨rfl, bel2 _ _ _⟩
    rw [results_cell_tmp2 rfl]
    go_simp
  by_cases hk1 : kind = 1
  · subst hk1
    have hw : wval b p 1 = ⟨(fget 8 b p).1, emptyT, (fget 8 b p).2.1, (fget 8 b p).2.2⟩ := by unfold wval; rw [if_neg (by omega), if_pos rfl]
    rw [hw]
    have hcall := fun (x y : Obj) => rget8_any A n c b hn (by omega) p B ((w.alloc x).alloc y) (rd2 hr hB x y)
    obtain ⟨r, hrr⟩ : ∃ r, fget 8 b p = r := ⟨_, rfl⟩
    rw [hrr] at hcall ⊢
    obtain ⟨v, to, er⟩ := r
    simp only at hcall ⊢
    clear hrr hw hr
    go_enter Tryd.func76, Tryd.ntmps76
    go_wp2_with fail
    refine (hcall _ _).mono ?_
    rintro e w1 ⟨rfl, rfl⟩
    clear hcall
    go_wp2_with fail
    (try simp only [Exit.inBlock, Exit.then])
    refine bodyPost_ret (v := .tuple #[.agg #[.int .i64 num, .int .i64 1, .int .u64 v, .string ⟨#[]⟩], .int .i64 to, .int .i64 er]) ?_ rfl ⟨rfl, bel2 _ _ _⟩
    rw [results_cell_tmp2 rfl]
    go_simp
  by_cases hk5 : kind = 5
  · subst hk5
    have hw : wval b p 5 = ⟨(fget 4 b p).1, emptyT, (fget 4 b p).2.1, (fget 4 b p).2.2⟩ := by unfold wval; rw [if_neg (by omega), if_neg (by omega), if_pos rfl]
    rw [hw]
    have hcall := fun (x y : Obj) => rget4_any A n c b hn (by omega) p B ((w.alloc x).alloc y) (rd2 hr hB x y)
    have hvw : IntKind.u64.wrap ((fget 4 b p).1 : Int) = ((fget 4 b p).1 : Int) := wrap_u64 _ (by have := fget_lt b p; omega)
    obtain ⟨r, hrr⟩ : ∃ r, fget 4 b p = r := ⟨_, rfl⟩
    rw [hrr] at hcall hvw ⊢
    obtain ⟨v, to, er⟩ := r
    simp only at hcall hvw ⊢
    clear hrr hw hr
    go_enter Tryd.func76, Tryd.ntmps76
    go_wp2_with fail
    refine (hcall _ _).mono ?_
    rintro e w1 ⟨rfl, rfl⟩
    clear hcall
    go_wp2_with fail
    (try simp only [Exit.inBlock, Exit.then])
    refine bodyPost_ret (v := .tuple #[.agg #[.int .i64 num, .int .i64 5, .int .u64 v, .string ⟨#[]⟩], .int .i64 to, .int .i64 er]) ?_ rfl ⟨rfl, bel2 _ _ _⟩
    rw [results_cell_tmp2 rfl]
    go_simp
  by_cases hk2 : kind = 2
  · subst hk2
    have hto := @vget_to b p
    have hvl := vget_lt b p
    rw [wval2]
    have hcall := fun (x y : Obj) => rvget_any A n c b hn (by omega) p B ((w.alloc x).alloc y) (rd2 hr hB x y)
    obtain ⟨r, hrr⟩ : ∃ r, vget b p = r := ⟨_, rfl⟩
    rw [hrr] at hcall hto hvl ⊢
    obtain ⟨v, to, er⟩ := r
    simp only at hcall hto hvl ⊢
    clear hrr
    by_cases he : er = 0
    · subst he
      obtain ⟨t1, t2, _⟩ := hto rfl
      rw [if_pos rfl]
      obtain ⟨K, hK⟩ : ∃ K, n - to = K := ⟨_, rfl⟩
      have hs1 : IntKind.i64.wrap ((n : Int) - (to : Int)) = (K : Int) := by rw [show (n : Int) - (to : Int) = ((K : Nat) : Int) by omega]; exact wrap_small _ (by omega)
      have hs2 : IntKind.u64.wrap (K : Int) = (K : Int) := wrap_u64 _ (by omega)
      by_cases hlong : b.length - to < v
      · rw [if_pos hlong]
        have hdec : decide (K < v) = true := decide_eq_true (by omega)
        clear hlong hvl hto t1 t2 hK hr
        go_enter Tryd.func76, Tryd.ntmps76
        go_wp2_with fail
        refine (hcall _ _).mono ?_
        rintro e w1 ⟨rfl, rfl⟩
        clear hcall
        go_wp2_with fail
        (try simp only [Exit.inBlock, Exit.then])
        refine bodyPost_ret (v := .tuple #[.agg #[.int .i64 num, .int .i64 2, .int .u64 0, .string ⟨#[]⟩], .int .i64 0, .int .i64 2]) ?_ rfl ⟨rfl, bel2 _ _ _⟩
        rw [results_cell_tmp2 rfl]
        go_simp
      · rw [if_neg hlong]
        simp only
        obtain ⟨T, hT⟩ : ∃ T, to + v = T := ⟨_, rfl⟩
        rw [hT]
        obtain ⟨u1, u2, hle2, hle4, hlen, u3, hle1, hle3, u4⟩ := sub_facts hn hnc hl t2 hlong hT hK
        have hdec : decide (K < v) = false := decide_eq_false u4
        have hw1 : wrap64 (v : Int) = (v : Int) := wrap_s v u1
        have hw2 : wrap64 ((to : Int) + (v : Int)) = (T : Int) := u3 ▸ wrap_s T u2
        have htl : (bcl b).length ≤ c * 1 := by simp [bcl]; rw [hn]; exact hnc
        have hvl2 : ((b.drop to).take v).length = v := by rw [List.length_take, List.length_drop]; exact sub_min hlong
        obtain ⟨W2, hW2⟩ : ∃ W2, (w.alloc (Obj.cells #[.int .i64 0, .int .i64 0, .int .u64 0, .string ⟨#[]⟩] 64)).alloc (Obj.cells #[.int .i64 num, .int .i64 2, .int .u64 0, .string ⟨#[]⟩] 64) = W2 := ⟨_, rfl⟩
        have hrr := rd2 hr hB (Obj.cells #[.int .i64 0, .int .i64 0, .int .u64 0, .string ⟨#[]⟩] 64) (Obj.cells #[.int .i64 num, .int .i64 2, .int .u64 0, .string ⟨#[]⟩] 64)
        have hbl := bel2 w (Obj.cells #[.int .i64 0, .int .i64 0, .int .u64 0, .string ⟨#[]⟩] 64) (Obj.cells #[.int .i64 num, .int .i64 2, .int .u64 0, .string ⟨#[]⟩] 64)
        have hF : W2.heap[w.heap.size + 1]? = some (.cells #[.int .i64 num, .int .i64 2, .int .u64 0, .string ⟨#[]⟩] 64 (0, 0)) := by
          rw [← hW2]
          have := World.alloc_heap_new (w.alloc (Obj.cells #[.int .i64 0, .int .i64 0, .int .u64 0, .string ⟨#[]⟩] 64)) (Obj.cells #[.int .i64 num, .int .i64 2, .int .u64 0, .string ⟨#[]⟩] 64)
          rwa [World.size_alloc] at this
        have hG : W2.heap[w.heap.size]? = some (.cells #[.int .i64 0, .int .i64 0, .int .u64 0, .string ⟨#[]⟩] 64 (0, 0)) := by
          rw [← hW2, Below.heap_alloc _ _ _ (by simp)]
          exact World.alloc_heap_new w _
        rw [hW2] at hrr hbl
        have hcall2 := hcall (Obj.cells #[.int .i64 0, .int .i64 0, .int .u64 0, .string ⟨#[]⟩] 64) (Obj.cells #[.int .i64 num, .int .i64 2, .int .u64 0, .string ⟨#[]⟩] 64)
        rw [hW2] at hcall2
        have hcv : (convert 27 9 (.slice (if c = to then A else A.map (·.add to)) v (c - to))).run Tryd.prog W2 = .ok (.string ⟨((b.drop to).take v).toArray⟩) W2 := by
          have h := (hrr.drop (k := to) (cap := c) (size := 1) htl).take v
          rw [show ((bcl b).drop (to * 1)).take v = bcl ((b.drop to).take v) by simp [bcl, List.map_drop, List.map_take]] at h
          simp only [Nat.mul_one] at h
          exact strB2 h hvl2 _
        have HW2 := Lib.hid hW2
        obtain ⟨S, hS⟩ : ∃ S : ByteArray, (⟨((b.drop to).take v).toArray⟩ : ByteArray) = S := ⟨_, rfl⟩
        rw [hS] at hcv ⊢
        clear hlong hvl hto t1 t2 hK hr hT hrr hcall hW2 hS htl hvl2 u1 u2 u3 u4
        go_enter Tryd.func76, Tryd.ntmps76
        go_wp2_with fail
        rw [HW2.out]
        refine hcall2.mono ?_
        rintro e w1 ⟨rfl, rfl⟩
        clear hcall2
        obtain ⟨f0, f1, f2, f3⟩ := BoxF.cells (show BoxF W2 (w.heap.size + 1) num 2 0 ⟨#[]⟩ from hF)
        obtain ⟨g0, g1, g2, g3⟩ := BoxF.cells (show BoxF W2 w.heap.size 0 0 0 ⟨#[]⟩ from hG)
        have z3 : W2.frozen? ⟨w.heap.size + 1, 3, none⟩ = false := by simp [World.frozen?, hF]
        have y0 : W2.frozen? ⟨w.heap.size, 0, none⟩ = false := by simp [World.frozen?, hG]
        have y1 : W2.frozen? ⟨w.heap.size, 1, none⟩ = false := by simp [World.frozen?, hG]
        have y2 : W2.frozen? ⟨w.heap.size, 2, none⟩ = false := by simp [World.frozen?, hG]
        have y3 : W2.frozen? ⟨w.heap.size, 3, none⟩ = false := by simp [World.frozen?, hG]
        clear hF hG
        go_wp2_with fail
        all_goals (try simp only [Exit.inBlock, Exit.then])
        all_goals refine bodyPost_ret (v := .tuple #[.agg #[.int .i64 num, .int .i64 2, .int .u64 0, .string S], .int .i64 T, .int .i64 0]) ?_ rfl ⟨rfl, ?_⟩
        all_goals first
          | (rw [results_cell_tmp2 rfl]; go_simp; done)
          | exact ((((hbl.setCell (p := ⟨w.heap.size + 1, 3, none⟩) (Nat.le_succ _) _).setCell (p := ⟨w.heap.size, 0, none⟩) (Nat.le_refl _) _).setCell (p := ⟨w.heap.size, 1, none⟩) (Nat.le_refl _) _).setCell (p := ⟨w.heap.size, 2, none⟩) (Nat.le_refl _) _).setCell (p := ⟨w.heap.size, 3, none⟩) (Nat.le_refl _) _
    · rw [if_neg he]
      have hbe : ((er : Int) != 0) = true := by simp; omega
      clear he hto hvl hr
      go_enter Tryd.func76, Tryd.ntmps76
      go_wp2_with fail
      refine (hcall _ _).mono ?_
      rintro e w1 ⟨rfl, rfl⟩
      clear hcall
      go_wp2_with fail
      (try simp only [Exit.inBlock, Exit.then])
      refine bodyPost_ret (v := .tuple #[.agg #[.int .i64 num, .int .i64 2, .int .u64 0, .string ⟨#[]⟩], .int .i64 0, .int .i64 er]) ?_ rfl ⟨rfl, bel2 _ _ _⟩
      rw [results_cell_tmp2 rfl]
      go_simp
  have hw : wval b p kind = ⟨0, emptyT, 0, 11⟩ := by unfold wval; rw [if_neg hk0, if_neg hk1, if_neg hk5, if_neg hk2]
  rw [hw]
  have q0 : ((kind : Int) == 0) = false := by simp; omega
  have q2 : ((kind : Int) == 2) = false := by simp; omega
  have q1 : ((kind : Int) == 1) = false := by simp; omega
  have q5 : ((kind : Int) == 5) = false := by simp; omega
  clear hk0 hk2 hk1 hk5 hw hr
  go_enter Tryd.func76, Tryd.ntmps76
  go_wp2_with fail
  (try simp only [Exit.inBlock, Exit.then])
  refine bodyPost_ret (v := .tuple #[.agg #[.int .i64 num, .int .i64 kind, .int .u64 0, .string ⟨#[]⟩], .int .i64 0, .int .i64 11]) ?_ rfl ⟨rfl, bel2 _ _ _⟩
  rw [results_cell_tmp2 rfl]
  go_simp
end Go.Proofs.YtanfnjlndckhkaaDoor

/- WALK: the reference's Of of layer 3 -/
namespace Go.Proofs.YtanfnjlndckhkaaDoor
open Go.RowKit Plain

set_option maxRecDepth 100000 in
set_option maxHeartbeats 4000000 in
theorem rof_any (b : List UInt8) (A : Option Addr) (n c : Nat) (hn : b.length = n) (hnc : n ≤ c) (w : World) (hr0 : Rd w w.heap.size A (bcl b)) (hbl : b.length ≤ 140737488355328) :
    Calls Tryd.prog 51 #[.slice A n c] w (OfPost b w) := by
  by_cases hlong : 4096 < b.length
  · have hb : decide ((4096 : Int) < (n : Int)) = true := decide_eq_true (by omega)
    have hw : wof b = ([], 3) := by unfold wof; rw [if_pos hlong]
    have HW := Lib.hid hw
    clear hlong hw hr0 hn hbl
    go_enter Tryd.func51, Tryd.ntmps51
    go_wp2_with fail
    go_ret2
    exact of_err (e := 3) HW.out (Below.refl _ _)
  · have hb : decide ((4096 : Int) < (n : Int)) = false := decide_eq_false (by omega)
    have hw : wof b = wrun b b.length ⟨0, [], []⟩ := by unfold wof; rw [if_neg hlong]
    have HW := Lib.hid hw
    have HN := Lib.hid hn
    have HR := Lib.hid hr0
    have HL : Hid (b.length ≤ 4096) := Lib.hid (by omega)
    clear hlong hw hr0 hn hbl
    go_enter Tryd.func51, Tryd.ntmps51
    go_wp2_with fail
    go_loopw [4, 5, 6] (fun o op at_ wr => ∃ (s : RSt) (f : Nat) (Ao Ax : Option Addr) (co cx N M : Nat), o = .slice Ax N cx ∧ op = .slice Ao M co ∧ at_ = .int .i64 s.at_ ∧ s.out.length = N ∧ s.opn.length = M ∧
      wr.ownsRow w.heap.size 3 1 (.slice Ao M co) M (icl s.opn) ∧ wr.ownsRow w.heap.size 64 4 (.slice Ax N cx) N (flc s.out) ∧ Below w.heap.size w wr ∧ wof b = wrun b f s ∧ b.length ≤ f + s.at_) (fun _ _ at_ _ => b.length - (intOf at_).toNat)
    case atStart => exact ⟨⟨0, [], []⟩, b.length, none, none, 0, 0, 0, 0, rfl, rfl, rfl, rfl, rfl, World.ownsRow_nil _ _ _ _, World.ownsRow_nil _ _ _ _, Below.refl _ _, HW.out, by simp⟩
    case round =>
      obtain ⟨s, f, Ao, Ax, co, cx, N, M, rfl, rfl, rfl, hNo, hMo, o1, o2, hB, hw, hf⟩ := hrel
      obtain ⟨p, opn, out⟩ := s
      (try simp only at hNo)
      (try simp only at hMo)
      (try simp only at o1)
      (try simp only at o2)
      (try simp only at hf)
      have HWW := Lib.hid hw
      have HF := Lib.hid hf
      clear hw hf
      by_cases hlt : p < b.length
      · have hlt2 : p < n := by rw [← HN.out]; exact hlt
        have hb2 : decide ((p : Int) < (n : Int)) = true := decide_eq_true (by omega)
        have hto := @wnext_to b ⟨p, opn, out⟩
        have hstep : ∃ f2, f = f2 + 1 ∧ wof b = if (wnext b ⟨p, opn, out⟩).1 = 0 then wrun b f2 (wnext b ⟨p, opn, out⟩).2 else ([], (wnext b ⟨p, opn, out⟩).1) := by
          cases f with
          | zero => have := HF.out; omega
          | succ f2 => exact ⟨f2, rfl, by rw [HWW.out, wrun, if_pos hlt]⟩
        obtain ⟨f2, rfl, hw2⟩ := hstep
        obtain ⟨E, s2, hE⟩ : ∃ E s2, wnext b ⟨p, opn, out⟩ = (E, s2) := ⟨_, _, rfl⟩
        rw [hE] at hto hw2
        have hnx := hE
        unfold wnext at hE
        have hvl := vget_lt b p
        have hcall := rvget_any A n c b HN.out (by have := HL.out; omega) p w.heap.size wr (HR.out.below hB (Nat.le_refl _))
        obtain ⟨r, hr⟩ : ∃ r, vget b p = r := ⟨_, rfl⟩
        simp only at hE hto hw2
        rw [hr] at hcall hvl hE
        obtain ⟨v, to, er⟩ := r
        simp only at hcall hvl hE
        have HW2 := Lib.hid hw2
        have HT := Lib.hid hto
        have HLT := Lib.hid hlt
        clear hto hw2 hlt hnx hr
        by_cases he : er = 0
        · subst he
          rw [if_pos rfl] at hE
          obtain ⟨num, hnm⟩ : ∃ num, v / 8 = num := ⟨_, rfl⟩
          obtain ⟨kind, hkd⟩ : ∃ kind, v % 8 = kind := ⟨_, rfl⟩
          rw [hnm, hkd] at hE
          have hnlt : num < 2305843009213693952 := by omega
          have hsh : (v : Int) / 8 = (num : Int) := by omega
          have hmd : (v : Int) % 8 = (kind : Int) := by omega
          have HM := Lib.hid hMo
          have HNO := Lib.hid hNo
          have HHE := Lib.hid hE
          clear hvl hnm hkd hE hMo hNo
          go_wp2_with fail
          refine hcall.mono ?_
          rintro e w1 ⟨rfl, rfl⟩
          clear hcall
          have hbs := hB.size
          go_wp2_with (at_builtin; refine wpList_app1 rfl _ _ _ rfl elemI rfl o1 rfl rfl (by intro u hu; simp at hu; subst hu; rfl) (by unfold maxLen; omega) (by omega) hbs ?_; intro A5 c5 w5 ho5 hg5 _)
          · have hg : (num : Int) < 1 ∨ 536870912 ≤ (num : Int) := by assumption
            have hE := HHE.out
            rw [if_pos (by omega)] at hE
            obtain ⟨rfl, rfl⟩ := Prod.mk.inj hE
            go_ret2
            exact of_err (by rw [HW2.out, if_neg (by decide)]) hB
          · have hg : 1 ≤ (num : Int) ∧ (num : Int) < 536870912 := by assumption
            have hk3 : kind = 3 := by have := eq_of_beq (by assumption : ((kind : Int) == 3) = true); omega
            have h8 : (8 : Int) ≤ (M : Int) := by assumption
            have hE := HHE.out
            rw [if_neg (by omega), if_pos hk3, if_pos (by rw [HM.out]; omega)] at hE
            obtain ⟨rfl, rfl⟩ := Prod.mk.inj hE
            go_ret2
            exact of_err (by rw [HW2.out, if_neg (by decide)]) hB
          · have hg : 1 ≤ (num : Int) ∧ (num : Int) < 536870912 := by assumption
            have hk3 : kind = 3 := by have := eq_of_beq (by assumption : ((kind : Int) == 3) = true); omega
            have h8 : (M : Int) < 8 := by assumption
            have hE := HHE.out
            rw [if_neg (by omega), if_pos hk3, if_neg (by rw [HM.out]; omega)] at hE
            obtain ⟨rfl, rfl⟩ := Prod.mk.inj hE
            have ho2 := own_other o2 hg5 (fun g cur hh => own_ne o1 (by decide) hh)
            have hBB := own_grown hB o1 hbs hg5
            refine ⟨⟨⟨to, opn ++ [num], out⟩, f2, A5, Ax, c5, cx, N, M + 1, rfl, rfl, rfl, HNO.out, by simp [HM.out], by simpa [icl] using ho5, ho2, hBB, by rw [HW2.out, if_pos rfl], ?_⟩, ?_⟩
            · have := HT.out rfl; have := HF.out; simp only at *; omega
            · have := HT.out rfl; have := HLT.out; simp only [intOf] at *; simp; omega
          · have hg : 1 ≤ (num : Int) ∧ (num : Int) < 536870912 := by assumption
            have hk3 : ¬ kind = 3 := by have a : ¬ (kind : Int) = 3 := (by simpa using (by assumption : ((kind : Int) == 3) = false)); omega
            have hk4 : kind = 4 := by have := eq_of_beq (by assumption : ((kind : Int) == 4) = true); omega
            have h0 : opn = [] := List.eq_nil_of_length_eq_zero (by rw [HM.out]; first | assumption | rfl)
            have hE := HHE.out
            rw [if_neg (by omega), if_neg hk3, if_pos hk4, if_neg (by rw [h0]; simp)] at hE
            obtain ⟨rfl, rfl⟩ := Prod.mk.inj hE
            go_ret2
            exact of_err (by rw [HW2.out, if_neg (by decide)]) hB
          · have hg : 1 ≤ (num : Int) ∧ (num : Int) < 536870912 := by assumption
            have hk3 : ¬ kind = 3 := by have a : ¬ (kind : Int) = 3 := (by simpa using (by assumption : ((kind : Int) == 3) = false)); omega
            have hk4 : kind = 4 := by have := eq_of_beq (by assumption : ((kind : Int) == 4) = true); omega
            have hM0 : ¬ M = 0 := by assumption
            have hE := HHE.out
            rw [if_neg (by omega), if_neg hk3, if_pos hk4] at hE
            rcases List.eq_nil_or_concat opn with h0 | ⟨l, x, h0⟩
            · exact absurd (by rw [← HM.out, h0]; rfl) hM0
            obtain ⟨g, rfl⟩ : ∃ g, Ao = some ⟨g, 0, none⟩ := by
              rcases o1.2 with ⟨_, h00⟩ | ⟨g, cap, cur, hv, _⟩
              · exact absurd h00 hM0
              · injection hv with hA
                exact ⟨g, hA⟩
            obtain ⟨m, hm⟩ : ∃ m, l.length = m := ⟨_, rfl⟩
            have hMm : M = m + 1 := by rw [← HM.out, h0, ← hm]; simp
            have hcap := own_cap o1
            have hx : wr.cell? ⟨g, m, none⟩ = some (.int .i64 x) := by
              have := o1.cellAt m (by omega)
              rw [this, h0]
              simp [icl, ← hm]
            have o3 : wr.ownsRow w.heap.size 3 1 (.slice (some ⟨g, 0, none⟩) m co) m (icl l) := by
              have := own_prefix o1 (m := m) (by omega)
              rwa [show (icl opn).take m = icl l by rw [h0]; simp [icl, ← hm]] at this
            have hw1 : wrap64 ((M : Int) - 1) = (m : Int) := by unfold wrap64; omega
            have hw2 : IntKind.i64.wrap ((M : Int) - 1) = (m : Int) := by rw [show (M : Int) - 1 = (m : Int) by omega]; exact wrap_small m (by omega)
            have hlt1 : (m : Int) < (M : Int) := by omega
            have hlt2' : m < M := by omega
            have hle3 : (m : Int) ≤ (co : Int) := by omega
            have hle4 : m ≤ co := by omega
            have hlast : opn.getLast? = some num ↔ x = num := by rw [h0]; simp
            have hdrop : opn.dropLast = l := by rw [h0]; simp
            rw [hdrop] at hE
            by_cases hxn : x = num
            · rw [if_pos (hlast.2 hxn)] at hE
              obtain ⟨rfl, rfl⟩ := Prod.mk.inj hE
              have hbx : ((x : Int) != (num : Int)) = false := by simp; omega
              clear hlast hdrop hcap hMm hE o1 hg hk3 hk4
              go_simp
              go_wp2_with fail
              refine ⟨⟨⟨to, l, out⟩, f2, some ⟨g, 0, none⟩, Ax, co, cx, N, m, rfl, rfl, rfl, HNO.out, hm, o3, o2, hB, by rw [HW2.out, if_pos rfl], ?_⟩, ?_⟩
              · have := HT.out rfl; have := HF.out; simp only at *; omega
              · have := HT.out rfl; have := HLT.out; simp only [intOf] at *; simp; omega
            · rw [if_neg (fun h => hxn (hlast.1 h))] at hE
              obtain ⟨rfl, rfl⟩ := Prod.mk.inj hE
              have hbx : ((x : Int) != (num : Int)) = true := by simp; omega
              clear hlast hdrop hcap hMm hE o1 hg hk3 hk4
              go_simp
              go_wp2_with fail
              go_ret2
              exact of_err (by rw [HW2.out, if_neg (by decide)]) hB
          · have hg : 1 ≤ (num : Int) ∧ (num : Int) < 536870912 := by assumption
            have hk3 : ¬ kind = 3 := by have a : ¬ (kind : Int) = 3 := (by simpa using (by assumption : ((kind : Int) == 3) = false)); omega
            have hk4 : ¬ kind = 4 := by have a : ¬ (kind : Int) = 4 := (by simpa using (by assumption : ((kind : Int) == 4) = false)); omega
            have hE := HHE.out
            rw [if_neg (by omega), if_neg hk3, if_neg hk4] at hE
            refine (rvalue_any b A n c HN.out hnc (by have := HL.out; omega) to num kind w.heap.size wr hbs (HR.out.below hB (Nat.le_refl _))).mono ?_
            rintro e w2 ⟨rfl, hB2⟩
            obtain ⟨V, hV⟩ : ∃ V, wval b to kind = V := ⟨_, rfl⟩
            rw [hV] at hE ⊢
            obtain ⟨vv, vt, vto, verr⟩ := V
            simp only at hE ⊢
            have o1' := own_kept o1 hB2 (Nat.le_refl _)
            have o2' := own_kept o2 hB2 (Nat.le_refl _)
            have hB3 := bel_step hB hB2
            have hbs3 := hB3.size
            clear o1 o2 hB hB2 hV hbs HHE hg hk3 hk4
            by_cases hve : verr = 0
            · subst hve
              rw [if_pos rfl] at hE
              rw [HM.out, HNO.out] at hE
              by_cases hM0 : M = 0
              · rw [if_pos hM0] at hE
                by_cases hfl : 256 ≤ N
                · rw [if_pos hfl] at hE
                  obtain ⟨rfl, rfl⟩ := Prod.mk.inj hE
                  have hbf : decide ((256 : Int) ≤ (N : Int)) = true := decide_eq_true (by omega)
                  clear hE
                  go_wp2_with fail
                  go_ret2
                  first | exact of_err (by rw [HW2.out, if_neg (by decide)]) hB3 | exact of_err (by rw [HW2.out, if_neg (by decide)]) (hB3.alloc hbs3 _)
                · rw [if_neg hfl] at hE
                  obtain ⟨rfl, rfl⟩ := Prod.mk.inj hE
                  have hbf : decide ((256 : Int) ≤ (N : Int)) = false := decide_eq_false (by omega)
                  clear hE
                  go_wp2_with (at_builtin; refine wpList_appF1 rfl _ _ rfl rfl (o2'.alloc (Obj.cells #[.int .i64 num, .int .i64 kind, .int .u64 vv, .string vt] 64)) ⟨num, kind, vv, vt⟩ rfl (by simp) (by omega) (by simp; omega) ?_; intro A5 c5 w5 ho5 hg5)
                  have o1'' := own_other (o1'.alloc (Obj.cells #[.int .i64 num, .int .i64 kind, .int .u64 vv, .string vt] 64)) hg5 (fun g cur hh => own_ne (o2'.alloc (Obj.cells #[.int .i64 num, .int .i64 kind, .int .u64 vv, .string vt] 64)) (by decide) hh)
                  have hBB := own_grown (hB3.alloc hbs3 (Obj.cells #[.int .i64 num, .int .i64 kind, .int .u64 vv, .string vt] 64)) (o2'.alloc (Obj.cells #[.int .i64 num, .int .i64 kind, .int .u64 vv, .string vt] 64)) (by simp; omega) hg5
                  go_roundw
                  case rel => exact ⟨⟨vto, opn, out ++ [⟨num, kind, vv, vt⟩]⟩, f2, Ao, A5, co, c5, N + 1, M, rfl, by rw [hM0], rfl, by simp [HNO.out], HM.out, o1'', ho5, hBB, by rw [HW2.out, if_pos rfl], by have := HT.out rfl; have := HF.out; simp only at *; omega⟩
                  case measure => have := HT.out rfl; have := HLT.out; simp only [intOf] at *; simp; omega
              · have hMp : 0 < M := by omega
                rw [if_neg hM0] at hE
                obtain ⟨rfl, rfl⟩ := Prod.mk.inj hE
                clear hE
                go_wp2_with fail
                go_roundw
                case rel => exact ⟨⟨vto, opn, out⟩, f2, Ao, Ax, co, cx, N, M, rfl, rfl, rfl, HNO.out, HM.out, o1'.alloc _, o2'.alloc _, hB3.alloc hbs3 _, by rw [HW2.out, if_pos rfl], by have := HT.out rfl; have := HF.out; simp only at *; omega⟩
                case measure => have := HT.out rfl; have := HLT.out; simp only [intOf] at *; simp; omega
            · rw [if_neg hve] at hE
              obtain ⟨rfl, rfl⟩ := Prod.mk.inj hE
              have hbv : ((verr : Int) != 0) = true := by simp; omega
              have HVE := Lib.hid hve
              clear hE hve
              go_wp2_with fail
              go_ret2
              first | exact of_err (by rw [HW2.out, if_neg HVE.out]) hB3 | exact of_err (by rw [HW2.out, if_neg HVE.out]) (hB3.alloc hbs3 _)
          · have hg : (num : Int) < 1 := by assumption
            have hE := HHE.out
            rw [if_pos (by omega)] at hE
            obtain ⟨rfl, rfl⟩ := Prod.mk.inj hE
            go_ret2
            exact of_err (by rw [HW2.out, if_neg (by decide)]) hB
        · rw [if_neg he] at hE
          obtain ⟨rfl, rfl⟩ := Prod.mk.inj hE
          have hbe : ((er : Int) != 0) = true := by simp; omega
          have HE := Lib.hid he
          clear he hE hvl
          go_wp2_with fail
          refine hcall.mono ?_
          rintro e w1 ⟨rfl, rfl⟩
          go_wp2_with fail
          go_ret2
          exact of_err (by rw [HW2.out, if_neg HE.out]) hB
      · have hlt2 : ¬ p < n := by rw [← HN.out]; exact hlt
        have hb2 : decide ((p : Int) < (n : Int)) = false := decide_eq_false (by omega)
        have hw2 := HWW.out
        rw [wrun_stop hlt] at hw2
        have HW2 := Lib.hid hw2
        clear hw2 hlt
        by_cases ho : M = 0
        · subst ho
          have HMO := Lib.hid hMo
          subst hNo
          clear hMo
          go_wp2_with fail
          go_ret2
          have hw3 : wof b = (out, 0) := by rw [HW2.out, if_pos HMO.out]
          exact ⟨Ax, cx, by rw [hw3]; rfl, by rw [hw3]; exact o2, hB⟩
        · have hpos : 0 < M := by omega
          have HO : Hid (¬ opn.length = 0) := Lib.hid (by rw [hMo]; exact ho)
          clear ho hMo
          go_wp2_with fail
          go_ret2
          exact of_err (e := 2) (by rw [HW2.out, if_neg HO.out]) hB
end Go.Proofs.YtanfnjlndckhkaaDoor

/- WALKS: the reference's Of -/
namespace Go.Proofs.YtanfnjlndckhkaaDoor
open Go.RowKit Plain

structure InB2 (w W : World) (acc : VV) : Prop where
  R : Box3 W w.heap.size VV.zero
  V : Box3 W (w.heap.size + 1) acc
  bel : Below w.heap.size w W
theorem InB2.drewN {w W : World} {acc : VV} (h : InB2 w W acc) (n : Nat) : InB2 w (W.drewN n) acc := ⟨h.R, h.V, below_drewN h.bel n⟩
theorem InB2.boxes {w W : World} {acc : VV} (h : InB2 w W acc) :
    (W.cell? ⟨w.heap.size, 0, none⟩ = some (.int .i64 0) ∧ W.cell? ⟨w.heap.size, 1, none⟩ = some (.int .u64 0) ∧ W.cell? ⟨w.heap.size, 2, none⟩ = some (.string ⟨#[]⟩)) ∧
    (W.cell? ⟨w.heap.size + 1, 0, none⟩ = some (.int .i64 acc.k) ∧ W.cell? ⟨w.heap.size + 1, 1, none⟩ = some (.int .u64 acc.n) ∧ W.cell? ⟨w.heap.size + 1, 2, none⟩ = some (.string acc.s)) ∧
    (W.frozen? ⟨w.heap.size, 0, none⟩ = false ∧ W.frozen? ⟨w.heap.size, 1, none⟩ = false ∧ W.frozen? ⟨w.heap.size, 2, none⟩ = false) ∧
    (W.frozen? ⟨w.heap.size + 1, 0, none⟩ = false ∧ W.frozen? ⟨w.heap.size + 1, 1, none⟩ = false ∧ W.frozen? ⟨w.heap.size + 1, 2, none⟩ = false) :=
  ⟨⟨h.R.cell 0, h.R.cell 1, h.R.cell 2⟩, ⟨h.V.cell 0, h.V.cell 1, h.V.cell 2⟩, ⟨h.R.frozen 0, h.R.frozen 1, h.R.frozen 2⟩, ⟨h.V.frozen 0, h.V.frozen 1, h.V.frozen 2⟩⟩

/-- a field stands at o -/
def InF (W : World) (b o : Nat) (f : Fld) : Prop :=
  W.cell? ⟨b, o, none⟩ = some (.int .i64 f.num) ∧ W.cell? ⟨b, o + 1, none⟩ = some (.int .i64 f.kind) ∧ W.cell? ⟨b, o + 2, none⟩ = some (.int .u64 f.val) ∧ W.cell? ⟨b, o + 3, none⟩ = some (.string f.text)
theorem InF.drewN {W : World} {b o : Nat} {f : Fld} (h : InF W b o f) (n : Nat) : InF (W.drewN n) b o f := h

set_option maxRecDepth 100000 in
set_option maxHeartbeats 2000000 in
theorem rvof_any (l : List Fld) (A : Option Addr) (c : Nat) (base : Int) (raw : Bool) (hl : l.length ≤ 9223372036854775807) (hwf : ∀ f ∈ l, -9223372036854775808 ≤ f.num ∧ f.num ≤ 9223372036854775807 ∧ f.val < 18446744073709551616) (w : World) (hr : Rd w w.heap.size A (flc l)) :
    Calls Tryd.prog 77 #[.slice A l.length c, .int .i64 base, .bool raw] w fun e w' => e = .returned (.tuple #[.agg (vof base raw l).1.cells, .int .i64 (vof base raw l).2]) ∧ Below w.heap.size w w' := by
  by_cases hb : 1 ≤ base ∧ base ≤ 1000
  · have hv : vof base raw l = vofs base raw l VV.zero := by unfold vof; rw [if_pos hb]
    rw [hv]
    have HR := Lib.hid hr
    have HWF := Lib.hid hwf
    obtain ⟨hb10, hb11⟩ := hb
    clear hr hv hwf
    generalize hres : vofs base raw l VV.zero = res at *
    have HRES := Lib.hid hres
    clear hres
    obtain ⟨M, hM⟩ : ∃ M : Int, M = if raw = true then 7 else 6 := ⟨_, rfl⟩
    have HM := Lib.hid hM
    have hcase : raw = true ∧ M = 7 ∨ raw = false ∧ M = 6 := by cases raw <;> simp [hM]
    have hi0 : (w.alloc (Obj.cells #[Value.int IntKind.i64 0, Value.int IntKind.u64 0, Value.string ⟨#[]⟩] 42)).heap.size = w.heap.size + 1 := by simp
    clear hM
    rcases hcase with ⟨rfl, rfl⟩ | ⟨rfl, rfl⟩
    · go_enter Tryd.func77, Tryd.ntmps77
      go_wp2_with fail
      go_loopw [10] (fun i wr => ∃ (j : Nat) (acc : VV), i = .int .i64 j ∧ j ≤ l.length ∧ vofs base true (l.drop j) acc = res ∧ InB2 w wr acc) (fun i _ => l.length - (intOf i).toNat)
      case atStart =>
        refine ⟨0, VV.zero, rfl, Nat.zero_le _, HRES.out, ?_, ?_, ((Below.refl _ w).alloc (Nat.le_refl _) _).alloc (by simp) _⟩
        · exact (Below.heap_alloc _ _ _ (by simp)).trans (Box3.new w VV.zero)
        · have := Box3.new (w.alloc (.cells VV.zero.cells 42)) VV.zero
          rw [World.size_alloc] at this
          exact this
      case round =>
        obtain ⟨j, acc, rfl, hj, he, hin⟩ := hrel
        obtain ⟨⟨r0, r1, r2⟩, ⟨v0, v1, v2⟩, ⟨f0, f1, f2⟩, f3, f4, f5⟩ := hin.boxes
        have HE := Lib.hid he
        clear he
        by_cases hlt : j < l.length
        · obtain ⟨f, hf⟩ : ∃ f, l[j]? = some f := ⟨_, List.getElem?_eq_getElem hlt⟩
          have hdrop : l.drop j = f :: l.drop (j + 1) := by
            obtain ⟨h1, h2⟩ := List.getElem?_eq_some_iff.1 hf
            rw [List.drop_eq_getElem_cons h1, h2]
          obtain ⟨hn0, hn1, hn2⟩ := HWF.out f (List.mem_of_getElem? hf)
          have hlen := flc_len l
          obtain ⟨b1, o1, rfl, hb1, hc1⟩ := (HR.out.below hin.bel (by omega)).some_ (by omega)
          have g1 : ∀ i, i < 4 → wr.cell? ⟨b1, o1 + j * 4 + i, none⟩ = f.cells[i]? := fun i hi => by
            rw [show o1 + j * 4 + i = o1 + (4 * j + i) by omega]; exact (hc1 _ (by omega)).trans (flc_at hf i hi)
          have g10 : wr.cell? ⟨b1, o1 + j * 4, none⟩ = some (.int .i64 f.num) := g1 0 (by omega)
          have g11 : wr.cell? ⟨b1, o1 + j * 4 + 1, none⟩ = some (.int .i64 f.kind) := g1 1 (by omega)
          have g12 : wr.cell? ⟨b1, o1 + j * 4 + 2, none⟩ = some (.int .u64 f.val) := g1 2 (by omega)
          have g13 : wr.cell? ⟨b1, o1 + j * 4 + 3, none⟩ = some (.string f.text) := g1 3 (by omega)
          have hstep : vofs base true (f :: l.drop (j + 1)) acc = res := hdrop ▸ HE.out
          have HS := Lib.hid hstep
          clear hstep hdrop hc1 g1 hlen hf HWF HR HE
          by_cases hlo : f.num < base
          · have hk0 : vkof f.num base true = 0 := by unfold vkof; rw [if_neg (by omega)]
            have HK0 := Lib.hid hk0
            clear hk0
            go_wp2_with fail
            go_roundw
            case rel => exact ⟨j + 1, acc, by go_num, by omega, by have e := HS.out; rwa [vofs, if_pos HK0.out] at e, hin⟩
            case measure => simp [intOf]; omega
          by_cases hhi : base + 7 ≤ f.num
          · have hk0 : vkof f.num base true = 0 := by unfold vkof; rw [if_neg (by omega)]
            have HK0 := Lib.hid hk0
            clear hk0
            go_wp2_with fail
            go_roundw
            case rel => exact ⟨j + 1, acc, by go_num, by omega, by have e := HS.out; rwa [vofs, if_pos HK0.out] at e, hin⟩
            case measure => simp [intOf]; omega
          have hkv : vkof f.num base true = f.num - base + 1 := by unfold vkof; rw [if_pos ⟨by omega, by omega, fun _ => rfl⟩]
          have hs2 : res = if ¬ f.kind = vkind (f.num - base + 1) then (VV.zero, 4) else if vgreat (f.num - base + 1) f.val = true then (VV.zero, 5) else vofs base true (l.drop (j + 1)) ⟨f.num - base + 1, f.val, f.text⟩ := by
            have e := HS.out
            rw [vofs, if_neg (by rw [hkv]; omega), hkv] at e
            exact e.symm
          have HS2 := Lib.hid hs2
          clear hs2 hkv HS
          have hF : InF wr b1 (o1 + j * 4) f := ⟨g10, g11, g12, g13⟩
          by_cases hkd : f.kind = vkind (f.num - base + 1)
          · have hkb : (f.kind != vkind (f.num - base + 1)) = false := by simpa using hkd
            have HKD := Lib.hid hkd
            clear hkd
            go_wp2_with fail
            go_quiet (first | (go_at_call 87; exact Calls.quiet_of_same ((kind_any _ _).mono fun _ _ h => ⟨h.1, h.2.symm⟩)) | (go_at_call 105; exact Calls.quiet_of_same ((great_any _ _ _).mono fun _ _ h => ⟨h.1, h.2.symm⟩)))
            go_wp2_with fail
            have hin3 := hin.drewN nq
            have hF3 := hF.drewN nq
            clear hin hF r0 r1 r2 v0 v1 v2 f0 f1 f2 f3 f4 f5 g10 g11 g12 g13
            generalize wr.drewN nq = W3 at *
            obtain ⟨⟨r0, r1, r2⟩, ⟨v0, v1, v2⟩, ⟨f0, f1, f2⟩, f3, f4, f5⟩ := hin3.boxes
            obtain ⟨g10, g11, g12, g13⟩ := id hF3
            refine (great_any _ _ _).mono ?_
            rintro e w4 ⟨rfl, rfl⟩
            cases hgr : vgreat (f.num - base + 1) f.val
            · go_wp2_with fail
              go_still_tail 12, (by kernel_rfl)
              change wpList _ _ _ _ _ W3.drew
              have hin4 : InB2 w W3.drew acc := ⟨hin3.R, hin3.V, hin3.bel.drew⟩
              clear hin3 hF3 r0 r1 r2 v0 v1 v2 f0 f1 f2 f3 f4 f5 g10 g11 g12 g13
              generalize W3.drew = W4 at *
              obtain ⟨⟨r0, r1, r2⟩, ⟨v0, v1, v2⟩, ⟨f0, f1, f2⟩, f3, f4, f5⟩ := hin4.boxes
              go_wp2_with fail
              go_roundw
              case rel => exact ⟨j + 1, ⟨f.num - base + 1, f.val, f.text⟩, by go_num, by omega, by rw [HS2.out, if_neg (fun h => h HKD.out), if_neg (by rw [hgr]; simp)], hin4.R.other3 (by omega) _ _ _, hin4.V.set3 ⟨f.num - base + 1, f.val, f.text⟩, below_set3 hin4.bel (by omega) _ _ _⟩
              case measure => simp [intOf]; omega
            · go_wp2_with fail
              (try simp only [Exit.inBlock, Exit.then])
              refine bodyPost_ret (v := .tuple #[.agg VV.zero.cells, .int .i64 5]) ?_ rfl ⟨?_, below_set3 hin3.bel (Nat.le_refl _) _ _ _⟩
              · rw [results_cell_tmp rfl]; go_simp; rfl
              · rw [HS2.out, if_neg (fun h => h HKD.out), if_pos hgr]
          · have hkb : (f.kind != vkind (f.num - base + 1)) = true := by simpa using hkd
            have HKD := Lib.hid hkd
            clear hkd
            go_wp2_with fail
            go_quiet (first | (go_at_call 87; exact Calls.quiet_of_same ((kind_any _ _).mono fun _ _ h => ⟨h.1, h.2.symm⟩)) | (go_at_call 105; exact Calls.quiet_of_same ((great_any _ _ _).mono fun _ _ h => ⟨h.1, h.2.symm⟩)))
            go_wp2_with fail
            (try simp only [Exit.inBlock, Exit.then])
            refine bodyPost_ret (v := .tuple #[.agg VV.zero.cells, .int .i64 4]) ?_ rfl ⟨?_, below_set3 (below_drewN hin.bel _) (Nat.le_refl _) _ _ _⟩
            · rw [results_cell_tmp rfl]; go_simp; rfl
            · rw [HS2.out, if_pos HKD.out]
        · go_wp2_with fail
          (try simp only [Exit.inBlock, Exit.then])
          refine bodyPost_ret (v := .tuple #[.agg acc.cells, .int .i64 0]) ?_ rfl ⟨?_, below_set3 hin.bel (Nat.le_refl _) _ _ _⟩
          · rw [results_cell_tmp rfl]; go_simp; rfl
          · have e := HE.out
            rw [List.drop_eq_nil_of_le (by omega)] at e
            rw [← e]; rfl
    · go_enter Tryd.func77, Tryd.ntmps77
      go_wp2_with fail
      go_loopw [10] (fun i wr => ∃ (j : Nat) (acc : VV), i = .int .i64 j ∧ j ≤ l.length ∧ vofs base false (l.drop j) acc = res ∧ InB2 w wr acc) (fun i _ => l.length - (intOf i).toNat)
      case atStart =>
        refine ⟨0, VV.zero, rfl, Nat.zero_le _, HRES.out, ?_, ?_, ((Below.refl _ w).alloc (Nat.le_refl _) _).alloc (by simp) _⟩
        · exact (Below.heap_alloc _ _ _ (by simp)).trans (Box3.new w VV.zero)
        · have := Box3.new (w.alloc (.cells VV.zero.cells 42)) VV.zero
          rw [World.size_alloc] at this
          exact this
      case round =>
        obtain ⟨j, acc, rfl, hj, he, hin⟩ := hrel
        obtain ⟨⟨r0, r1, r2⟩, ⟨v0, v1, v2⟩, ⟨f0, f1, f2⟩, f3, f4, f5⟩ := hin.boxes
        have HE := Lib.hid he
        clear he
        by_cases hlt : j < l.length
        · obtain ⟨f, hf⟩ : ∃ f, l[j]? = some f := ⟨_, List.getElem?_eq_getElem hlt⟩
          have hdrop : l.drop j = f :: l.drop (j + 1) := by
            obtain ⟨h1, h2⟩ := List.getElem?_eq_some_iff.1 hf
            rw [List.drop_eq_getElem_cons h1, h2]
          obtain ⟨hn0, hn1, hn2⟩ := HWF.out f (List.mem_of_getElem? hf)
          have hlen := flc_len l
          obtain ⟨b1, o1, rfl, hb1, hc1⟩ := (HR.out.below hin.bel (by omega)).some_ (by omega)
          have g1 : ∀ i, i < 4 → wr.cell? ⟨b1, o1 + j * 4 + i, none⟩ = f.cells[i]? := fun i hi => by
            rw [show o1 + j * 4 + i = o1 + (4 * j + i) by omega]; exact (hc1 _ (by omega)).trans (flc_at hf i hi)
          have g10 : wr.cell? ⟨b1, o1 + j * 4, none⟩ = some (.int .i64 f.num) := g1 0 (by omega)
          have g11 : wr.cell? ⟨b1, o1 + j * 4 + 1, none⟩ = some (.int .i64 f.kind) := g1 1 (by omega)
          have g12 : wr.cell? ⟨b1, o1 + j * 4 + 2, none⟩ = some (.int .u64 f.val) := g1 2 (by omega)
          have g13 : wr.cell? ⟨b1, o1 + j * 4 + 3, none⟩ = some (.string f.text) := g1 3 (by omega)
          have hstep : vofs base false (f :: l.drop (j + 1)) acc = res := hdrop ▸ HE.out
          have HS := Lib.hid hstep
          clear hstep hdrop hc1 g1 hlen hf HWF HR HE
          by_cases hlo : f.num < base
          · have hk0 : vkof f.num base false = 0 := by unfold vkof; rw [if_neg (by omega)]
            have HK0 := Lib.hid hk0
            clear hk0
            go_wp2_with fail
            go_roundw
            case rel => exact ⟨j + 1, acc, by go_num, by omega, by have e := HS.out; rwa [vofs, if_pos HK0.out] at e, hin⟩
            case measure => simp [intOf]; omega
          by_cases hhi : base + 6 ≤ f.num
          · have hk0 : vkof f.num base false = 0 := by unfold vkof; rw [if_neg (by rintro ⟨a, b, c⟩; have := c (by omega); simp at this)]
            have HK0 := Lib.hid hk0
            clear hk0
            go_wp2_with fail
            go_roundw
            case rel => exact ⟨j + 1, acc, by go_num, by omega, by have e := HS.out; rwa [vofs, if_pos HK0.out] at e, hin⟩
            case measure => simp [intOf]; omega
          have hkv : vkof f.num base false = f.num - base + 1 := by unfold vkof; rw [if_pos ⟨by omega, by omega, fun h => by omega⟩]
          have hs2 : res = if ¬ f.kind = vkind (f.num - base + 1) then (VV.zero, 4) else if vgreat (f.num - base + 1) f.val = true then (VV.zero, 5) else vofs base false (l.drop (j + 1)) ⟨f.num - base + 1, f.val, f.text⟩ := by
            have e := HS.out
            rw [vofs, if_neg (by rw [hkv]; omega), hkv] at e
            exact e.symm
          have HS2 := Lib.hid hs2
          clear hs2 hkv HS
          have hF : InF wr b1 (o1 + j * 4) f := ⟨g10, g11, g12, g13⟩
          by_cases hkd : f.kind = vkind (f.num - base + 1)
          · have hkb : (f.kind != vkind (f.num - base + 1)) = false := by simpa using hkd
            have HKD := Lib.hid hkd
            clear hkd
            go_wp2_with fail
            go_quiet (first | (go_at_call 87; exact Calls.quiet_of_same ((kind_any _ _).mono fun _ _ h => ⟨h.1, h.2.symm⟩)) | (go_at_call 105; exact Calls.quiet_of_same ((great_any _ _ _).mono fun _ _ h => ⟨h.1, h.2.symm⟩)))
            go_wp2_with fail
            have hin3 := hin.drewN nq
            have hF3 := hF.drewN nq
            clear hin hF r0 r1 r2 v0 v1 v2 f0 f1 f2 f3 f4 f5 g10 g11 g12 g13
            generalize wr.drewN nq = W3 at *
            obtain ⟨⟨r0, r1, r2⟩, ⟨v0, v1, v2⟩, ⟨f0, f1, f2⟩, f3, f4, f5⟩ := hin3.boxes
            obtain ⟨g10, g11, g12, g13⟩ := id hF3
            refine (great_any _ _ _).mono ?_
            rintro e w4 ⟨rfl, rfl⟩
            cases hgr : vgreat (f.num - base + 1) f.val
            · go_wp2_with fail
              go_still_tail 12, (by kernel_rfl)
              change wpList _ _ _ _ _ W3.drew
              have hin4 : InB2 w W3.drew acc := ⟨hin3.R, hin3.V, hin3.bel.drew⟩
              clear hin3 hF3 r0 r1 r2 v0 v1 v2 f0 f1 f2 f3 f4 f5 g10 g11 g12 g13
              generalize W3.drew = W4 at *
              obtain ⟨⟨r0, r1, r2⟩, ⟨v0, v1, v2⟩, ⟨f0, f1, f2⟩, f3, f4, f5⟩ := hin4.boxes
              go_wp2_with fail
              go_roundw
              case rel => exact ⟨j + 1, ⟨f.num - base + 1, f.val, f.text⟩, by go_num, by omega, by rw [HS2.out, if_neg (fun h => h HKD.out), if_neg (by rw [hgr]; simp)], hin4.R.other3 (by omega) _ _ _, hin4.V.set3 ⟨f.num - base + 1, f.val, f.text⟩, below_set3 hin4.bel (by omega) _ _ _⟩
              case measure => simp [intOf]; omega
            · go_wp2_with fail
              (try simp only [Exit.inBlock, Exit.then])
              refine bodyPost_ret (v := .tuple #[.agg VV.zero.cells, .int .i64 5]) ?_ rfl ⟨?_, below_set3 hin3.bel (Nat.le_refl _) _ _ _⟩
              · rw [results_cell_tmp rfl]; go_simp; rfl
              · rw [HS2.out, if_neg (fun h => h HKD.out), if_pos hgr]
          · have hkb : (f.kind != vkind (f.num - base + 1)) = true := by simpa using hkd
            have HKD := Lib.hid hkd
            clear hkd
            go_wp2_with fail
            go_quiet (first | (go_at_call 87; exact Calls.quiet_of_same ((kind_any _ _).mono fun _ _ h => ⟨h.1, h.2.symm⟩)) | (go_at_call 105; exact Calls.quiet_of_same ((great_any _ _ _).mono fun _ _ h => ⟨h.1, h.2.symm⟩)))
            go_wp2_with fail
            (try simp only [Exit.inBlock, Exit.then])
            refine bodyPost_ret (v := .tuple #[.agg VV.zero.cells, .int .i64 4]) ?_ rfl ⟨?_, below_set3 (below_drewN hin.bel _) (Nat.le_refl _) _ _ _⟩
            · rw [results_cell_tmp rfl]; go_simp; rfl
            · rw [HS2.out, if_pos HKD.out]
        · go_wp2_with fail
          (try simp only [Exit.inBlock, Exit.then])
          refine bodyPost_ret (v := .tuple #[.agg acc.cells, .int .i64 0]) ?_ rfl ⟨?_, below_set3 hin.bel (Nat.le_refl _) _ _ _⟩
          · rw [results_cell_tmp rfl]; go_simp; rfl
          · have e := HE.out
            rw [List.drop_eq_nil_of_le (by omega)] at e
            rw [← e]; rfl
  · have hv : vof base raw l = (VV.zero, 1) := by unfold vof; rw [if_neg hb]
    rw [hv]
    clear hv hr hwf
    have hBB : ∀ o1 o2, Below w.heap.size w ((w.alloc o1).alloc o2) := fun _ _ => ((Below.refl _ w).alloc (Nat.le_refl _) _).alloc (by simp) _
    by_cases h1 : base < 1
    · clear hb
      go_enter Tryd.func77, Tryd.ntmps77
      go_wp2_with fail
      (try simp only [Exit.inBlock, Exit.then])
      refine bodyPost_ret (v := .tuple #[.agg VV.zero.cells, .int .i64 1]) ?_ rfl ⟨rfl, ?_⟩
      · rw [results_cell_tmp rfl]; go_simp; rfl
      · first | exact (Below.refl _ w).alloc (Nat.le_refl _) _ | exact hBB _ _
    · have h2 : 1000 < base := by omega
      clear hb
      go_enter Tryd.func77, Tryd.ntmps77
      go_wp2_with fail
      (try simp only [Exit.inBlock, Exit.then])
      refine bodyPost_ret (v := .tuple #[.agg VV.zero.cells, .int .i64 1]) ?_ rfl ⟨rfl, ?_⟩
      · rw [results_cell_tmp rfl]; go_simp; rfl
      · first | exact (Below.refl _ w).alloc (Nat.le_refl _) _ | exact hBB _ _
end Go.Proofs.YtanfnjlndckhkaaDoor

/- WALK: props.halves -/
namespace Go.Proofs.YtanfnjlndckhkaaDoor
open Go.RowKit Plain

def HPost (l : List Fld) (w : World) (e : Ending) (w' : World) : Prop :=
  ∃ (K V : List Fld) (A1 : Option Addr) (c1 : Nat) (A2 : Option Addr) (c2 : Nat), e = .returned (.tuple #[.slice A1 K.length c1, .slice A2 V.length c2, .int .i64 (phalves l)]) ∧
    (Rd w' w'.heap.size A1 (flc K) ∧ Rd w' w'.heap.size A2 (flc V)) ∧ (phalves l = 0 → K = wall 1 l ∧ V = wall 2 l) ∧ Below w.heap.size w w'
theorem hpost_err {l : List Fld} {w w' : World} {e : Int} (h : phalves l = e) (he : ¬ e = 0) (hB : Below w.heap.size w w') : HPost l w (.returned (.tuple #[.slice none 0 0, .slice none 0 0, .int .i64 e])) w' :=
  ⟨[], [], none, 0, none, 0, by rw [h]; rfl, ⟨Rd.nil, Rd.nil⟩, fun h0 => absurd (h.symm.trans h0) he, hB⟩
set_option maxRecDepth 100000 in
set_option maxHeartbeats 4000000 in
theorem halves_any (l : List Fld) (A : Option Addr) (c : Nat) (hl : l.length ≤ 256) (w : World) (hr : Rd w w.heap.size A (flc l)) :
    Calls Tryd.prog 65 #[.slice A l.length c] w (HPost l w) := by
  have h1 := fun W (hB : Below w.heap.size w W) => all_any 1 l A c (by omega) W ((hr.below hB (Nat.le_refl _)).more hB.size)
  have h2 := fun W (hB : Below w.heap.size w W) => all_any 2 l A c (by omega) W ((hr.below hB (Nat.le_refl _)).more hB.size)
  have k1 := wall_len 1 l
  have k2 := wall_len 2 l
  obtain ⟨n, hn⟩ : ∃ n, l.length = n := ⟨_, rfl⟩
  rw [hn] at hl h1 h2 k1 k2 ⊢
  have HN := Lib.hid hn
  have HR := Lib.hid hr
  have HA := Lib.hid (And.intro h1 h2)
  have HLE := Lib.hid (And.intro k1 k2)
  clear hn hr h1 h2 k1 k2
  go_enter Tryd.func65, Tryd.ntmps65
  go_wp2_with fail
  go_loopw [11] (fun i wr => ∃ (j : Nat), i = .int .i64 j ∧ j ≤ n ∧ ferr (l.map phalf) = ferr ((l.drop j).map phalf) ∧ Below w.heap.size w wr) (fun i _ => n - (intOf i).toNat)
  case atStart => exact ⟨0, rfl, Nat.zero_le _, rfl, Below.refl _ _⟩
  case round =>
    obtain ⟨j, rfl, hj, he, hB⟩ := hrel
    have hs := hB.size
    have HE := Lib.hid he
    clear he
    by_cases hlt : j < n
    · obtain ⟨f, hf⟩ : ∃ f, l[j]? = some f := ⟨_, List.getElem?_eq_getElem (by rw [HN.out]; exact hlt)⟩
      obtain ⟨b1, o1, rfl, hb1, g0, g1, g2, g3⟩ := fld_at (HR.out.below hB (Nat.le_refl _)) hf
      have HEC : Hid (ferr (l.map phalf) = if phalf f = 0 then ferr ((l.drop (j + 1)).map phalf) else phalf f) := Lib.hid (by rw [HE.out, ferr_cons (f := phalf) hf])
      obtain ⟨num, kind, val, text⟩ := f
      simp only at g0 g1 g2 g3
      have hBa := hB.alloc hs (Obj.cells #[.int .i64 num, .int .i64 kind, .int .u64 val, .string text] 64)
      clear hf HE
      by_cases n12 : num = 1 ∨ num = 2
      · by_cases hk : kind = 2
        · have HG : Hid (ferr (l.map phalf) = ferr ((l.drop (j + 1)).map phalf)) := Lib.hid (by have := HEC.out; rwa [if_pos (show phalf ⟨num, kind, val, text⟩ = 0 by unfold phalf; rw [if_neg (fun h => h.2 hk)])] at this)
          subst hk
          clear HEC
          rcases n12 with rfl | rfl
          all_goals
            go_wp2_with fail
            go_roundw
            case rel => exact ⟨j + 1, by go_num, by omega, HG.out, hBa⟩
            case measure => simp [intOf]; omega
        · have hph : phalves l = 4 := by
            have h1 := HEC.out
            have h0 : phalf ⟨num, kind, val, text⟩ = 4 := by unfold phalf; rw [if_pos ⟨n12, hk⟩]
            rw [h0, if_neg (by decide)] at h1
            unfold phalves
            rw [if_neg (by rw [h1]; decide), h1]
          have HPH := Lib.hid hph
          have hb : (kind != 2) = true := by simpa using hk
          clear hk HEC hph
          rcases n12 with rfl | rfl
          all_goals
            go_wp2_with fail
            go_ret3
            exact hpost_err HPH.out (by decide) hBa
      · have HG : Hid (ferr (l.map phalf) = ferr ((l.drop (j + 1)).map phalf)) := Lib.hid (by have := HEC.out; rwa [if_pos (show phalf ⟨num, kind, val, text⟩ = 0 by unfold phalf; rw [if_neg (fun h => n12 h.1)])] at this)
        have b1' : (num == 1) = false := by simp; intro h; exact n12 (.inl h)
        have b2' : (num == 2) = false := by simp; intro h; exact n12 (.inr h)
        clear n12 HEC
        go_wp2_with fail
        go_roundw
        case rel => exact ⟨j + 1, by go_num, by omega, HG.out, hBa⟩
        case measure => simp [intOf]; omega
    · have hz : ferr (l.map phalf) = 0 := by rw [HE.out, List.drop_eq_nil_of_le (by rw [HN.out]; omega)]; rfl
      have HPH : Hid (phalves l = if 32 < (wall 1 l).length ∨ 32 < (wall 2 l).length then 6 else if (wall 1 l).length = (wall 2 l).length then 0 else 4) := Lib.hid (by unfold phalves; rw [if_pos hz])
      obtain ⟨h1, h2⟩ := HA.out
      obtain ⟨k1, k2⟩ := HLE.out
      obtain ⟨K, hK⟩ : ∃ N, wall 1 l = N := ⟨_, rfl⟩
      obtain ⟨V, hV⟩ : ∃ N, wall 2 l = N := ⟨_, rfl⟩
      rw [hK] at h1 k1 HPH
      rw [hV] at h2 k2 HPH
      have HEQ := Lib.hid (And.intro hK.symm hV.symm)
      obtain ⟨nk, hnk⟩ : ∃ k, K.length = k := ⟨_, rfl⟩
      obtain ⟨nv, hnv⟩ : ∃ k, V.length = k := ⟨_, rfl⟩
      rw [hnk] at h1 k1 HPH
      rw [hnv] at h2 k2 HPH
      have HLN := Lib.hid (And.intro hnk hnv)
      obtain rfl : j = n := by omega
      clear hK hV hnk hnv hz HE hlt HA HLE
      go_wp2_with fail
      refine (h1 _ hB).mono ?_
      rintro e w1 ⟨A1, c1, rfl, ho1, hB1⟩
      have hW1 := bel_step hB hB1
      clear h1
      go_wp2_with fail
      refine (h2 _ hW1).mono ?_
      rintro e w2 ⟨A2, c2, rfl, ho2, hB2⟩
      have hW2 := bel_step hW1 hB2
      have hr1 := own_rd2 ho1 hB2
      have hr2 := Rd.of_own ho2
      clear h2 ho1 ho2 hB1 hB2
      by_cases b1 : 32 < nk
      · have hd : decide ((32 : Int) < (nk : Int)) = true := decide_eq_true (by omega)
        have HP := Lib.hid (show phalves l = 6 by rw [HPH.out, if_pos (.inl b1)])
        clear HPH b1
        go_wp2_with fail
        go_ret3
        exact hpost_err HP.out (by decide) hW2
      have hd : decide ((32 : Int) < (nk : Int)) = false := decide_eq_false (by omega)
      by_cases b2 : 32 < nv
      · have hd2 : decide ((32 : Int) < (nv : Int)) = true := decide_eq_true (by omega)
        have HP := Lib.hid (show phalves l = 6 by rw [HPH.out, if_pos (.inr b2)])
        clear HPH b2 b1
        go_wp2_with fail
        go_ret3
        exact hpost_err HP.out (by decide) hW2
      have hd2 : decide ((32 : Int) < (nv : Int)) = false := decide_eq_false (by omega)
      by_cases b3 : nk = nv
      · have HP := Lib.hid (show phalves l = 0 by rw [HPH.out, if_neg (by omega), if_pos b3])
        subst b3
        clear HPH b1 b2
        go_wp2_with fail
        go_ret3
        exact ⟨K, V, A1, c1, A2, c2, by rw [HP.out, HLN.out.1, HLN.out.2]; rfl, ⟨hr1, hr2⟩, fun _ => HEQ.out, hW2⟩
      · have hb3 : ((nk : Int) != (nv : Int)) = true := by simp; omega
        have HP := Lib.hid (show phalves l = 4 by rw [HPH.out, if_neg (by omega), if_neg b3])
        clear HPH b1 b2 b3
        go_wp2_with fail
        go_ret3
        exact hpost_err HP.out (by decide) hW2
end Go.Proofs.YtanfnjlndckhkaaDoor
