/- WALKS: payload.small, Seq, first, Find, Bd; crierref10.Seq, Find, Bd (printed by genplf.py) -/
import Derived.Test.YtaahhommfpohhaaPlS
import Derived.Test.YtaahhommfpohhaaWrap
import Derived.Laws.ResultCell
namespace Go.Proofs.Ytaahhommfpohhaa
open Go.RowKit

/-- the first metric of a name -/
def pfind (name : ByteArray) : List Nd → Option Nd
  | [] => none
  | p :: l => if seq p.h.name name = true then some p else pfind name l
def pgot (o : Option Nd) : Nd := o.getD Nd.zero
theorem pfind_mem {name : ByteArray} : ∀ {l : List Nd} {p : Nd}, pfind name l = some p → p ∈ l := by
  intro l
  induction l with
  | nil => intro p h; cases h
  | cons q l ih =>
    intro p h
    rw [pfind] at h
    split at h
    · obtain rfl : q = p := by simpa using h
      simp
    · simp [ih h]
def psmall (n : Nat) : Nat × Bool := if 256 ≤ n then (0, false) else (n, true)
def pseq (p : Pl) : Nat × Bool := if p.has = true then psmall p.seq else (0, false)
theorem BoxC.frozen {W : World} {B : Nat} {cs : Array Value} {t : TypeId} (h : BoxC W B cs t) (i : Nat) : W.frozen? ⟨B, i, none⟩ = false := by simp [World.frozen?, show W.heap[B]? = _ from h]
set_option maxRecDepth 100000 in
theorem small_any (n : Nat) (hn : n < 18446744073709551616) (w : World) : Calls Try.prog 43 #[.int .u64 n] w fun e w' => e = .returned (.tuple #[.int .i64 (psmall n).1, .bool (psmall n).2]) ∧ Below w.heap.size w w' := by
  unfold psmall
  by_cases h : 256 ≤ n
  · have hb : decide ((256 : Int) ≤ (n : Int)) = true := decide_eq_true (by omega)
    rw [if_pos h]
    clear h
    go_enter Try.func43, Try.ntmps43
    go_wp2_with fail
    go_ret2
    exact ⟨rfl, Below.refl _ _⟩
  · have hb : decide ((256 : Int) ≤ (n : Int)) = false := decide_eq_false (by omega)
    have hw : IntKind.i64.wrap (n : Int) = (n : Int) := wrap_small n (by omega)
    rw [if_neg h]
    clear h hn
    go_enter Try.func43, Try.ntmps43
    go_wp2_with fail
    go_ret2
    exact ⟨rfl, Below.refl _ _⟩
set_option maxRecDepth 100000 in
set_option maxHeartbeats 1000000 in
theorem plseq_any (p : Pl) (hp : p.Ok) (w : World) : Calls Try.prog 20 #[p.agg] w fun e w' => e = .returned (.tuple #[.int .i64 (pseq p).1, .bool (pseq p).2]) ∧ Below w.heap.size w w' := by
  have hs := hp.seq
  obtain ⟨xtime, xhas, xseq, xuuid, xbody, xadr, xcap, xmets⟩ := p
  unfold Pl.agg pseq
  simp only at hs ⊢
  generalize xmets.list.length = xml at *
  clear hp
  have hE0 := (Below.refl w.heap.size w).alloc (Nat.le_refl _) (Obj.cells #[.int .u64 xtime, .bool xhas, .int .u64 xseq, .string xuuid, .string xbody, .slice xadr xml xcap] 43)
  have hc := small_any xseq hs (w.alloc (Obj.cells #[.int .u64 xtime, .bool xhas, .int .u64 xseq, .string xuuid, .string xbody, .slice xadr xml xcap] 43))
  cases xhas
  · go_enter Try.func20, Try.ntmps20
    go_wp2_with fail
    go_ret2
    exact ⟨rfl, hE0⟩
  · rw [if_pos rfl]
    generalize psmall xseq = q at *
    obtain ⟨q1, q2⟩ := q
    go_enter Try.func20, Try.ntmps20
    go_wp2_with fail
    refine hc.mono ?_
    rintro e w1 ⟨rfl, hB⟩
    go_wp2_with fail
    go_ret2
    exact ⟨rfl, bel_step hE0 hB⟩
set_option maxRecDepth 100000 in
set_option maxHeartbeats 1000000 in
theorem rplseq_any (p : Pl) (w : World) : Calls Try.prog 21 #[p.agg] w fun e w' => e = .returned (.tuple #[.int .i64 (pseq p).1, .bool (pseq p).2]) ∧ Below w.heap.size w w' := by
  obtain ⟨xtime, xhas, xseq, xuuid, xbody, xadr, xcap, xmets⟩ := p
  unfold Pl.agg pseq psmall
  simp only
  generalize xmets.list.length = xml at *
  have hE0 := (Below.refl w.heap.size w).alloc (Nat.le_refl _) (Obj.cells #[.int .u64 xtime, .bool xhas, .int .u64 xseq, .string xuuid, .string xbody, .slice xadr xml xcap] 43)
  cases xhas
  · go_enter Try.func21, Try.ntmps21
    go_wp2_with fail
    go_ret2
    exact ⟨rfl, hE0⟩
  · rw [if_pos rfl]
    by_cases h : 256 ≤ xseq
    · have hb : decide ((255 : Int) < (xseq : Int)) = true := decide_eq_true (by omega)
      rw [if_pos h]
      clear h
      go_enter Try.func21, Try.ntmps21
      go_wp2_with fail
      go_ret2
      exact ⟨rfl, hE0⟩
    · have hb : decide ((255 : Int) < (xseq : Int)) = false := decide_eq_false (by omega)
      have hw : IntKind.i64.wrap (xseq : Int) = (xseq : Int) := wrap_small xseq (by omega)
      rw [if_neg h]
      clear h
      go_enter Try.func21, Try.ntmps21
      go_wp2_with fail
      go_ret2
      exact ⟨rfl, hE0⟩
set_option maxRecDepth 100000 in
set_option maxHeartbeats 1000000 in
theorem fnd1_any (x : Nd) (name : ByteArray) (B : Nat) (w : World) (hb : w.cell? ⟨B, 0, none⟩ = some (.string name)) :
    Calls Try.prog 45 #[x.magg, .pointer (some ⟨B, 0, none⟩)] w fun e w' => e = .returned (.bool (seq x.h.name name)) ∧ Below w.heap.size w w' := by
  have hbB : B < w.heap.size := World.block_lt_of_cell? w _ hb
  unfold Nd.magg seq
  generalize x.h.name = xV0 at *
  generalize x.h.has = xV1 at *
  generalize x.h.al = xV2 at *
  generalize x.h.time = xV3 at *
  generalize x.h.type = xV4 at *
  generalize x.h.hist = xV5 at *
  generalize x.h.trans = xV6 at *
  generalize x.h.null = xV7 at *
  generalize x.h.metas.length = xL8 at *
  generalize x.h.ma = xA8 at *
  generalize x.h.mc = xV8 at *
  generalize x.h.props.list.length = xL9 at *
  generalize x.h.pa = xA9 at *
  generalize x.h.pc = xV9 at *
  generalize x.h.v.k = xV10 at *
  generalize x.h.v.n = xV11 at *
  generalize x.h.v.s = xV12 at *
  generalize x.h.sets.length = xL13 at *
  generalize x.h.sa = xA13 at *
  generalize x.h.sc = xV13 at *
  generalize x.sub.list.length = xL14 at *
  generalize x.adr = xA14 at *
  generalize x.cap = xV14 at *
  have hE0 := (Below.refl w.heap.size w).alloc (Nat.le_refl _) (Obj.cells #[.string xV0, .bool xV1, .int .u64 xV2, .int .u64 xV3, .int .u32 xV4, .bool xV5, .bool xV6, .bool xV7, .slice xA8 xL8 xV8, .slice xA9 xL9 xV9, .int .i64 xV10, .int .u64 xV11, .string xV12, .slice xA13 xL13 xV13, .slice xA14 xL14 xV14] 31)
  go_enter Try.func45, Try.ntmps45
  go_wp2_with fail
  go_ret
  exact ⟨rfl, hE0⟩
theorem cf_fnd1 (args : Array Value) (W : World) : (callFunc 45 args).run Try.prog W = .ok (.enter 45 args) W := by go_simp
theorem below_set15 {B C : Nat} {w W : World} (h : Below B w W) (hB : B ≤ C) (v0 v1 v2 v3 v4 v5 v6 v7 v8 v9 v10 v11 v12 v13 v14 : Value) : Below B w (((((((((((((((W.setCell ⟨C, 0, none⟩ v0).setCell ⟨C, 1, none⟩ v1).setCell ⟨C, 2, none⟩ v2).setCell ⟨C, 3, none⟩ v3).setCell ⟨C, 4, none⟩ v4).setCell ⟨C, 5, none⟩ v5).setCell ⟨C, 6, none⟩ v6).setCell ⟨C, 7, none⟩ v7).setCell ⟨C, 8, none⟩ v8).setCell ⟨C, 9, none⟩ v9).setCell ⟨C, 10, none⟩ v10).setCell ⟨C, 11, none⟩ v11).setCell ⟨C, 12, none⟩ v12).setCell ⟨C, 13, none⟩ v13).setCell ⟨C, 14, none⟩ v14) := (((((((((((((((h.setCell (p := ⟨C, 0, none⟩) hB v0).setCell (p := ⟨C, 1, none⟩) hB v1).setCell (p := ⟨C, 2, none⟩) hB v2).setCell (p := ⟨C, 3, none⟩) hB v3).setCell (p := ⟨C, 4, none⟩) hB v4).setCell (p := ⟨C, 5, none⟩) hB v5).setCell (p := ⟨C, 6, none⟩) hB v6).setCell (p := ⟨C, 7, none⟩) hB v7).setCell (p := ⟨C, 8, none⟩) hB v8).setCell (p := ⟨C, 9, none⟩) hB v9).setCell (p := ⟨C, 10, none⟩) hB v10).setCell (p := ⟨C, 11, none⟩) hB v11).setCell (p := ⟨C, 12, none⟩) hB v12).setCell (p := ⟨C, 13, none⟩) hB v13).setCell (p := ⟨C, 14, none⟩) hB v14)
set_option maxRecDepth 100000 in
set_option maxHeartbeats 2000000 in
theorem first_any (l : List Nd) (A : Option Addr) (c : Nat) (name : ByteArray) (B : Nat) (w : World) (hl : l.length ≤ 9223372036854775807) (hr : Rd w w.heap.size A (ncl true l)) (hb : w.cell? ⟨B, 0, none⟩ = some (.string name)) :
    Calls Try.prog 44 #[.slice A l.length c, .func (.func 45) #[] #[.pointer (some ⟨B, 0, none⟩)]] w fun e w' => e = .returned (.tuple #[(pgot (pfind name l)).magg, .bool (pfind name l).isSome]) ∧ Below w.heap.size w w' := by
  have hbB : B < w.heap.size := World.block_lt_of_cell? w _ hb
  obtain ⟨q, hq⟩ : ∃ q, pfind name l = q := ⟨_, rfl⟩
  rw [hq]
  have hcf := cf_fnd1
  have HQ := Lib.hid hq
  have HR := Lib.hid hr
  obtain ⟨n, hn⟩ : ∃ n, l.length = n := ⟨_, rfl⟩
  rw [hn] at hl ⊢
  have HN := Lib.hid hn
  have HB := Lib.hid hb
  clear hq hr hn hb
  have hE0 := (Below.refl w.heap.size w).alloc (Nat.le_refl _) (Obj.cells #[.string ⟨#[]⟩, .bool false, .int .u64 0, .int .u64 0, .int .u32 0, .bool false, .bool false, .bool false, .slice none 0 0, .slice none 0 0, .int .i64 0, .int .u64 0, .string ⟨#[]⟩, .slice none 0 0, .slice none 0 0] 31)
  have hX : BoxC (w.alloc (Obj.cells #[.string ⟨#[]⟩, .bool false, .int .u64 0, .int .u64 0, .int .u32 0, .bool false, .bool false, .bool false, .slice none 0 0, .slice none 0 0, .int .i64 0, .int .u64 0, .string ⟨#[]⟩, .slice none 0 0, .slice none 0 0] 31)) w.heap.size #[.string ⟨#[]⟩, .bool false, .int .u64 0, .int .u64 0, .int .u32 0, .bool false, .bool false, .bool false, .slice none 0 0, .slice none 0 0, .int .i64 0, .int .u64 0, .string ⟨#[]⟩, .slice none 0 0, .slice none 0 0] 31 := World.alloc_heap_new w _
  go_enter Try.func44, Try.ntmps44
  go_wp2_with fail
  generalize w.alloc (Obj.cells #[.string ⟨#[]⟩, .bool false, .int .u64 0, .int .u64 0, .int .u32 0, .bool false, .bool false, .bool false, .slice none 0 0, .slice none 0 0, .int .i64 0, .int .u64 0, .string ⟨#[]⟩, .slice none 0 0, .slice none 0 0] 31) = w0 at *
  go_loopw [11] (fun i wr => ∃ j : Nat, i = .int .i64 j ∧ j ≤ n ∧ pfind name (l.drop j) = q ∧ Below w0.heap.size w0 wr) (fun i _ => n - (intOf i).toNat)
  case atStart => exact ⟨0, rfl, Nat.zero_le _, HQ.out, Below.refl _ _⟩
  case round =>
    obtain ⟨j, rfl, hj, he, hB⟩ := hrel
    have HE := Lib.hid he
    have hW := bel_step hE0 hB
    have hXr := hX.below hB
    clear he
    by_cases hlt : j < n
    · obtain ⟨x, hx⟩ : ∃ x, l[j]? = some x := ⟨_, List.getElem?_eq_getElem (by rw [HN.out]; exact hlt)⟩
      obtain ⟨b1, o1, rfl, hb1, gall⟩ := elem_all (f := Nd.cells true) (n := 15) (fun _ => rfl) (by omega) HR.out hx
      have g0 : wr.cell? ⟨b1, o1 + j * 15, none⟩ = some (.string x.h.name) := gall wr hW 0 (by omega)
      have g1 : wr.cell? ⟨b1, o1 + j * 15 + 1, none⟩ = some (.bool x.h.has) := gall wr hW 1 (by omega)
      have g2 : wr.cell? ⟨b1, o1 + j * 15 + 2, none⟩ = some (.int .u64 x.h.al) := gall wr hW 2 (by omega)
      have g3 : wr.cell? ⟨b1, o1 + j * 15 + 3, none⟩ = some (.int .u64 x.h.time) := gall wr hW 3 (by omega)
      have g4 : wr.cell? ⟨b1, o1 + j * 15 + 4, none⟩ = some (.int .u32 x.h.type) := gall wr hW 4 (by omega)
      have g5 : wr.cell? ⟨b1, o1 + j * 15 + 5, none⟩ = some (.bool x.h.hist) := gall wr hW 5 (by omega)
      have g6 : wr.cell? ⟨b1, o1 + j * 15 + 6, none⟩ = some (.bool x.h.trans) := gall wr hW 6 (by omega)
      have g7 : wr.cell? ⟨b1, o1 + j * 15 + 7, none⟩ = some (.bool x.h.null) := gall wr hW 7 (by omega)
      have g8 : wr.cell? ⟨b1, o1 + j * 15 + 8, none⟩ = some (.slice x.h.ma x.h.metas.length x.h.mc) := gall wr hW 8 (by omega)
      have g9 : wr.cell? ⟨b1, o1 + j * 15 + 9, none⟩ = some (.slice x.h.pa x.h.props.list.length x.h.pc) := gall wr hW 9 (by omega)
      have g10 : wr.cell? ⟨b1, o1 + j * 15 + 10, none⟩ = some (.int .i64 x.h.v.k) := gall wr hW 10 (by omega)
      have g11 : wr.cell? ⟨b1, o1 + j * 15 + 11, none⟩ = some (.int .u64 x.h.v.n) := gall wr hW 11 (by omega)
      have g12 : wr.cell? ⟨b1, o1 + j * 15 + 12, none⟩ = some (.string x.h.v.s) := gall wr hW 12 (by omega)
      have g13 : wr.cell? ⟨b1, o1 + j * 15 + 13, none⟩ = some (.slice x.h.sa x.h.sets.length x.h.sc) := gall wr hW 13 (by omega)
      have g14 : wr.cell? ⟨b1, o1 + j * 15 + 14, none⟩ = some (.slice x.adr x.sub.list.length x.cap) := gall wr hW 14 (by omega)
      have hbw : wr.cell? ⟨B, 0, none⟩ = some (.string name) := (hW.cell (p := ⟨B, 0, none⟩) hbB).trans HB.out
      have hE1 := (Below.refl wr.heap.size wr).alloc (Nat.le_refl _) (Obj.cells #[.string x.h.name, .bool x.h.has, .int .u64 x.h.al, .int .u64 x.h.time, .int .u32 x.h.type, .bool x.h.hist, .bool x.h.trans, .bool x.h.null, .slice x.h.ma x.h.metas.length x.h.mc, .slice x.h.pa x.h.props.list.length x.h.pc, .int .i64 x.h.v.k, .int .u64 x.h.v.n, .string x.h.v.s, .slice x.h.sa x.h.sets.length x.h.sc, .slice x.adr x.sub.list.length x.cap] 31)
      have hc := fnd1_any x name B (wr.alloc (Obj.cells #[.string x.h.name, .bool x.h.has, .int .u64 x.h.al, .int .u64 x.h.time, .int .u32 x.h.type, .bool x.h.hist, .bool x.h.trans, .bool x.h.null, .slice x.h.ma x.h.metas.length x.h.mc, .slice x.h.pa x.h.props.list.length x.h.pc, .int .i64 x.h.v.k, .int .u64 x.h.v.n, .string x.h.v.s, .slice x.h.sa x.h.sets.length x.h.sc, .slice x.adr x.sub.list.length x.cap] 31)) ((hE1.cell (p := ⟨B, 0, none⟩) (World.block_lt_of_cell? wr _ hbw)).trans hbw)
      have hY : BoxC (wr.alloc (Obj.cells #[.string x.h.name, .bool x.h.has, .int .u64 x.h.al, .int .u64 x.h.time, .int .u32 x.h.type, .bool x.h.hist, .bool x.h.trans, .bool x.h.null, .slice x.h.ma x.h.metas.length x.h.mc, .slice x.h.pa x.h.props.list.length x.h.pc, .int .i64 x.h.v.k, .int .u64 x.h.v.n, .string x.h.v.s, .slice x.h.sa x.h.sets.length x.h.sc, .slice x.adr x.sub.list.length x.cap] 31)) wr.heap.size #[.string x.h.name, .bool x.h.has, .int .u64 x.h.al, .int .u64 x.h.time, .int .u32 x.h.type, .bool x.h.hist, .bool x.h.trans, .bool x.h.null, .slice x.h.ma x.h.metas.length x.h.mc, .slice x.h.pa x.h.props.list.length x.h.pc, .int .i64 x.h.v.k, .int .u64 x.h.v.n, .string x.h.v.s, .slice x.h.sa x.h.sets.length x.h.sc, .slice x.adr x.sub.list.length x.cap] 31 := World.alloc_heap_new wr _
      have hX1 := hXr.below hE1
      have hB1' := bel_step hB hE1
      have he2 := HE.out
      rw [drop_cons hx, pfind] at he2
      have HX := Lib.hid (rfl : x.magg = x.magg)
      obtain ⟨t, ht⟩ : ∃ t, seq x.h.name name = t := ⟨_, rfl⟩
      rw [ht] at he2 hc
      have HE2 : Hid ((if t = true then some x else pfind name (l.drop (j + 1))) = q) := Lib.hid he2
      clear gall HE ht he2 hx HX hbw hXr
      have hmg : x.magg = .agg #[.string x.h.name, .bool x.h.has, .int .u64 x.h.al, .int .u64 x.h.time, .int .u32 x.h.type, .bool x.h.hist, .bool x.h.trans, .bool x.h.null, .slice x.h.ma x.h.metas.length x.h.mc, .slice x.h.pa x.h.props.list.length x.h.pc, .int .i64 x.h.v.k, .int .u64 x.h.v.n, .string x.h.v.s, .slice x.h.sa x.h.sets.length x.h.sc, .slice x.adr x.sub.list.length x.cap] := rfl
      rw [hmg] at hc
      generalize x.h.name = xV0 at *
      generalize x.h.has = xV1 at *
      generalize x.h.al = xV2 at *
      generalize x.h.time = xV3 at *
      generalize x.h.type = xV4 at *
      generalize x.h.hist = xV5 at *
      generalize x.h.trans = xV6 at *
      generalize x.h.null = xV7 at *
      generalize x.h.metas.length = xL8 at *
      generalize x.h.ma = xA8 at *
      generalize x.h.mc = xV8 at *
      generalize x.h.props.list.length = xL9 at *
      generalize x.h.pa = xA9 at *
      generalize x.h.pc = xV9 at *
      generalize x.h.v.k = xV10 at *
      generalize x.h.v.n = xV11 at *
      generalize x.h.v.s = xV12 at *
      generalize x.h.sets.length = xL13 at *
      generalize x.h.sa = xA13 at *
      generalize x.h.sc = xV13 at *
      generalize x.sub.list.length = xL14 at *
      generalize x.adr = xA14 at *
      generalize x.cap = xV14 at *
      have HMG := Lib.hid hmg
      clear hmg
      go_wp2_with fail
      refine hc.mono ?_
      rintro e w1 ⟨rfl, hB1⟩
      have hW1 := bel_step hB1' hB1
      have hWw := bel_step hE0 hW1
      have hX2 := hX1.below hB1
      have hY2 := hY.below hB1
      clear hc hB1 hB1' hX1 hY hE1 hB hW
      cases t
      · have HE3 : Hid (pfind name (l.drop (j + 1)) = q) := Lib.hid (by have := HE2.out; simpa using this)
        clear HE2 g0 g1 g2 g3 g4 g5 g6 g7 g8 g9 g10 g11 g12 g13 g14
        go_wp2_with fail
        go_roundw
        case rel => exact ⟨j + 1, by go_num, by omega, HE3.out, hW1⟩
        case measure => simp [intOf]; omega
      · have hq : some x = q := by have := HE2.out; simpa using this
        subst hq
        clear HE2 g0 g1 g2 g3 g4 g5 g6 g7 g8 g9 g10 g11 g12 g13 g14
        have bx0 : w1.cell? ⟨w.heap.size, 0, none⟩ = some (.string ⟨#[]⟩) := hX2.cell 0
        have bx1 : w1.cell? ⟨w.heap.size, 1, none⟩ = some (.bool false) := hX2.cell 1
        have bx2 : w1.cell? ⟨w.heap.size, 2, none⟩ = some (.int .u64 0) := hX2.cell 2
        have bx3 : w1.cell? ⟨w.heap.size, 3, none⟩ = some (.int .u64 0) := hX2.cell 3
        have bx4 : w1.cell? ⟨w.heap.size, 4, none⟩ = some (.int .u32 0) := hX2.cell 4
        have bx5 : w1.cell? ⟨w.heap.size, 5, none⟩ = some (.bool false) := hX2.cell 5
        have bx6 : w1.cell? ⟨w.heap.size, 6, none⟩ = some (.bool false) := hX2.cell 6
        have bx7 : w1.cell? ⟨w.heap.size, 7, none⟩ = some (.bool false) := hX2.cell 7
        have bx8 : w1.cell? ⟨w.heap.size, 8, none⟩ = some (.slice none 0 0) := hX2.cell 8
        have bx9 : w1.cell? ⟨w.heap.size, 9, none⟩ = some (.slice none 0 0) := hX2.cell 9
        have bx10 : w1.cell? ⟨w.heap.size, 10, none⟩ = some (.int .i64 0) := hX2.cell 10
        have bx11 : w1.cell? ⟨w.heap.size, 11, none⟩ = some (.int .u64 0) := hX2.cell 11
        have bx12 : w1.cell? ⟨w.heap.size, 12, none⟩ = some (.string ⟨#[]⟩) := hX2.cell 12
        have bx13 : w1.cell? ⟨w.heap.size, 13, none⟩ = some (.slice none 0 0) := hX2.cell 13
        have bx14 : w1.cell? ⟨w.heap.size, 14, none⟩ = some (.slice none 0 0) := hX2.cell 14
        have by0 : w1.frozen? ⟨w.heap.size, 0, none⟩ = false := hX2.frozen 0
        have by1 : w1.frozen? ⟨w.heap.size, 1, none⟩ = false := hX2.frozen 1
        have by2 : w1.frozen? ⟨w.heap.size, 2, none⟩ = false := hX2.frozen 2
        have by3 : w1.frozen? ⟨w.heap.size, 3, none⟩ = false := hX2.frozen 3
        have by4 : w1.frozen? ⟨w.heap.size, 4, none⟩ = false := hX2.frozen 4
        have by5 : w1.frozen? ⟨w.heap.size, 5, none⟩ = false := hX2.frozen 5
        have by6 : w1.frozen? ⟨w.heap.size, 6, none⟩ = false := hX2.frozen 6
        have by7 : w1.frozen? ⟨w.heap.size, 7, none⟩ = false := hX2.frozen 7
        have by8 : w1.frozen? ⟨w.heap.size, 8, none⟩ = false := hX2.frozen 8
        have by9 : w1.frozen? ⟨w.heap.size, 9, none⟩ = false := hX2.frozen 9
        have by10 : w1.frozen? ⟨w.heap.size, 10, none⟩ = false := hX2.frozen 10
        have by11 : w1.frozen? ⟨w.heap.size, 11, none⟩ = false := hX2.frozen 11
        have by12 : w1.frozen? ⟨w.heap.size, 12, none⟩ = false := hX2.frozen 12
        have by13 : w1.frozen? ⟨w.heap.size, 13, none⟩ = false := hX2.frozen 13
        have by14 : w1.frozen? ⟨w.heap.size, 14, none⟩ = false := hX2.frozen 14
        have cx0 : w1.cell? ⟨wr.heap.size, 0, none⟩ = some (.string xV0) := hY2.cell 0
        have cx1 : w1.cell? ⟨wr.heap.size, 1, none⟩ = some (.bool xV1) := hY2.cell 1
        have cx2 : w1.cell? ⟨wr.heap.size, 2, none⟩ = some (.int .u64 xV2) := hY2.cell 2
        have cx3 : w1.cell? ⟨wr.heap.size, 3, none⟩ = some (.int .u64 xV3) := hY2.cell 3
        have cx4 : w1.cell? ⟨wr.heap.size, 4, none⟩ = some (.int .u32 xV4) := hY2.cell 4
        have cx5 : w1.cell? ⟨wr.heap.size, 5, none⟩ = some (.bool xV5) := hY2.cell 5
        have cx6 : w1.cell? ⟨wr.heap.size, 6, none⟩ = some (.bool xV6) := hY2.cell 6
        have cx7 : w1.cell? ⟨wr.heap.size, 7, none⟩ = some (.bool xV7) := hY2.cell 7
        have cx8 : w1.cell? ⟨wr.heap.size, 8, none⟩ = some (.slice xA8 xL8 xV8) := hY2.cell 8
        have cx9 : w1.cell? ⟨wr.heap.size, 9, none⟩ = some (.slice xA9 xL9 xV9) := hY2.cell 9
        have cx10 : w1.cell? ⟨wr.heap.size, 10, none⟩ = some (.int .i64 xV10) := hY2.cell 10
        have cx11 : w1.cell? ⟨wr.heap.size, 11, none⟩ = some (.int .u64 xV11) := hY2.cell 11
        have cx12 : w1.cell? ⟨wr.heap.size, 12, none⟩ = some (.string xV12) := hY2.cell 12
        have cx13 : w1.cell? ⟨wr.heap.size, 13, none⟩ = some (.slice xA13 xL13 xV13) := hY2.cell 13
        have cx14 : w1.cell? ⟨wr.heap.size, 14, none⟩ = some (.slice xA14 xL14 xV14) := hY2.cell 14
        clear hX2 hY2
        go_wp2_with fail
        refine bodyPost_ret (v := .tuple #[.agg #[.string xV0, .bool xV1, .int .u64 xV2, .int .u64 xV3, .int .u32 xV4, .bool xV5, .bool xV6, .bool xV7, .slice xA8 xL8 xV8, .slice xA9 xL9 xV9, .int .i64 xV10, .int .u64 xV11, .string xV12, .slice xA13 xL13 xV13, .slice xA14 xL14 xV14], .bool true]) ?_ rfl ⟨by show _ = Ending.returned (.tuple #[x.magg, .bool true]); rw [HMG.out], ?_⟩
        · rw [results_cell_tmp rfl]; go_simp
        · with_reducible exact below_set15 hWw (Nat.le_refl _) _ _ _ _ _ _ _ _ _ _ _ _ _ _ _
    · have hq : none = q := by rw [← HE.out, List.drop_eq_nil_of_le (by rw [HN.out]; omega)]; rfl
      subst hq
      clear HE
      have hlt0 : w.heap.size < wr.heap.size := hXr.lt
      have hXa : BoxC (wr.alloc (Obj.cells #[.string ⟨#[]⟩, .bool false, .int .u64 0, .int .u64 0, .int .u32 0, .bool false, .bool false, .bool false, .slice none 0 0, .slice none 0 0, .int .i64 0, .int .u64 0, .string ⟨#[]⟩, .slice none 0 0, .slice none 0 0] 31)) w.heap.size #[.string ⟨#[]⟩, .bool false, .int .u64 0, .int .u64 0, .int .u32 0, .bool false, .bool false, .bool false, .slice none 0 0, .slice none 0 0, .int .i64 0, .int .u64 0, .string ⟨#[]⟩, .slice none 0 0, .slice none 0 0] 31 := hXr.below ((Below.refl _ wr).alloc (Nat.le_refl _) _)
      have bx0 : wr.cell? ⟨w.heap.size, 0, none⟩ = some (.string ⟨#[]⟩) := hXr.cell 0
      have bx1 : wr.cell? ⟨w.heap.size, 1, none⟩ = some (.bool false) := hXr.cell 1
      have bx2 : wr.cell? ⟨w.heap.size, 2, none⟩ = some (.int .u64 0) := hXr.cell 2
      have bx3 : wr.cell? ⟨w.heap.size, 3, none⟩ = some (.int .u64 0) := hXr.cell 3
      have bx4 : wr.cell? ⟨w.heap.size, 4, none⟩ = some (.int .u32 0) := hXr.cell 4
      have bx5 : wr.cell? ⟨w.heap.size, 5, none⟩ = some (.bool false) := hXr.cell 5
      have bx6 : wr.cell? ⟨w.heap.size, 6, none⟩ = some (.bool false) := hXr.cell 6
      have bx7 : wr.cell? ⟨w.heap.size, 7, none⟩ = some (.bool false) := hXr.cell 7
      have bx8 : wr.cell? ⟨w.heap.size, 8, none⟩ = some (.slice none 0 0) := hXr.cell 8
      have bx9 : wr.cell? ⟨w.heap.size, 9, none⟩ = some (.slice none 0 0) := hXr.cell 9
      have bx10 : wr.cell? ⟨w.heap.size, 10, none⟩ = some (.int .i64 0) := hXr.cell 10
      have bx11 : wr.cell? ⟨w.heap.size, 11, none⟩ = some (.int .u64 0) := hXr.cell 11
      have bx12 : wr.cell? ⟨w.heap.size, 12, none⟩ = some (.string ⟨#[]⟩) := hXr.cell 12
      have bx13 : wr.cell? ⟨w.heap.size, 13, none⟩ = some (.slice none 0 0) := hXr.cell 13
      have bx14 : wr.cell? ⟨w.heap.size, 14, none⟩ = some (.slice none 0 0) := hXr.cell 14
      have by0 : wr.frozen? ⟨w.heap.size, 0, none⟩ = false := hXr.frozen 0
      have by1 : wr.frozen? ⟨w.heap.size, 1, none⟩ = false := hXr.frozen 1
      have by2 : wr.frozen? ⟨w.heap.size, 2, none⟩ = false := hXr.frozen 2
      have by3 : wr.frozen? ⟨w.heap.size, 3, none⟩ = false := hXr.frozen 3
      have by4 : wr.frozen? ⟨w.heap.size, 4, none⟩ = false := hXr.frozen 4
      have by5 : wr.frozen? ⟨w.heap.size, 5, none⟩ = false := hXr.frozen 5
      have by6 : wr.frozen? ⟨w.heap.size, 6, none⟩ = false := hXr.frozen 6
      have by7 : wr.frozen? ⟨w.heap.size, 7, none⟩ = false := hXr.frozen 7
      have by8 : wr.frozen? ⟨w.heap.size, 8, none⟩ = false := hXr.frozen 8
      have by9 : wr.frozen? ⟨w.heap.size, 9, none⟩ = false := hXr.frozen 9
      have by10 : wr.frozen? ⟨w.heap.size, 10, none⟩ = false := hXr.frozen 10
      have by11 : wr.frozen? ⟨w.heap.size, 11, none⟩ = false := hXr.frozen 11
      have by12 : wr.frozen? ⟨w.heap.size, 12, none⟩ = false := hXr.frozen 12
      have by13 : wr.frozen? ⟨w.heap.size, 13, none⟩ = false := hXr.frozen 13
      have by14 : wr.frozen? ⟨w.heap.size, 14, none⟩ = false := hXr.frozen 14
      clear hXr hXa
      go_wp2_with fail
      refine bodyPost_ret (v := .tuple #[.agg #[.string ⟨#[]⟩, .bool false, .int .u64 0, .int .u64 0, .int .u32 0, .bool false, .bool false, .bool false, .slice none 0 0, .slice none 0 0, .int .i64 0, .int .u64 0, .string ⟨#[]⟩, .slice none 0 0, .slice none 0 0], .bool false]) ?_ rfl ⟨rfl, ?_⟩
      · rw [results_cell_tmp rfl]; go_simp
      · first
        | (with_reducible exact below_set15 (hW.alloc hW.size _) (Nat.le_refl _) _ _ _ _ _ _ _ _ _ _ _ _ _ _ _)
        | (with_reducible refine Below.alloc ?_ ?_ _
           · with_reducible exact below_set15 hW (Nat.le_refl _) _ _ _ _ _ _ _ _ _ _ _ _ _ _ _
           · with_reducible exact (below_set15 hW (Nat.le_refl _) _ _ _ _ _ _ _ _ _ _ _ _ _ _ _).size)
        | trace_state
end Go.Proofs.Ytaahhommfpohhaa
