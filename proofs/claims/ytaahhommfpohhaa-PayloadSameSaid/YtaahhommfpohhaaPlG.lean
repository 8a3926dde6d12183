/- WALKS: payload.Find, crierref10.Find (printed by genplg.py) -/
import Derived.Test.YtaahhommfpohhaaPlF
namespace Go.Proofs.Ytaahhommfpohhaa
open Go.RowKit

theorem box_two2 (w : World) (cs ds : Array Value) (s t : TypeId) : BoxC ((w.alloc (Obj.cells cs s)).alloc (Obj.cells ds t)) w.heap.size cs s ∧ BoxC ((w.alloc (Obj.cells cs s)).alloc (Obj.cells ds t)) (w.heap.size + 1) ds t := by
  constructor
  · exact (Below.heap_alloc _ _ _ (by simp)).trans (World.alloc_heap_new w _)
  · have := World.alloc_heap_new (w.alloc (Obj.cells cs s)) (Obj.cells ds t)
    rw [World.size_alloc] at this
    exact this
theorem box_three (w : World) (cs ds es : Array Value) (s t r : TypeId) : BoxC (((w.alloc (Obj.cells cs s)).alloc (Obj.cells ds t)).alloc (Obj.cells es r)) w.heap.size cs s ∧ BoxC (((w.alloc (Obj.cells cs s)).alloc (Obj.cells ds t)).alloc (Obj.cells es r)) (w.heap.size + 1) ds t ∧ BoxC (((w.alloc (Obj.cells cs s)).alloc (Obj.cells ds t)).alloc (Obj.cells es r)) (w.heap.size + 2) es r := by
  obtain ⟨h1, h2⟩ := box_two2 w cs ds s t
  refine ⟨(Below.heap_alloc _ _ _ (by simp; omega)).trans h1, (Below.heap_alloc _ _ _ (by simp)).trans h2, ?_⟩
  have := World.alloc_heap_new ((w.alloc (Obj.cells cs s)).alloc (Obj.cells ds t)) (Obj.cells es r)
  simp only [World.size_alloc] at this
  exact this
set_option maxRecDepth 100000 in
set_option maxHeartbeats 2000000 in
theorem plfind_any (p : Pl) (hp : p.Ok) (name : ByteArray) (w : World) (hat : p.At w w.heap.size) :
    Calls Try.prog 24 #[p.agg, .string name] w fun e w' => e = .returned (.tuple #[(pgot (pfind name p.mets.list)).magg, .bool (pfind name p.mets.list).isSome]) ∧ Below w.heap.size w w' := by
  have hl : p.mets.list.length ≤ 9223372036854775807 := Nat.le_trans hp.cap hp.max
  have hcc := fun W (hB : Below w.heap.size w W) B hb => first_any p.mets.list p.adr p.cap name B W hl (Pl.at2 hat hB).rd hb
  obtain ⟨q, hq⟩ : ∃ q, pfind name p.mets.list = q := ⟨_, rfl⟩
  rw [hq] at hcc ⊢
  clear hq hat hp hl
  generalize q.isSome = r at *
  generalize pgot q = x at *
  obtain ⟨xtime, xhas, xseq, xuuid, xbody, xadr, xcap, xmets⟩ := p
  unfold Pl.agg
  simp only at hcc ⊢
  generalize xmets.list.length = xml at *
  have hmg : x.magg = .agg #[.string x.h.name, .bool x.h.has, .int .u64 x.h.al, .int .u64 x.h.time, .int .u32 x.h.type, .bool x.h.hist, .bool x.h.trans, .bool x.h.null, .slice x.h.ma x.h.metas.length x.h.mc, .slice x.h.pa x.h.props.list.length x.h.pc, .int .i64 x.h.v.k, .int .u64 x.h.v.n, .string x.h.v.s, .slice x.h.sa x.h.sets.length x.h.sc, .slice x.adr x.sub.list.length x.cap] := rfl
  rw [hmg] at hcc ⊢
  clear hmg
  generalize x.h.name = xV0 at *
  generalize x.h.has = xV1 at *
  generalize x.h.al = xV2 at *
  generalize x.h.time = xV3 at *
  generalize x.h.type = xV4 at *
  generalize x.h.hist = xV5 at *
  generalize x.h.trans = xV6 at *
  generalize x.h.null = xV7 at *
  generalize x.h.metas.length = xL8 at *
  generalize x.h.ma = xA8 at *
  generalize x.h.mc = xV8 at *
  generalize x.h.props.list.length = xL9 at *
  generalize x.h.pa = xA9 at *
  generalize x.h.pc = xV9 at *
  generalize x.h.v.k = xV10 at *
  generalize x.h.v.n = xV11 at *
  generalize x.h.v.s = xV12 at *
  generalize x.h.sets.length = xL13 at *
  generalize x.h.sa = xA13 at *
  generalize x.h.sc = xV13 at *
  generalize x.sub.list.length = xL14 at *
  generalize x.adr = xA14 at *
  generalize x.cap = xV14 at *
  have hE0 : Below w.heap.size w (((w.alloc (Obj.cells #[.int .u64 xtime, .bool xhas, .int .u64 xseq, .string xuuid, .string xbody, .slice xadr xml xcap] 43)).alloc (Obj.cells #[.string name] 9)).alloc (Obj.cells #[.string ⟨#[]⟩, .bool false, .int .u64 0, .int .u64 0, .int .u32 0, .bool false, .bool false, .bool false, .slice none 0 0, .slice none 0 0, .int .i64 0, .int .u64 0, .string ⟨#[]⟩, .slice none 0 0, .slice none 0 0] 31)) := (((Below.refl _ w).alloc (Nat.le_refl _) _).alloc (by simp) _).alloc (by simp; omega) _
  obtain ⟨hP, hN, hX⟩ := box_three w #[.int .u64 xtime, .bool xhas, .int .u64 xseq, .string xuuid, .string xbody, .slice xadr xml xcap] #[.string name] #[.string ⟨#[]⟩, .bool false, .int .u64 0, .int .u64 0, .int .u32 0, .bool false, .bool false, .bool false, .slice none 0 0, .slice none 0 0, .int .i64 0, .int .u64 0, .string ⟨#[]⟩, .slice none 0 0, .slice none 0 0] 43 9 31
  have hc := hcc _ hE0 (w.heap.size + 1) (hN.cell 0)
  clear hcc
  go_enter Try.func24, Try.ntmps24
  go_wp2_with fail
  refine hc.mono ?_
  rintro e w1 ⟨rfl, hB1⟩
  have hW1 := bel_step hE0 hB1
  have hX1 := hX.below hB1
  clear hc hX hN hP hB1 hE0
  have bx0 : w1.cell? ⟨w.heap.size + 2, 0, none⟩ = some (.string ⟨#[]⟩) := hX1.cell 0
  have bx1 : w1.cell? ⟨w.heap.size + 2, 1, none⟩ = some (.bool false) := hX1.cell 1
  have bx2 : w1.cell? ⟨w.heap.size + 2, 2, none⟩ = some (.int .u64 0) := hX1.cell 2
  have bx3 : w1.cell? ⟨w.heap.size + 2, 3, none⟩ = some (.int .u64 0) := hX1.cell 3
  have bx4 : w1.cell? ⟨w.heap.size + 2, 4, none⟩ = some (.int .u32 0) := hX1.cell 4
  have bx5 : w1.cell? ⟨w.heap.size + 2, 5, none⟩ = some (.bool false) := hX1.cell 5
  have bx6 : w1.cell? ⟨w.heap.size + 2, 6, none⟩ = some (.bool false) := hX1.cell 6
  have bx7 : w1.cell? ⟨w.heap.size + 2, 7, none⟩ = some (.bool false) := hX1.cell 7
  have bx8 : w1.cell? ⟨w.heap.size + 2, 8, none⟩ = some (.slice none 0 0) := hX1.cell 8
  have bx9 : w1.cell? ⟨w.heap.size + 2, 9, none⟩ = some (.slice none 0 0) := hX1.cell 9
  have bx10 : w1.cell? ⟨w.heap.size + 2, 10, none⟩ = some (.int .i64 0) := hX1.cell 10
  have bx11 : w1.cell? ⟨w.heap.size + 2, 11, none⟩ = some (.int .u64 0) := hX1.cell 11
  have bx12 : w1.cell? ⟨w.heap.size + 2, 12, none⟩ = some (.string ⟨#[]⟩) := hX1.cell 12
  have bx13 : w1.cell? ⟨w.heap.size + 2, 13, none⟩ = some (.slice none 0 0) := hX1.cell 13
  have bx14 : w1.cell? ⟨w.heap.size + 2, 14, none⟩ = some (.slice none 0 0) := hX1.cell 14
  have by0 : w1.frozen? ⟨w.heap.size + 2, 0, none⟩ = false := hX1.frozen 0
  have by1 : w1.frozen? ⟨w.heap.size + 2, 1, none⟩ = false := hX1.frozen 1
  have by2 : w1.frozen? ⟨w.heap.size + 2, 2, none⟩ = false := hX1.frozen 2
  have by3 : w1.frozen? ⟨w.heap.size + 2, 3, none⟩ = false := hX1.frozen 3
  have by4 : w1.frozen? ⟨w.heap.size + 2, 4, none⟩ = false := hX1.frozen 4
  have by5 : w1.frozen? ⟨w.heap.size + 2, 5, none⟩ = false := hX1.frozen 5
  have by6 : w1.frozen? ⟨w.heap.size + 2, 6, none⟩ = false := hX1.frozen 6
  have by7 : w1.frozen? ⟨w.heap.size + 2, 7, none⟩ = false := hX1.frozen 7
  have by8 : w1.frozen? ⟨w.heap.size + 2, 8, none⟩ = false := hX1.frozen 8
  have by9 : w1.frozen? ⟨w.heap.size + 2, 9, none⟩ = false := hX1.frozen 9
  have by10 : w1.frozen? ⟨w.heap.size + 2, 10, none⟩ = false := hX1.frozen 10
  have by11 : w1.frozen? ⟨w.heap.size + 2, 11, none⟩ = false := hX1.frozen 11
  have by12 : w1.frozen? ⟨w.heap.size + 2, 12, none⟩ = false := hX1.frozen 12
  have by13 : w1.frozen? ⟨w.heap.size + 2, 13, none⟩ = false := hX1.frozen 13
  have by14 : w1.frozen? ⟨w.heap.size + 2, 14, none⟩ = false := hX1.frozen 14
  clear hX1
  go_wp2_with fail
  refine bodyPost_ret (v := .tuple #[.agg #[.string xV0, .bool xV1, .int .u64 xV2, .int .u64 xV3, .int .u32 xV4, .bool xV5, .bool xV6, .bool xV7, .slice xA8 xL8 xV8, .slice xA9 xL9 xV9, .int .i64 xV10, .int .u64 xV11, .string xV12, .slice xA13 xL13 xV13, .slice xA14 xL14 xV14], .bool r]) ?_ rfl ⟨rfl, ?_⟩
  · rw [results_cell_tmp rfl]; go_simp
  · with_reducible exact below_set15 (C := w.heap.size + 2) hW1 (Nat.le_add_right _ _) _ _ _ _ _ _ _ _ _ _ _ _ _ _ _
set_option maxRecDepth 100000 in
set_option maxHeartbeats 4000000 in
theorem rplfind_any (p : Pl) (hp : p.Ok) (name : ByteArray) (w : World) (hat : p.At w w.heap.size) :
    Calls Try.prog 25 #[p.agg, .string name] w fun e w' => e = .returned (.tuple #[(pgot (pfind name p.mets.list)).magg, .bool (pfind name p.mets.list).isSome]) ∧ Below w.heap.size w w' := by
  have hl : p.mets.list.length ≤ 9223372036854775807 := Nat.le_trans hp.cap hp.max
  have hrd := hat.rd
  obtain ⟨q, hq⟩ : ∃ q, pfind name p.mets.list = q := ⟨_, rfl⟩
  rw [hq]
  clear hat hp
  obtain ⟨xtime, xhas, xseq, xuuid, xbody, xadr, xcap, xmets⟩ := p
  unfold Pl.agg
  simp only at hl hrd hq ⊢
  generalize xmets.list = l at *
  have HQ := Lib.hid hq
  have HR := Lib.hid hrd
  obtain ⟨xml, hn⟩ : ∃ n, l.length = n := ⟨_, rfl⟩
  rw [hn] at hl ⊢
  have HN := Lib.hid hn
  clear hq hrd hn
  have hE0 : Below w.heap.size w ((w.alloc (Obj.cells #[.int .u64 xtime, .bool xhas, .int .u64 xseq, .string xuuid, .string xbody, .slice xadr xml xcap] 43)).alloc (Obj.cells #[.string ⟨#[]⟩, .bool false, .int .u64 0, .int .u64 0, .int .u32 0, .bool false, .bool false, .bool false, .slice none 0 0, .slice none 0 0, .int .i64 0, .int .u64 0, .string ⟨#[]⟩, .slice none 0 0, .slice none 0 0] 31)) := ((Below.refl _ w).alloc (Nat.le_refl _) _).alloc (by simp) _
  obtain ⟨hP, hX⟩ := box_two2 w #[.int .u64 xtime, .bool xhas, .int .u64 xseq, .string xuuid, .string xbody, .slice xadr xml xcap] #[.string ⟨#[]⟩, .bool false, .int .u64 0, .int .u64 0, .int .u32 0, .bool false, .bool false, .bool false, .slice none 0 0, .slice none 0 0, .int .i64 0, .int .u64 0, .string ⟨#[]⟩, .slice none 0 0, .slice none 0 0] 43 31
  go_enter Try.func25, Try.ntmps25
  go_wp2_with fail
  generalize ((w.alloc (Obj.cells #[.int .u64 xtime, .bool xhas, .int .u64 xseq, .string xuuid, .string xbody, .slice xadr xml xcap] 43)).alloc (Obj.cells #[.string ⟨#[]⟩, .bool false, .int .u64 0, .int .u64 0, .int .u32 0, .bool false, .bool false, .bool false, .slice none 0 0, .slice none 0 0, .int .i64 0, .int .u64 0, .string ⟨#[]⟩, .slice none 0 0, .slice none 0 0] 31)) = w0 at *
  go_loopw [6] (fun i wr => ∃ j : Nat, i = .int .i64 j ∧ j ≤ xml ∧ pfind name (l.drop j) = q ∧ wr = w0) (fun i _ => xml - (intOf i).toNat)
  case atStart => exact ⟨0, rfl, Nat.zero_le _, HQ.out, by first | rfl | trivial⟩
  case round =>
    obtain ⟨j, rfl, hj, he, rfl⟩ := hrel
    have HE := Lib.hid he
    have x5 : wr.cell? ⟨w.heap.size, 5, none⟩ = some (.slice xadr xml xcap) := hP.cell 5
    clear he
    by_cases hlt : j < xml
    · obtain ⟨x, hx⟩ : ∃ x, l[j]? = some x := ⟨_, List.getElem?_eq_getElem (by rw [HN.out]; exact hlt)⟩
      obtain ⟨b1, o1, rfl, hb1, gall⟩ := elem_all (f := Nd.cells true) (n := 15) (fun _ => rfl) (by omega) HR.out hx
      have g0 : wr.cell? ⟨b1, o1 + j * 15, none⟩ = some (.string x.h.name) := gall wr hE0 0 (by omega)
      have g1 : wr.cell? ⟨b1, o1 + j * 15 + 1, none⟩ = some (.bool x.h.has) := gall wr hE0 1 (by omega)
      have g2 : wr.cell? ⟨b1, o1 + j * 15 + 2, none⟩ = some (.int .u64 x.h.al) := gall wr hE0 2 (by omega)
      have g3 : wr.cell? ⟨b1, o1 + j * 15 + 3, none⟩ = some (.int .u64 x.h.time) := gall wr hE0 3 (by omega)
      have g4 : wr.cell? ⟨b1, o1 + j * 15 + 4, none⟩ = some (.int .u32 x.h.type) := gall wr hE0 4 (by omega)
      have g5 : wr.cell? ⟨b1, o1 + j * 15 + 5, none⟩ = some (.bool x.h.hist) := gall wr hE0 5 (by omega)
      have g6 : wr.cell? ⟨b1, o1 + j * 15 + 6, none⟩ = some (.bool x.h.trans) := gall wr hE0 6 (by omega)
      have g7 : wr.cell? ⟨b1, o1 + j * 15 + 7, none⟩ = some (.bool x.h.null) := gall wr hE0 7 (by omega)
      have g8 : wr.cell? ⟨b1, o1 + j * 15 + 8, none⟩ = some (.slice x.h.ma x.h.metas.length x.h.mc) := gall wr hE0 8 (by omega)
      have g9 : wr.cell? ⟨b1, o1 + j * 15 + 9, none⟩ = some (.slice x.h.pa x.h.props.list.length x.h.pc) := gall wr hE0 9 (by omega)
      have g10 : wr.cell? ⟨b1, o1 + j * 15 + 10, none⟩ = some (.int .i64 x.h.v.k) := gall wr hE0 10 (by omega)
      have g11 : wr.cell? ⟨b1, o1 + j * 15 + 11, none⟩ = some (.int .u64 x.h.v.n) := gall wr hE0 11 (by omega)
      have g12 : wr.cell? ⟨b1, o1 + j * 15 + 12, none⟩ = some (.string x.h.v.s) := gall wr hE0 12 (by omega)
      have g13 : wr.cell? ⟨b1, o1 + j * 15 + 13, none⟩ = some (.slice x.h.sa x.h.sets.length x.h.sc) := gall wr hE0 13 (by omega)
      have g14 : wr.cell? ⟨b1, o1 + j * 15 + 14, none⟩ = some (.slice x.adr x.sub.list.length x.cap) := gall wr hE0 14 (by omega)
      have he2 := HE.out
      rw [drop_cons hx, pfind] at he2
      unfold seq at he2
      have HE2 := Lib.hid he2
      clear gall HE he2 hx
      have hmg : x.magg = .agg #[.string x.h.name, .bool x.h.has, .int .u64 x.h.al, .int .u64 x.h.time, .int .u32 x.h.type, .bool x.h.hist, .bool x.h.trans, .bool x.h.null, .slice x.h.ma x.h.metas.length x.h.mc, .slice x.h.pa x.h.props.list.length x.h.pc, .int .i64 x.h.v.k, .int .u64 x.h.v.n, .string x.h.v.s, .slice x.h.sa x.h.sets.length x.h.sc, .slice x.adr x.sub.list.length x.cap] := rfl
      generalize x.h.name = xV0 at *
      generalize x.h.has = xV1 at *
      generalize x.h.al = xV2 at *
      generalize x.h.time = xV3 at *
      generalize x.h.type = xV4 at *
      generalize x.h.hist = xV5 at *
      generalize x.h.trans = xV6 at *
      generalize x.h.null = xV7 at *
      generalize x.h.metas.length = xL8 at *
      generalize x.h.ma = xA8 at *
      generalize x.h.mc = xV8 at *
      generalize x.h.props.list.length = xL9 at *
      generalize x.h.pa = xA9 at *
      generalize x.h.pc = xV9 at *
      generalize x.h.v.k = xV10 at *
      generalize x.h.v.n = xV11 at *
      generalize x.h.v.s = xV12 at *
      generalize x.h.sets.length = xL13 at *
      generalize x.h.sa = xA13 at *
      generalize x.h.sc = xV13 at *
      generalize x.sub.list.length = xL14 at *
      generalize x.adr = xA14 at *
      generalize x.cap = xV14 at *
      have HMG := Lib.hid hmg
      clear hmg
      cases t : (xV0.toList == name.toList)
      · have HE3 : Hid (pfind name (l.drop (j + 1)) = q) := Lib.hid (by have := HE2.out; rw [t] at this; simpa using this)
        clear HE2
        go_wp2_with fail
        go_roundw
        case rel => exact ⟨j + 1, by go_num, by omega, HE3.out, by first | rfl | trivial⟩
        case measure => simp [intOf]; omega
      · have hq : some x = q := by have := HE2.out; rw [t] at this; simpa using this
        subst hq
        clear HE2
        have bx0 : wr.cell? ⟨w.heap.size + 1, 0, none⟩ = some (.string ⟨#[]⟩) := hX.cell 0
        have bx1 : wr.cell? ⟨w.heap.size + 1, 1, none⟩ = some (.bool false) := hX.cell 1
        have bx2 : wr.cell? ⟨w.heap.size + 1, 2, none⟩ = some (.int .u64 0) := hX.cell 2
        have bx3 : wr.cell? ⟨w.heap.size + 1, 3, none⟩ = some (.int .u64 0) := hX.cell 3
        have bx4 : wr.cell? ⟨w.heap.size + 1, 4, none⟩ = some (.int .u32 0) := hX.cell 4
        have bx5 : wr.cell? ⟨w.heap.size + 1, 5, none⟩ = some (.bool false) := hX.cell 5
        have bx6 : wr.cell? ⟨w.heap.size + 1, 6, none⟩ = some (.bool false) := hX.cell 6
        have bx7 : wr.cell? ⟨w.heap.size + 1, 7, none⟩ = some (.bool false) := hX.cell 7
        have bx8 : wr.cell? ⟨w.heap.size + 1, 8, none⟩ = some (.slice none 0 0) := hX.cell 8
        have bx9 : wr.cell? ⟨w.heap.size + 1, 9, none⟩ = some (.slice none 0 0) := hX.cell 9
        have bx10 : wr.cell? ⟨w.heap.size + 1, 10, none⟩ = some (.int .i64 0) := hX.cell 10
        have bx11 : wr.cell? ⟨w.heap.size + 1, 11, none⟩ = some (.int .u64 0) := hX.cell 11
        have bx12 : wr.cell? ⟨w.heap.size + 1, 12, none⟩ = some (.string ⟨#[]⟩) := hX.cell 12
        have bx13 : wr.cell? ⟨w.heap.size + 1, 13, none⟩ = some (.slice none 0 0) := hX.cell 13
        have bx14 : wr.cell? ⟨w.heap.size + 1, 14, none⟩ = some (.slice none 0 0) := hX.cell 14
        have by0 : wr.frozen? ⟨w.heap.size + 1, 0, none⟩ = false := hX.frozen 0
        have by1 : wr.frozen? ⟨w.heap.size + 1, 1, none⟩ = false := hX.frozen 1
        have by2 : wr.frozen? ⟨w.heap.size + 1, 2, none⟩ = false := hX.frozen 2
        have by3 : wr.frozen? ⟨w.heap.size + 1, 3, none⟩ = false := hX.frozen 3
        have by4 : wr.frozen? ⟨w.heap.size + 1, 4, none⟩ = false := hX.frozen 4
        have by5 : wr.frozen? ⟨w.heap.size + 1, 5, none⟩ = false := hX.frozen 5
        have by6 : wr.frozen? ⟨w.heap.size + 1, 6, none⟩ = false := hX.frozen 6
        have by7 : wr.frozen? ⟨w.heap.size + 1, 7, none⟩ = false := hX.frozen 7
        have by8 : wr.frozen? ⟨w.heap.size + 1, 8, none⟩ = false := hX.frozen 8
        have by9 : wr.frozen? ⟨w.heap.size + 1, 9, none⟩ = false := hX.frozen 9
        have by10 : wr.frozen? ⟨w.heap.size + 1, 10, none⟩ = false := hX.frozen 10
        have by11 : wr.frozen? ⟨w.heap.size + 1, 11, none⟩ = false := hX.frozen 11
        have by12 : wr.frozen? ⟨w.heap.size + 1, 12, none⟩ = false := hX.frozen 12
        have by13 : wr.frozen? ⟨w.heap.size + 1, 13, none⟩ = false := hX.frozen 13
        have by14 : wr.frozen? ⟨w.heap.size + 1, 14, none⟩ = false := hX.frozen 14
        go_wp2_with fail
        refine bodyPost_ret (v := .tuple #[.agg #[.string xV0, .bool xV1, .int .u64 xV2, .int .u64 xV3, .int .u32 xV4, .bool xV5, .bool xV6, .bool xV7, .slice xA8 xL8 xV8, .slice xA9 xL9 xV9, .int .i64 xV10, .int .u64 xV11, .string xV12, .slice xA13 xL13 xV13, .slice xA14 xL14 xV14], .bool true]) ?_ rfl ⟨by show _ = Ending.returned (.tuple #[x.magg, .bool true]); rw [HMG.out], ?_⟩
        · rw [results_cell_tmp rfl]; go_simp
        · with_reducible exact below_set15 (C := w.heap.size + 1) hE0 (Nat.le_add_right _ _) _ _ _ _ _ _ _ _ _ _ _ _ _ _ _
    · have hq : none = q := by rw [← HE.out, List.drop_eq_nil_of_le (by rw [HN.out]; omega)]; rfl
      subst hq
      clear HE
      have bx0 : wr.cell? ⟨w.heap.size + 1, 0, none⟩ = some (.string ⟨#[]⟩) := hX.cell 0
      have bx1 : wr.cell? ⟨w.heap.size + 1, 1, none⟩ = some (.bool false) := hX.cell 1
      have bx2 : wr.cell? ⟨w.heap.size + 1, 2, none⟩ = some (.int .u64 0) := hX.cell 2
      have bx3 : wr.cell? ⟨w.heap.size + 1, 3, none⟩ = some (.int .u64 0) := hX.cell 3
      have bx4 : wr.cell? ⟨w.heap.size + 1, 4, none⟩ = some (.int .u32 0) := hX.cell 4
      have bx5 : wr.cell? ⟨w.heap.size + 1, 5, none⟩ = some (.bool false) := hX.cell 5
      have bx6 : wr.cell? ⟨w.heap.size + 1, 6, none⟩ = some (.bool false) := hX.cell 6
      have bx7 : wr.cell? ⟨w.heap.size + 1, 7, none⟩ = some (.bool false) := hX.cell 7
      have bx8 : wr.cell? ⟨w.heap.size + 1, 8, none⟩ = some (.slice none 0 0) := hX.cell 8
      have bx9 : wr.cell? ⟨w.heap.size + 1, 9, none⟩ = some (.slice none 0 0) := hX.cell 9
      have bx10 : wr.cell? ⟨w.heap.size + 1, 10, none⟩ = some (.int .i64 0) := hX.cell 10
      have bx11 : wr.cell? ⟨w.heap.size + 1, 11, none⟩ = some (.int .u64 0) := hX.cell 11
      have bx12 : wr.cell? ⟨w.heap.size + 1, 12, none⟩ = some (.string ⟨#[]⟩) := hX.cell 12
      have bx13 : wr.cell? ⟨w.heap.size + 1, 13, none⟩ = some (.slice none 0 0) := hX.cell 13
      have bx14 : wr.cell? ⟨w.heap.size + 1, 14, none⟩ = some (.slice none 0 0) := hX.cell 14
      have by0 : wr.frozen? ⟨w.heap.size + 1, 0, none⟩ = false := hX.frozen 0
      have by1 : wr.frozen? ⟨w.heap.size + 1, 1, none⟩ = false := hX.frozen 1
      have by2 : wr.frozen? ⟨w.heap.size + 1, 2, none⟩ = false := hX.frozen 2
      have by3 : wr.frozen? ⟨w.heap.size + 1, 3, none⟩ = false := hX.frozen 3
      have by4 : wr.frozen? ⟨w.heap.size + 1, 4, none⟩ = false := hX.frozen 4
      have by5 : wr.frozen? ⟨w.heap.size + 1, 5, none⟩ = false := hX.frozen 5
      have by6 : wr.frozen? ⟨w.heap.size + 1, 6, none⟩ = false := hX.frozen 6
      have by7 : wr.frozen? ⟨w.heap.size + 1, 7, none⟩ = false := hX.frozen 7
      have by8 : wr.frozen? ⟨w.heap.size + 1, 8, none⟩ = false := hX.frozen 8
      have by9 : wr.frozen? ⟨w.heap.size + 1, 9, none⟩ = false := hX.frozen 9
      have by10 : wr.frozen? ⟨w.heap.size + 1, 10, none⟩ = false := hX.frozen 10
      have by11 : wr.frozen? ⟨w.heap.size + 1, 11, none⟩ = false := hX.frozen 11
      have by12 : wr.frozen? ⟨w.heap.size + 1, 12, none⟩ = false := hX.frozen 12
      have by13 : wr.frozen? ⟨w.heap.size + 1, 13, none⟩ = false := hX.frozen 13
      have by14 : wr.frozen? ⟨w.heap.size + 1, 14, none⟩ = false := hX.frozen 14
      go_wp2_with fail
      refine bodyPost_ret (v := .tuple #[.agg #[.string ⟨#[]⟩, .bool false, .int .u64 0, .int .u64 0, .int .u32 0, .bool false, .bool false, .bool false, .slice none 0 0, .slice none 0 0, .int .i64 0, .int .u64 0, .string ⟨#[]⟩, .slice none 0 0, .slice none 0 0], .bool false]) ?_ rfl ⟨rfl, ?_⟩
      · rw [results_cell_tmp rfl]; go_simp
      · with_reducible exact below_set15 (C := w.heap.size + 1) hE0 (Nat.le_add_right _ _) _ _ _ _ _ _ _ _ _ _ _ _ _ _ _
end Go.Proofs.Ytaahhommfpohhaa
