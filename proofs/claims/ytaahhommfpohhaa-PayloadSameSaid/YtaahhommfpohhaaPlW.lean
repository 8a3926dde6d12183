/- LAW WALK: PayloadSame (printed by genplw.py) -/
import Derived.Test.YtaahhommfpohhaaPlH
import Derived.Test.YtaahhommfpohhaaRegionG
namespace Go.Proofs.Ytaahhommfpohhaa
open Go.RowKit

theorem own_other {W W' : World} {base : Nat} {e : TypeId} {size n : Nat} {v : Value} {xs : List Value} {row : Option Nat} (h : W.ownsRow base e size v n xs) (hg : W.grownBy W' row) (hne : ∀ g cur, W.heap[g]? = some (.cells cur e (0, 0)) → row ≠ some g) : W'.ownsRow base e size v n xs := by
  refine ⟨h.1, ?_⟩
  rcases h.2 with h2 | ⟨g, cap, cur, hv, hgb, hh, r⟩
  · exact .inl h2
  · exact .inr ⟨g, cap, cur, hv, hgb, (hg.block g (Array.getElem?_eq_some_iff.1 hh).1 (fun e => hne g cur hh e.symm)).trans hh, r⟩
theorem grown_set (W : World) (R i : Nat) (v : Value) : W.grownBy (W.setCell ⟨R, i, none⟩ v) (some R) := by
  have h := (Below.refl 0 W).setCell (p := ⟨R, i, none⟩) (Nat.zero_le _) v
  exact ⟨h.os, h.tape, h.output, h.size, fun k _ hne => heap_setCell_other _ _ k _ (fun e => hne (by rw [e]))⟩
theorem BoxC.set {W : World} {B : Nat} {cs : Array Value} {t : TypeId} (h : BoxC W B cs t) (i : Nat) (v : Value) : BoxC (W.setCell ⟨B, i, none⟩ v) B (cs.setIfInBounds i v) t := heap_setCell_same W B i cs _ v h
theorem BoxC.rd {W : World} {B : Nat} {cs : Array Value} {t : TypeId} (h : BoxC W B cs t) : Rd W W.heap.size (some ⟨B, 0, none⟩) cs.toList := .inr ⟨B, 0, rfl, h.lt, fun i hi => by rw [Nat.zero_add, h.cell]; simp⟩
section
variable {P : Program} {ops : Array Oper} {Q : Exit → Act → World → Prop} (X : Rel)
theorem wpL_swapG {n m k1 k2 : Nat} {o1 o2 : Oper} {rest : List (Nat × Oper)} {a : Act} {w : World} (h : wpLG X P ops Q n m ((k2, o2) :: (k1, o1) :: rest) a w) : wpLG X P ops Q n m ((k1, o1) :: (k2, o2) :: rest) a w := fun hd hnd hn => by
  rw [left_swapG]
  refine h (fun p hp => hd p (by rcases List.mem_cons.1 hp with rfl | hp; · simp
                                 · rcases List.mem_cons.1 hp with rfl | hp <;> simp [*])) ?_ hn
  simp only [List.map_cons, List.nodup_cons, List.mem_cons, not_or] at hnd ⊢
  exact ⟨⟨fun e => hnd.1.1 e.symm, hnd.2.1⟩, hnd.1.2, hnd.2.2⟩
end
def belT (B : Nat) : Rel := ⟨Below B, Below.refl B, Below.trans⟩
set_option maxRecDepth 100000 in
theorem elemN : ∃ z b, Elem Try.prog 41 31 z 15 b ∧ Try.prog.bytesOf 31 = b ∧ 100 ≤ b ∧ b ≤ 300 := by
  refine ⟨.agg #[.string ⟨#[]⟩, .bool false, .int .u64 0, .int .u64 0, .int .u32 0, .bool false, .bool false, .bool false, .slice none 0 0, .slice none 0 0, .int .i64 0, .int .u64 0, .string ⟨#[]⟩, .slice none 0 0, .slice none 0 0], _, ⟨Try.underlying41, info_parts (show (Try.prog.info? 31).map (fun i => (i.zero, i.size, i.bytes)) = some (some (.agg #[.string ⟨#[]⟩, .bool false, .int .u64 0, .int .u64 0, .int .u32 0, .bool false, .bool false, .bool false, .slice none 0 0, .slice none 0 0, .int .i64 0, .int .u64 0, .string ⟨#[]⟩, .slice none 0 0, .slice none 0 0]), 15, Try.prog.bytesOf 31) by kernel_rfl), rfl, by omega⟩, rfl, by decide +kernel, by decide +kernel⟩
theorem ncl_one (L : List Nd) : ∀ u ∈ ncl true L, u.oneCell' = true := by
  intro u hu
  obtain ⟨f, _, hf⟩ := List.mem_flatMap.1 hu
  simp [Nd.cells, Nd.mcells] at hf
  rcases hf with rfl | rfl | rfl | rfl | rfl | rfl | rfl | rfl | rfl | rfl | rfl | rfl | rfl | rfl | rfl <;> rfl
theorem ncl_len (L : List Nd) : (ncl true L).length = L.length * 15 := by
  have := fcl_len (f := Nd.cells true) (n := 15) (fun p => Nd.cells_len true p) L
  unfold ncl
  omega
theorem ever10 {W : World} {a : Addr} {v : Value} (h : W.cell? a = some v) : ∀ u, Below W.drew.heap.size W.drew u → u.cell? a = some v := fun _ hu => (hu.cell (World.block_lt_of_cell? W _ h)).trans h
theorem nd_is {l : Tr} {w : World} {A : Option Addr} (ha : l.At true w w.heap.size A) (ho : l.Ok true) {p : Nd} (hp : p ∈ l.list) : NdIs true w p :=
  ⟨ha.hd hp, (Tr.ok_mem ho p hp).1, (Tr.ok_mem ho p hp).2.1, ha.sub hp, (Tr.ok_mem ho p hp).2.2⟩
set_option maxRecDepth 100000 in
set_option maxHeartbeats 4000000 in
theorem psame10_any (a b : Pl) (m : Nd) (oa : a.Ok) (ob : b.Ok) (om : m.MOk) (w : World) (ha : a.At w w.heap.size) (hb : b.At w w.heap.size) (hm : m.MAt w w.heap.size) (hsz : a.mets.list.length * Try.prog.bytesOf 31 ≤ 140737488351232) :
    Calls Try.prog 7 #[a.agg, b.agg, m.magg] w fun e w' => e = .returned (.bool true) ∧ Below w.heap.size w w' := by
  have s1 := fun W (hB : Below w.heap.size w W) => plsame_any a b W (Pl.at2 ha hB) (Pl.at2 hb hB) oa ob
  have s2 := fun W (hB : Below w.heap.size w W) => rplsame_any a b W (Pl.at2 ha hB) (Pl.at2 hb hB) oa ob
  have s3 := fun W (hB : Below w.heap.size w W) => plsame_any b a W (Pl.at2 hb hB) (Pl.at2 ha hB) ob oa
  have s4 := fun W (hB : Below w.heap.size w W) => plsame_any a a W (Pl.at2 ha hB) (Pl.at2 ha hB) oa oa
  -- the list with one metric more
  have s5 := fun W (hB : Below w.heap.size w W) (A' : Option Addr) (c' : Nat) (hn : a.mets.list.length + 1 ≤ c') (hc : c' ≤ 9223372036854775807) (hr : Rd W W.heap.size A' (ncl true (a.mets.list ++ [m]))) =>
    let c : Pl := ⟨a.time, a.has, a.seq, a.uuid, a.body, A', c', Tr.of (a.mets.list ++ [m])⟩
    have hl : (Tr.of (a.mets.list ++ [m])).list = a.mets.list ++ [m] := Tr.of_list _
    have hall : ∀ p ∈ a.mets.list ++ [m], NdIs true W p := fun p hp => by
      rcases List.mem_append.1 hp with hp | hp
      · exact nd_is (Pl.at2 ha hB) oa.ok hp
      · obtain rfl : p = m := by simpa using hp
        exact ⟨(hm.at2 hB).h, om.h, om.len, (hm.at2 hB).sub, om.sub⟩
    have hto := tr_of (s := true) hr hall
    have oc : c.Ok := ⟨oa.time, oa.seq, by show (Tr.of (a.mets.list ++ [m])).list.length ≤ c'; rw [hl]; simpa using hn, hc, hto.2⟩
    plsame_any a c W (Pl.at2 ha hB) hto.1 oa oc
  have hfalse : ∀ A' c', plsame a ⟨a.time, a.has, a.seq, a.uuid, a.body, A', c', Tr.of (a.mets.list ++ [m])⟩ = false := fun A' c' => by
    unfold plsame
    rw [Tr.of_list, alleq_len (by simp), Bool.and_false]
  have hrd := Lib.hid ha.rd
  have hcap := oa.cap
  have hmax := oa.max
  rw [plsame_symm b a] at s3
  rw [plsame_refl] at s4
  simp only [hfalse] at s5
  generalize plsame a b = t at *
  clear hfalse ha hb hm oa ob om
  obtain ⟨xtime, xhas, xseq, xuuid, xbody, xadr, xcap, xmets⟩ := a
  obtain ⟨ytime, yhas, yseq, yuuid, ybody, yadr, ycap, ymets⟩ := b
  unfold Pl.agg at s1 s2 s3 s4 s5 ⊢
  simp only [Tr.of_list, List.length_append, List.length_cons, List.length_nil] at s1 s2 s3 s4 s5 hrd hcap hmax hsz ⊢
  generalize xmets.list = xl at *
  generalize ymets.list.length = yml at *
  obtain ⟨xml, hn⟩ : ∃ n, xl.length = n := ⟨_, rfl⟩
  rw [hn] at s1 s2 s3 s4 s5 hcap hsz ⊢
  have HN := Lib.hid hn
  have hmc : ncl true (xl ++ [m]) = ncl true xl ++ m.mcells := by unfold ncl; rw [List.flatMap_append]; simp [Nd.cells]
  have hmg : m.magg = .agg #[.string m.h.name, .bool m.h.has, .int .u64 m.h.al, .int .u64 m.h.time, .int .u32 m.h.type, .bool m.h.hist, .bool m.h.trans, .bool m.h.null, .slice m.h.ma m.h.metas.length m.h.mc, .slice m.h.pa m.h.props.list.length m.h.pc, .int .i64 m.h.v.k, .int .u64 m.h.v.n, .string m.h.v.s, .slice m.h.sa m.h.sets.length m.h.sc, .slice m.adr m.sub.list.length m.cap] := rfl
  have hmm : m.mcells = [.string m.h.name, .bool m.h.has, .int .u64 m.h.al, .int .u64 m.h.time, .int .u32 m.h.type, .bool m.h.hist, .bool m.h.trans, .bool m.h.null, .slice m.h.ma m.h.metas.length m.h.mc, .slice m.h.pa m.h.props.list.length m.h.pc, .int .i64 m.h.v.k, .int .u64 m.h.v.n, .string m.h.v.s, .slice m.h.sa m.h.sets.length m.h.sc, .slice m.adr m.sub.list.length m.cap] := rfl
  rw [hmm] at hmc
  rw [hmg]
  clear hmg hmm hn
  rw [hmc] at s5
  clear hmc
  generalize m.h.name = mV0 at *
  generalize m.h.has = mV1 at *
  generalize m.h.al = mV2 at *
  generalize m.h.time = mV3 at *
  generalize m.h.type = mV4 at *
  generalize m.h.hist = mV5 at *
  generalize m.h.trans = mV6 at *
  generalize m.h.null = mV7 at *
  generalize m.h.metas.length = mL8 at *
  generalize m.h.ma = mA8 at *
  generalize m.h.mc = mV8 at *
  generalize m.h.props.list.length = mL9 at *
  generalize m.h.pa = mA9 at *
  generalize m.h.pc = mV9 at *
  generalize m.h.v.k = mV10 at *
  generalize m.h.v.n = mV11 at *
  generalize m.h.v.s = mV12 at *
  generalize m.h.sets.length = mL13 at *
  generalize m.h.sa = mA13 at *
  generalize m.h.sc = mV13 at *
  generalize m.sub.list.length = mL14 at *
  generalize m.adr = mA14 at *
  generalize m.cap = mV14 at *
  have hE0 : Below w.heap.size w (((w.alloc (Obj.cells #[.int .u64 xtime, .bool xhas, .int .u64 xseq, .string xuuid, .string xbody, .slice xadr xml xcap] 43)).alloc (Obj.cells #[.int .u64 ytime, .bool yhas, .int .u64 yseq, .string yuuid, .string ybody, .slice yadr yml ycap] 43)).alloc (Obj.cells #[.string mV0, .bool mV1, .int .u64 mV2, .int .u64 mV3, .int .u32 mV4, .bool mV5, .bool mV6, .bool mV7, .slice mA8 mL8 mV8, .slice mA9 mL9 mV9, .int .i64 mV10, .int .u64 mV11, .string mV12, .slice mA13 mL13 mV13, .slice mA14 mL14 mV14] 31)) := (((Below.refl _ w).alloc (Nat.le_refl _) _).alloc (by simp) _).alloc (by simp; omega) _
  obtain ⟨hDa, hDb, hDm⟩ := box_three w #[.int .u64 xtime, .bool xhas, .int .u64 xseq, .string xuuid, .string xbody, .slice xadr xml xcap] #[.int .u64 ytime, .bool yhas, .int .u64 yseq, .string yuuid, .string ybody, .slice yadr yml ycap] #[.string mV0, .bool mV1, .int .u64 mV2, .int .u64 mV3, .int .u32 mV4, .bool mV5, .bool mV6, .bool mV7, .slice mA8 mL8 mV8, .slice mA9 mL9 mV9, .int .i64 mV10, .int .u64 mV11, .string mV12, .slice mA13 mL13 mV13, .slice mA14 mL14 mV14] 43 43 31
  go_enter Try.func7, Try.ntmps7
  go_wp2_with fail
  have hWd := hE0.drew
  have hDa := (show BoxC (((w.alloc (Obj.cells #[.int .u64 xtime, .bool xhas, .int .u64 xseq, .string xuuid, .string xbody, .slice xadr xml xcap] 43)).alloc (Obj.cells #[.int .u64 ytime, .bool yhas, .int .u64 yseq, .string yuuid, .string ybody, .slice yadr yml ycap] 43)).alloc (Obj.cells #[.string mV0, .bool mV1, .int .u64 mV2, .int .u64 mV3, .int .u32 mV4, .bool mV5, .bool mV6, .bool mV7, .slice mA8 mL8 mV8, .slice mA9 mL9 mV9, .int .i64 mV10, .int .u64 mV11, .string mV12, .slice mA13 mL13 mV13, .slice mA14 mL14 mV14] 31)).drew w.heap.size #[.int .u64 xtime, .bool xhas, .int .u64 xseq, .string xuuid, .string xbody, .slice xadr xml xcap] 43 from hDa)
  have hDb := (show BoxC (((w.alloc (Obj.cells #[.int .u64 xtime, .bool xhas, .int .u64 xseq, .string xuuid, .string xbody, .slice xadr xml xcap] 43)).alloc (Obj.cells #[.int .u64 ytime, .bool yhas, .int .u64 yseq, .string yuuid, .string ybody, .slice yadr yml ycap] 43)).alloc (Obj.cells #[.string mV0, .bool mV1, .int .u64 mV2, .int .u64 mV3, .int .u32 mV4, .bool mV5, .bool mV6, .bool mV7, .slice mA8 mL8 mV8, .slice mA9 mL9 mV9, .int .i64 mV10, .int .u64 mV11, .string mV12, .slice mA13 mL13 mV13, .slice mA14 mL14 mV14] 31)).drew (w.heap.size + 1) #[.int .u64 ytime, .bool yhas, .int .u64 yseq, .string yuuid, .string ybody, .slice yadr yml ycap] 43 from hDb)
  have hDm := (show BoxC (((w.alloc (Obj.cells #[.int .u64 xtime, .bool xhas, .int .u64 xseq, .string xuuid, .string xbody, .slice xadr xml xcap] 43)).alloc (Obj.cells #[.int .u64 ytime, .bool yhas, .int .u64 yseq, .string yuuid, .string ybody, .slice yadr yml ycap] 43)).alloc (Obj.cells #[.string mV0, .bool mV1, .int .u64 mV2, .int .u64 mV3, .int .u32 mV4, .bool mV5, .bool mV6, .bool mV7, .slice mA8 mL8 mV8, .slice mA9 mL9 mV9, .int .i64 mV10, .int .u64 mV11, .string mV12, .slice mA13 mL13 mV13, .slice mA14 mL14 mV14] 31)).drew (w.heap.size + 2) #[.string mV0, .bool mV1, .int .u64 mV2, .int .u64 mV3, .int .u32 mV4, .bool mV5, .bool mV6, .bool mV7, .slice mA8 mL8 mV8, .slice mA9 mL9 mV9, .int .i64 mV10, .int .u64 mV11, .string mV12, .slice mA13 mL13 mV13, .slice mA14 mL14 mV14] 31 from hDm)
  have fa0 : ∀ u, Below (((w.alloc (Obj.cells #[.int .u64 xtime, .bool xhas, .int .u64 xseq, .string xuuid, .string xbody, .slice xadr xml xcap] 43)).alloc (Obj.cells #[.int .u64 ytime, .bool yhas, .int .u64 yseq, .string yuuid, .string ybody, .slice yadr yml ycap] 43)).alloc (Obj.cells #[.string mV0, .bool mV1, .int .u64 mV2, .int .u64 mV3, .int .u32 mV4, .bool mV5, .bool mV6, .bool mV7, .slice mA8 mL8 mV8, .slice mA9 mL9 mV9, .int .i64 mV10, .int .u64 mV11, .string mV12, .slice mA13 mL13 mV13, .slice mA14 mL14 mV14] 31)).drew.heap.size (((w.alloc (Obj.cells #[.int .u64 xtime, .bool xhas, .int .u64 xseq, .string xuuid, .string xbody, .slice xadr xml xcap] 43)).alloc (Obj.cells #[.int .u64 ytime, .bool yhas, .int .u64 yseq, .string yuuid, .string ybody, .slice yadr yml ycap] 43)).alloc (Obj.cells #[.string mV0, .bool mV1, .int .u64 mV2, .int .u64 mV3, .int .u32 mV4, .bool mV5, .bool mV6, .bool mV7, .slice mA8 mL8 mV8, .slice mA9 mL9 mV9, .int .i64 mV10, .int .u64 mV11, .string mV12, .slice mA13 mL13 mV13, .slice mA14 mL14 mV14] 31)).drew u → u.cell? ⟨w.heap.size, 0, none⟩ = some (.int .u64 xtime) := fun u hu => (hDa.below hu).cell 0
  have fa1 : ∀ u, Below (((w.alloc (Obj.cells #[.int .u64 xtime, .bool xhas, .int .u64 xseq, .string xuuid, .string xbody, .slice xadr xml xcap] 43)).alloc (Obj.cells #[.int .u64 ytime, .bool yhas, .int .u64 yseq, .string yuuid, .string ybody, .slice yadr yml ycap] 43)).alloc (Obj.cells #[.string mV0, .bool mV1, .int .u64 mV2, .int .u64 mV3, .int .u32 mV4, .bool mV5, .bool mV6, .bool mV7, .slice mA8 mL8 mV8, .slice mA9 mL9 mV9, .int .i64 mV10, .int .u64 mV11, .string mV12, .slice mA13 mL13 mV13, .slice mA14 mL14 mV14] 31)).drew.heap.size (((w.alloc (Obj.cells #[.int .u64 xtime, .bool xhas, .int .u64 xseq, .string xuuid, .string xbody, .slice xadr xml xcap] 43)).alloc (Obj.cells #[.int .u64 ytime, .bool yhas, .int .u64 yseq, .string yuuid, .string ybody, .slice yadr yml ycap] 43)).alloc (Obj.cells #[.string mV0, .bool mV1, .int .u64 mV2, .int .u64 mV3, .int .u32 mV4, .bool mV5, .bool mV6, .bool mV7, .slice mA8 mL8 mV8, .slice mA9 mL9 mV9, .int .i64 mV10, .int .u64 mV11, .string mV12, .slice mA13 mL13 mV13, .slice mA14 mL14 mV14] 31)).drew u → u.cell? ⟨w.heap.size, 1, none⟩ = some (.bool xhas) := fun u hu => (hDa.below hu).cell 1
  have fa2 : ∀ u, Below (((w.alloc (Obj.cells #[.int .u64 xtime, .bool xhas, .int .u64 xseq, .string xuuid, .string xbody, .slice xadr xml xcap] 43)).alloc (Obj.cells #[.int .u64 ytime, .bool yhas, .int .u64 yseq, .string yuuid, .string ybody, .slice yadr yml ycap] 43)).alloc (Obj.cells #[.string mV0, .bool mV1, .int .u64 mV2, .int .u64 mV3, .int .u32 mV4, .bool mV5, .bool mV6, .bool mV7, .slice mA8 mL8 mV8, .slice mA9 mL9 mV9, .int .i64 mV10, .int .u64 mV11, .string mV12, .slice mA13 mL13 mV13, .slice mA14 mL14 mV14] 31)).drew.heap.size (((w.alloc (Obj.cells #[.int .u64 xtime, .bool xhas, .int .u64 xseq, .string xuuid, .string xbody, .slice xadr xml xcap] 43)).alloc (Obj.cells #[.int .u64 ytime, .bool yhas, .int .u64 yseq, .string yuuid, .string ybody, .slice yadr yml ycap] 43)).alloc (Obj.cells #[.string mV0, .bool mV1, .int .u64 mV2, .int .u64 mV3, .int .u32 mV4, .bool mV5, .bool mV6, .bool mV7, .slice mA8 mL8 mV8, .slice mA9 mL9 mV9, .int .i64 mV10, .int .u64 mV11, .string mV12, .slice mA13 mL13 mV13, .slice mA14 mL14 mV14] 31)).drew u → u.cell? ⟨w.heap.size, 2, none⟩ = some (.int .u64 xseq) := fun u hu => (hDa.below hu).cell 2
  have fa3 : ∀ u, Below (((w.alloc (Obj.cells #[.int .u64 xtime, .bool xhas, .int .u64 xseq, .string xuuid, .string xbody, .slice xadr xml xcap] 43)).alloc (Obj.cells #[.int .u64 ytime, .bool yhas, .int .u64 yseq, .string yuuid, .string ybody, .slice yadr yml ycap] 43)).alloc (Obj.cells #[.string mV0, .bool mV1, .int .u64 mV2, .int .u64 mV3, .int .u32 mV4, .bool mV5, .bool mV6, .bool mV7, .slice mA8 mL8 mV8, .slice mA9 mL9 mV9, .int .i64 mV10, .int .u64 mV11, .string mV12, .slice mA13 mL13 mV13, .slice mA14 mL14 mV14] 31)).drew.heap.size (((w.alloc (Obj.cells #[.int .u64 xtime, .bool xhas, .int .u64 xseq, .string xuuid, .string xbody, .slice xadr xml xcap] 43)).alloc (Obj.cells #[.int .u64 ytime, .bool yhas, .int .u64 yseq, .string yuuid, .string ybody, .slice yadr yml ycap] 43)).alloc (Obj.cells #[.string mV0, .bool mV1, .int .u64 mV2, .int .u64 mV3, .int .u32 mV4, .bool mV5, .bool mV6, .bool mV7, .slice mA8 mL8 mV8, .slice mA9 mL9 mV9, .int .i64 mV10, .int .u64 mV11, .string mV12, .slice mA13 mL13 mV13, .slice mA14 mL14 mV14] 31)).drew u → u.cell? ⟨w.heap.size, 3, none⟩ = some (.string xuuid) := fun u hu => (hDa.below hu).cell 3
  have fa4 : ∀ u, Below (((w.alloc (Obj.cells #[.int .u64 xtime, .bool xhas, .int .u64 xseq, .string xuuid, .string xbody, .slice xadr xml xcap] 43)).alloc (Obj.cells #[.int .u64 ytime, .bool yhas, .int .u64 yseq, .string yuuid, .string ybody, .slice yadr yml ycap] 43)).alloc (Obj.cells #[.string mV0, .bool mV1, .int .u64 mV2, .int .u64 mV3, .int .u32 mV4, .bool mV5, .bool mV6, .bool mV7, .slice mA8 mL8 mV8, .slice mA9 mL9 mV9, .int .i64 mV10, .int .u64 mV11, .string mV12, .slice mA13 mL13 mV13, .slice mA14 mL14 mV14] 31)).drew.heap.size (((w.alloc (Obj.cells #[.int .u64 xtime, .bool xhas, .int .u64 xseq, .string xuuid, .string xbody, .slice xadr xml xcap] 43)).alloc (Obj.cells #[.int .u64 ytime, .bool yhas, .int .u64 yseq, .string yuuid, .string ybody, .slice yadr yml ycap] 43)).alloc (Obj.cells #[.string mV0, .bool mV1, .int .u64 mV2, .int .u64 mV3, .int .u32 mV4, .bool mV5, .bool mV6, .bool mV7, .slice mA8 mL8 mV8, .slice mA9 mL9 mV9, .int .i64 mV10, .int .u64 mV11, .string mV12, .slice mA13 mL13 mV13, .slice mA14 mL14 mV14] 31)).drew u → u.cell? ⟨w.heap.size, 4, none⟩ = some (.string xbody) := fun u hu => (hDa.below hu).cell 4
  have fa5 : ∀ u, Below (((w.alloc (Obj.cells #[.int .u64 xtime, .bool xhas, .int .u64 xseq, .string xuuid, .string xbody, .slice xadr xml xcap] 43)).alloc (Obj.cells #[.int .u64 ytime, .bool yhas, .int .u64 yseq, .string yuuid, .string ybody, .slice yadr yml ycap] 43)).alloc (Obj.cells #[.string mV0, .bool mV1, .int .u64 mV2, .int .u64 mV3, .int .u32 mV4, .bool mV5, .bool mV6, .bool mV7, .slice mA8 mL8 mV8, .slice mA9 mL9 mV9, .int .i64 mV10, .int .u64 mV11, .string mV12, .slice mA13 mL13 mV13, .slice mA14 mL14 mV14] 31)).drew.heap.size (((w.alloc (Obj.cells #[.int .u64 xtime, .bool xhas, .int .u64 xseq, .string xuuid, .string xbody, .slice xadr xml xcap] 43)).alloc (Obj.cells #[.int .u64 ytime, .bool yhas, .int .u64 yseq, .string yuuid, .string ybody, .slice yadr yml ycap] 43)).alloc (Obj.cells #[.string mV0, .bool mV1, .int .u64 mV2, .int .u64 mV3, .int .u32 mV4, .bool mV5, .bool mV6, .bool mV7, .slice mA8 mL8 mV8, .slice mA9 mL9 mV9, .int .i64 mV10, .int .u64 mV11, .string mV12, .slice mA13 mL13 mV13, .slice mA14 mL14 mV14] 31)).drew u → u.cell? ⟨w.heap.size, 5, none⟩ = some (.slice xadr xml xcap) := fun u hu => (hDa.below hu).cell 5
  have fb0 : ∀ u, Below (((w.alloc (Obj.cells #[.int .u64 xtime, .bool xhas, .int .u64 xseq, .string xuuid, .string xbody, .slice xadr xml xcap] 43)).alloc (Obj.cells #[.int .u64 ytime, .bool yhas, .int .u64 yseq, .string yuuid, .string ybody, .slice yadr yml ycap] 43)).alloc (Obj.cells #[.string mV0, .bool mV1, .int .u64 mV2, .int .u64 mV3, .int .u32 mV4, .bool mV5, .bool mV6, .bool mV7, .slice mA8 mL8 mV8, .slice mA9 mL9 mV9, .int .i64 mV10, .int .u64 mV11, .string mV12, .slice mA13 mL13 mV13, .slice mA14 mL14 mV14] 31)).drew.heap.size (((w.alloc (Obj.cells #[.int .u64 xtime, .bool xhas, .int .u64 xseq, .string xuuid, .string xbody, .slice xadr xml xcap] 43)).alloc (Obj.cells #[.int .u64 ytime, .bool yhas, .int .u64 yseq, .string yuuid, .string ybody, .slice yadr yml ycap] 43)).alloc (Obj.cells #[.string mV0, .bool mV1, .int .u64 mV2, .int .u64 mV3, .int .u32 mV4, .bool mV5, .bool mV6, .bool mV7, .slice mA8 mL8 mV8, .slice mA9 mL9 mV9, .int .i64 mV10, .int .u64 mV11, .string mV12, .slice mA13 mL13 mV13, .slice mA14 mL14 mV14] 31)).drew u → u.cell? ⟨w.heap.size + 1, 0, none⟩ = some (.int .u64 ytime) := fun u hu => (hDb.below hu).cell 0
  have fb1 : ∀ u, Below (((w.alloc (Obj.cells #[.int .u64 xtime, .bool xhas, .int .u64 xseq, .string xuuid, .string xbody, .slice xadr xml xcap] 43)).alloc (Obj.cells #[.int .u64 ytime, .bool yhas, .int .u64 yseq, .string yuuid, .string ybody, .slice yadr yml ycap] 43)).alloc (Obj.cells #[.string mV0, .bool mV1, .int .u64 mV2, .int .u64 mV3, .int .u32 mV4, .bool mV5, .bool mV6, .bool mV7, .slice mA8 mL8 mV8, .slice mA9 mL9 mV9, .int .i64 mV10, .int .u64 mV11, .string mV12, .slice mA13 mL13 mV13, .slice mA14 mL14 mV14] 31)).drew.heap.size (((w.alloc (Obj.cells #[.int .u64 xtime, .bool xhas, .int .u64 xseq, .string xuuid, .string xbody, .slice xadr xml xcap] 43)).alloc (Obj.cells #[.int .u64 ytime, .bool yhas, .int .u64 yseq, .string yuuid, .string ybody, .slice yadr yml ycap] 43)).alloc (Obj.cells #[.string mV0, .bool mV1, .int .u64 mV2, .int .u64 mV3, .int .u32 mV4, .bool mV5, .bool mV6, .bool mV7, .slice mA8 mL8 mV8, .slice mA9 mL9 mV9, .int .i64 mV10, .int .u64 mV11, .string mV12, .slice mA13 mL13 mV13, .slice mA14 mL14 mV14] 31)).drew u → u.cell? ⟨w.heap.size + 1, 1, none⟩ = some (.bool yhas) := fun u hu => (hDb.below hu).cell 1
  have fb2 : ∀ u, Below (((w.alloc (Obj.cells #[.int .u64 xtime, .bool xhas, .int .u64 xseq, .string xuuid, .string xbody, .slice xadr xml xcap] 43)).alloc (Obj.cells #[.int .u64 ytime, .bool yhas, .int .u64 yseq, .string yuuid, .string ybody, .slice yadr yml ycap] 43)).alloc (Obj.cells #[.string mV0, .bool mV1, .int .u64 mV2, .int .u64 mV3, .int .u32 mV4, .bool mV5, .bool mV6, .bool mV7, .slice mA8 mL8 mV8, .slice mA9 mL9 mV9, .int .i64 mV10, .int .u64 mV11, .string mV12, .slice mA13 mL13 mV13, .slice mA14 mL14 mV14] 31)).drew.heap.size (((w.alloc (Obj.cells #[.int .u64 xtime, .bool xhas, .int .u64 xseq, .string xuuid, .string xbody, .slice xadr xml xcap] 43)).alloc (Obj.cells #[.int .u64 ytime, .bool yhas, .int .u64 yseq, .string yuuid, .string ybody, .slice yadr yml ycap] 43)).alloc (Obj.cells #[.string mV0, .bool mV1, .int .u64 mV2, .int .u64 mV3, .int .u32 mV4, .bool mV5, .bool mV6, .bool mV7, .slice mA8 mL8 mV8, .slice mA9 mL9 mV9, .int .i64 mV10, .int .u64 mV11, .string mV12, .slice mA13 mL13 mV13, .slice mA14 mL14 mV14] 31)).drew u → u.cell? ⟨w.heap.size + 1, 2, none⟩ = some (.int .u64 yseq) := fun u hu => (hDb.below hu).cell 2
  have fb3 : ∀ u, Below (((w.alloc (Obj.cells #[.int .u64 xtime, .bool xhas, .int .u64 xseq, .string xuuid, .string xbody, .slice xadr xml xcap] 43)).alloc (Obj.cells #[.int .u64 ytime, .bool yhas, .int .u64 yseq, .string yuuid, .string ybody, .slice yadr yml ycap] 43)).alloc (Obj.cells #[.string mV0, .bool mV1, .int .u64 mV2, .int .u64 mV3, .int .u32 mV4, .bool mV5, .bool mV6, .bool mV7, .slice mA8 mL8 mV8, .slice mA9 mL9 mV9, .int .i64 mV10, .int .u64 mV11, .string mV12, .slice mA13 mL13 mV13, .slice mA14 mL14 mV14] 31)).drew.heap.size (((w.alloc (Obj.cells #[.int .u64 xtime, .bool xhas, .int .u64 xseq, .string xuuid, .string xbody, .slice xadr xml xcap] 43)).alloc (Obj.cells #[.int .u64 ytime, .bool yhas, .int .u64 yseq, .string yuuid, .string ybody, .slice yadr yml ycap] 43)).alloc (Obj.cells #[.string mV0, .bool mV1, .int .u64 mV2, .int .u64 mV3, .int .u32 mV4, .bool mV5, .bool mV6, .bool mV7, .slice mA8 mL8 mV8, .slice mA9 mL9 mV9, .int .i64 mV10, .int .u64 mV11, .string mV12, .slice mA13 mL13 mV13, .slice mA14 mL14 mV14] 31)).drew u → u.cell? ⟨w.heap.size + 1, 3, none⟩ = some (.string yuuid) := fun u hu => (hDb.below hu).cell 3
  have fb4 : ∀ u, Below (((w.alloc (Obj.cells #[.int .u64 xtime, .bool xhas, .int .u64 xseq, .string xuuid, .string xbody, .slice xadr xml xcap] 43)).alloc (Obj.cells #[.int .u64 ytime, .bool yhas, .int .u64 yseq, .string yuuid, .string ybody, .slice yadr yml ycap] 43)).alloc (Obj.cells #[.string mV0, .bool mV1, .int .u64 mV2, .int .u64 mV3, .int .u32 mV4, .bool mV5, .bool mV6, .bool mV7, .slice mA8 mL8 mV8, .slice mA9 mL9 mV9, .int .i64 mV10, .int .u64 mV11, .string mV12, .slice mA13 mL13 mV13, .slice mA14 mL14 mV14] 31)).drew.heap.size (((w.alloc (Obj.cells #[.int .u64 xtime, .bool xhas, .int .u64 xseq, .string xuuid, .string xbody, .slice xadr xml xcap] 43)).alloc (Obj.cells #[.int .u64 ytime, .bool yhas, .int .u64 yseq, .string yuuid, .string ybody, .slice yadr yml ycap] 43)).alloc (Obj.cells #[.string mV0, .bool mV1, .int .u64 mV2, .int .u64 mV3, .int .u32 mV4, .bool mV5, .bool mV6, .bool mV7, .slice mA8 mL8 mV8, .slice mA9 mL9 mV9, .int .i64 mV10, .int .u64 mV11, .string mV12, .slice mA13 mL13 mV13, .slice mA14 mL14 mV14] 31)).drew u → u.cell? ⟨w.heap.size + 1, 4, none⟩ = some (.string ybody) := fun u hu => (hDb.below hu).cell 4
  have fb5 : ∀ u, Below (((w.alloc (Obj.cells #[.int .u64 xtime, .bool xhas, .int .u64 xseq, .string xuuid, .string xbody, .slice xadr xml xcap] 43)).alloc (Obj.cells #[.int .u64 ytime, .bool yhas, .int .u64 yseq, .string yuuid, .string ybody, .slice yadr yml ycap] 43)).alloc (Obj.cells #[.string mV0, .bool mV1, .int .u64 mV2, .int .u64 mV3, .int .u32 mV4, .bool mV5, .bool mV6, .bool mV7, .slice mA8 mL8 mV8, .slice mA9 mL9 mV9, .int .i64 mV10, .int .u64 mV11, .string mV12, .slice mA13 mL13 mV13, .slice mA14 mL14 mV14] 31)).drew.heap.size (((w.alloc (Obj.cells #[.int .u64 xtime, .bool xhas, .int .u64 xseq, .string xuuid, .string xbody, .slice xadr xml xcap] 43)).alloc (Obj.cells #[.int .u64 ytime, .bool yhas, .int .u64 yseq, .string yuuid, .string ybody, .slice yadr yml ycap] 43)).alloc (Obj.cells #[.string mV0, .bool mV1, .int .u64 mV2, .int .u64 mV3, .int .u32 mV4, .bool mV5, .bool mV6, .bool mV7, .slice mA8 mL8 mV8, .slice mA9 mL9 mV9, .int .i64 mV10, .int .u64 mV11, .string mV12, .slice mA13 mL13 mV13, .slice mA14 mL14 mV14] 31)).drew u → u.cell? ⟨w.heap.size + 1, 5, none⟩ = some (.slice yadr yml ycap) := fun u hu => (hDb.below hu).cell 5
  clear hE0 hDb
  refine wp_region_L 22 [0, 1, 3, 4, 2, 5, 6, 7, 8, 9, 11, 12, 10, 13, 14, 15, 16, 17, 18, 19, 20, 21] rfl (by decide) (by decide) (by kernel_rfl) ?_
  generalize (((w.alloc (Obj.cells #[.int .u64 xtime, .bool xhas, .int .u64 xseq, .string xuuid, .string xbody, .slice xadr xml xcap] 43)).alloc (Obj.cells #[.int .u64 ytime, .bool yhas, .int .u64 yseq, .string yuuid, .string ybody, .slice yadr yml ycap] 43)).alloc (Obj.cells #[.string mV0, .bool mV1, .int .u64 mV2, .int .u64 mV3, .int .u32 mV4, .bool mV5, .bool mV6, .bool mV7, .slice mA8 mL8 mV8, .slice mA9 mL9 mV9, .int .i64 mV10, .int .u64 mV11, .string mV12, .slice mA13 mL13 mV13, .slice mA14 mL14 mV14] 31)).drew = W2 at *
  simp only [List.filterMap_cons, List.filterMap_nil, List.getElem?_cons_zero, List.getElem?_cons_succ, Option.map_some]
  repeat (first
    | (refine wpL_take (v := ?_) (by kernel_rfl) (by kernel_rfl) (by kernel_rfl) (fun _ _ _ h => h) (by rfl) (fun u hu => ?_) ?_
       rotate_left
       focus
         unfold Grows at hu
         go_simp
         try with_reducible rfl
       simp only [Act.put, List.setIfInBounds_toArray, List.set_cons_zero, List.set_cons_succ])
    | (refine wpL_pass (by kernel_rfl) (by kernel_rfl) (by kernel_rfl) (fun _ _ _ h => h) (by rfl) ?_; simp only [Act.put, List.setIfInBounds_toArray, List.set_cons_zero, List.set_cons_succ])
    | (refine wpL_do (by kernel_rfl) (by rfl) (fun K hK => ?_); go_simp; go_at_call 27; (with_reducible refine (s2 _ hWd).mono ?_); rintro e w6 ⟨rfl, hB6⟩; replace hWd := bel_step hWd hB6; replace hDa := hDa.below hB6; replace hDm := hDm.below hB6; replace fa0 := fun u (hu : Below w6.heap.size w6 u) => fa0 u (bel_step hB6 hu); replace fb0 := fun u (hu : Below w6.heap.size w6 u) => fb0 u (bel_step hB6 hu); replace fa1 := fun u (hu : Below w6.heap.size w6 u) => fa1 u (bel_step hB6 hu); replace fb1 := fun u (hu : Below w6.heap.size w6 u) => fb1 u (bel_step hB6 hu); replace fa2 := fun u (hu : Below w6.heap.size w6 u) => fa2 u (bel_step hB6 hu); replace fb2 := fun u (hu : Below w6.heap.size w6 u) => fb2 u (bel_step hB6 hu); replace fa3 := fun u (hu : Below w6.heap.size w6 u) => fa3 u (bel_step hB6 hu); replace fb3 := fun u (hu : Below w6.heap.size w6 u) => fb3 u (bel_step hB6 hu); replace fa4 := fun u (hu : Below w6.heap.size w6 u) => fa4 u (bel_step hB6 hu); replace fb4 := fun u (hu : Below w6.heap.size w6 u) => fb4 u (bel_step hB6 hu); replace fa5 := fun u (hu : Below w6.heap.size w6 u) => fa5 u (bel_step hB6 hu); replace fb5 := fun u (hu : Below w6.heap.size w6 u) => fb5 u (bel_step hB6 hu); refine hK _ _ hB6 ?_; clear hK K hB6)
    | (refine wpL_do (by kernel_rfl) (by rfl) (fun K hK => ?_); go_simp; go_at_call 26; (with_reducible refine (s1 _ hWd).mono ?_); rintro e w6 ⟨rfl, hB6⟩; replace hWd := bel_step hWd hB6; replace hDa := hDa.below hB6; replace hDm := hDm.below hB6; replace fa0 := fun u (hu : Below w6.heap.size w6 u) => fa0 u (bel_step hB6 hu); replace fb0 := fun u (hu : Below w6.heap.size w6 u) => fb0 u (bel_step hB6 hu); replace fa1 := fun u (hu : Below w6.heap.size w6 u) => fa1 u (bel_step hB6 hu); replace fb1 := fun u (hu : Below w6.heap.size w6 u) => fb1 u (bel_step hB6 hu); replace fa2 := fun u (hu : Below w6.heap.size w6 u) => fa2 u (bel_step hB6 hu); replace fb2 := fun u (hu : Below w6.heap.size w6 u) => fb2 u (bel_step hB6 hu); replace fa3 := fun u (hu : Below w6.heap.size w6 u) => fa3 u (bel_step hB6 hu); replace fb3 := fun u (hu : Below w6.heap.size w6 u) => fb3 u (bel_step hB6 hu); replace fa4 := fun u (hu : Below w6.heap.size w6 u) => fa4 u (bel_step hB6 hu); replace fb4 := fun u (hu : Below w6.heap.size w6 u) => fb4 u (bel_step hB6 hu); replace fa5 := fun u (hu : Below w6.heap.size w6 u) => fa5 u (bel_step hB6 hu); replace fb5 := fun u (hu : Below w6.heap.size w6 u) => fb5 u (bel_step hB6 hu); refine hK _ _ hB6 ?_; clear hK K hB6)
    | (refine wpL_do (by kernel_rfl) (by rfl) (fun K hK => ?_); go_simp; go_at_call 26; (with_reducible refine (s3 _ hWd).mono ?_); rintro e w6 ⟨rfl, hB6⟩; replace hWd := bel_step hWd hB6; replace hDa := hDa.below hB6; replace hDm := hDm.below hB6; replace fa0 := fun u (hu : Below w6.heap.size w6 u) => fa0 u (bel_step hB6 hu); replace fb0 := fun u (hu : Below w6.heap.size w6 u) => fb0 u (bel_step hB6 hu); replace fa1 := fun u (hu : Below w6.heap.size w6 u) => fa1 u (bel_step hB6 hu); replace fb1 := fun u (hu : Below w6.heap.size w6 u) => fb1 u (bel_step hB6 hu); replace fa2 := fun u (hu : Below w6.heap.size w6 u) => fa2 u (bel_step hB6 hu); replace fb2 := fun u (hu : Below w6.heap.size w6 u) => fb2 u (bel_step hB6 hu); replace fa3 := fun u (hu : Below w6.heap.size w6 u) => fa3 u (bel_step hB6 hu); replace fb3 := fun u (hu : Below w6.heap.size w6 u) => fb3 u (bel_step hB6 hu); replace fa4 := fun u (hu : Below w6.heap.size w6 u) => fa4 u (bel_step hB6 hu); replace fb4 := fun u (hu : Below w6.heap.size w6 u) => fb4 u (bel_step hB6 hu); replace fa5 := fun u (hu : Below w6.heap.size w6 u) => fa5 u (bel_step hB6 hu); replace fb5 := fun u (hu : Below w6.heap.size w6 u) => fb5 u (bel_step hB6 hu); refine hK _ _ hB6 ?_; clear hK K hB6)
    | (refine wpL_do (by kernel_rfl) (by rfl) (fun K hK => ?_); go_simp; go_at_call 26; (with_reducible refine (s4 _ hWd).mono ?_); rintro e w6 ⟨rfl, hB6⟩; replace hWd := bel_step hWd hB6; replace hDa := hDa.below hB6; replace hDm := hDm.below hB6; replace fa0 := fun u (hu : Below w6.heap.size w6 u) => fa0 u (bel_step hB6 hu); replace fb0 := fun u (hu : Below w6.heap.size w6 u) => fb0 u (bel_step hB6 hu); replace fa1 := fun u (hu : Below w6.heap.size w6 u) => fa1 u (bel_step hB6 hu); replace fb1 := fun u (hu : Below w6.heap.size w6 u) => fb1 u (bel_step hB6 hu); replace fa2 := fun u (hu : Below w6.heap.size w6 u) => fa2 u (bel_step hB6 hu); replace fb2 := fun u (hu : Below w6.heap.size w6 u) => fb2 u (bel_step hB6 hu); replace fa3 := fun u (hu : Below w6.heap.size w6 u) => fa3 u (bel_step hB6 hu); replace fb3 := fun u (hu : Below w6.heap.size w6 u) => fb3 u (bel_step hB6 hu); replace fa4 := fun u (hu : Below w6.heap.size w6 u) => fa4 u (bel_step hB6 hu); replace fb4 := fun u (hu : Below w6.heap.size w6 u) => fb4 u (bel_step hB6 hu); replace fa5 := fun u (hu : Below w6.heap.size w6 u) => fa5 u (bel_step hB6 hu); replace fb5 := fun u (hu : Below w6.heap.size w6 u) => fb5 u (bel_step hB6 hu); refine hK _ _ hB6 ?_; clear hK K hB6))
  refine wpL_done (by kernel_rfl) ?_
  have x0 : w6.cell? ⟨w.heap.size, 0, none⟩ = some (.int .u64 xtime) := hDa.cell 0
  have x1 : w6.cell? ⟨w.heap.size, 1, none⟩ = some (.bool xhas) := hDa.cell 1
  have x2 : w6.cell? ⟨w.heap.size, 2, none⟩ = some (.int .u64 xseq) := hDa.cell 2
  have x3 : w6.cell? ⟨w.heap.size, 3, none⟩ = some (.string xuuid) := hDa.cell 3
  have x4 : w6.cell? ⟨w.heap.size, 4, none⟩ = some (.string xbody) := hDa.cell 4
  have x5 : w6.cell? ⟨w.heap.size, 5, none⟩ = some (.slice xadr xml xcap) := hDa.cell 5
  clear fa0 fb0 fa1 fb1 fa2 fb2 fa3 fb3 fa4 fb4 fa5 fb5 s1 s2 s3 s4
  go_wp2_with fail
  have hlt := hDa.lt
  have hlm := hDm.lt
  obtain ⟨T, hT⟩ : ∃ T, w6.heap.size = T := ⟨_, rfl⟩
  obtain ⟨W2, hW2⟩ : ∃ W2, (w6.alloc (Obj.cells #[.int .u64 xtime, .bool xhas, .int .u64 xseq, .string xuuid, .string xbody, .slice xadr xml xcap] 43)).drew = W2 := ⟨_, rfl⟩
  have hBT : BoxC W2 T #[.int .u64 xtime, .bool xhas, .int .u64 xseq, .string xuuid, .string xbody, .slice xadr xml xcap] 43 := by rw [← hW2, ← hT]; exact World.alloc_heap_new w6 _
  have hb2 : Below w6.heap.size w6 W2 := by rw [← hW2]; exact ((Below.refl _ w6).alloc (Nat.le_refl _) _).drew
  have hWd2 := bel_step hWd hb2
  have hDa2 := hDa.below hb2
  have hDm2 := hDm.below hb2
  have hTX : T ≤ W2.heap.size := Nat.le_of_lt hBT.lt
  have hr2 := (hrd.out.below hWd2 (Nat.le_refl _)).more hWd2.size
  rw [hT] at hlt hlm ⊢
  obtain ⟨zv, bb, EN, hbb, hb100, hb300⟩ := elemN
  rw [hbb] at hsz
  have hb1 : xml * bb ≤ 140737488355328 := by omega
  have hb11 : (xml + 1) * bb ≤ 140737488355328 := by rw [Nat.succ_mul]; omega
  have hxm : xml ≤ 1407374883553280 := by
    have := Nat.mul_le_mul_left xml hb100
    omega
  have HB2 := Lib.hid hb2
  clear x0 x1 x2 x3 x4 x5 hsz hb2 hb100 hb300 hbb hDa hDm
  have d5 : ∀ u, Below T W2 u → u.cell? ⟨w.heap.size, 5, none⟩ = some (.slice xadr xml xcap) := fun u hu => (hu.cell (p := ⟨w.heap.size, 5, none⟩) hlt).trans (hDa2.cell 5)
  have dm0 : ∀ u, Below T W2 u → u.cell? ⟨w.heap.size + 2, 0, none⟩ = some (.string mV0) := fun u hu => (hu.cell (p := ⟨w.heap.size + 2, 0, none⟩) hlm).trans (hDm2.cell 0)
  have dm1 : ∀ u, Below T W2 u → u.cell? ⟨w.heap.size + 2, 1, none⟩ = some (.bool mV1) := fun u hu => (hu.cell (p := ⟨w.heap.size + 2, 1, none⟩) hlm).trans (hDm2.cell 1)
  have dm2 : ∀ u, Below T W2 u → u.cell? ⟨w.heap.size + 2, 2, none⟩ = some (.int .u64 mV2) := fun u hu => (hu.cell (p := ⟨w.heap.size + 2, 2, none⟩) hlm).trans (hDm2.cell 2)
  have dm3 : ∀ u, Below T W2 u → u.cell? ⟨w.heap.size + 2, 3, none⟩ = some (.int .u64 mV3) := fun u hu => (hu.cell (p := ⟨w.heap.size + 2, 3, none⟩) hlm).trans (hDm2.cell 3)
  have dm4 : ∀ u, Below T W2 u → u.cell? ⟨w.heap.size + 2, 4, none⟩ = some (.int .u32 mV4) := fun u hu => (hu.cell (p := ⟨w.heap.size + 2, 4, none⟩) hlm).trans (hDm2.cell 4)
  have dm5 : ∀ u, Below T W2 u → u.cell? ⟨w.heap.size + 2, 5, none⟩ = some (.bool mV5) := fun u hu => (hu.cell (p := ⟨w.heap.size + 2, 5, none⟩) hlm).trans (hDm2.cell 5)
  have dm6 : ∀ u, Below T W2 u → u.cell? ⟨w.heap.size + 2, 6, none⟩ = some (.bool mV6) := fun u hu => (hu.cell (p := ⟨w.heap.size + 2, 6, none⟩) hlm).trans (hDm2.cell 6)
  have dm7 : ∀ u, Below T W2 u → u.cell? ⟨w.heap.size + 2, 7, none⟩ = some (.bool mV7) := fun u hu => (hu.cell (p := ⟨w.heap.size + 2, 7, none⟩) hlm).trans (hDm2.cell 7)
  have dm8 : ∀ u, Below T W2 u → u.cell? ⟨w.heap.size + 2, 8, none⟩ = some (.slice mA8 mL8 mV8) := fun u hu => (hu.cell (p := ⟨w.heap.size + 2, 8, none⟩) hlm).trans (hDm2.cell 8)
  have dm9 : ∀ u, Below T W2 u → u.cell? ⟨w.heap.size + 2, 9, none⟩ = some (.slice mA9 mL9 mV9) := fun u hu => (hu.cell (p := ⟨w.heap.size + 2, 9, none⟩) hlm).trans (hDm2.cell 9)
  have dm10 : ∀ u, Below T W2 u → u.cell? ⟨w.heap.size + 2, 10, none⟩ = some (.int .i64 mV10) := fun u hu => (hu.cell (p := ⟨w.heap.size + 2, 10, none⟩) hlm).trans (hDm2.cell 10)
  have dm11 : ∀ u, Below T W2 u → u.cell? ⟨w.heap.size + 2, 11, none⟩ = some (.int .u64 mV11) := fun u hu => (hu.cell (p := ⟨w.heap.size + 2, 11, none⟩) hlm).trans (hDm2.cell 11)
  have dm12 : ∀ u, Below T W2 u → u.cell? ⟨w.heap.size + 2, 12, none⟩ = some (.string mV12) := fun u hu => (hu.cell (p := ⟨w.heap.size + 2, 12, none⟩) hlm).trans (hDm2.cell 12)
  have dm13 : ∀ u, Below T W2 u → u.cell? ⟨w.heap.size + 2, 13, none⟩ = some (.slice mA13 mL13 mV13) := fun u hu => (hu.cell (p := ⟨w.heap.size + 2, 13, none⟩) hlm).trans (hDm2.cell 13)
  have dm14 : ∀ u, Below T W2 u → u.cell? ⟨w.heap.size + 2, 14, none⟩ = some (.slice mA14 mL14 mV14) := fun u hu => (hu.cell (p := ⟨w.heap.size + 2, 14, none⟩) hlm).trans (hDm2.cell 14)
  refine wp_region_LG (belT T) 9 [1, 2, 4, 0, 5, 3, 6, 7, 8] rfl (by decide) (by decide) (by kernel_rfl) ?_
  rw [hW2]
  simp only [List.filterMap_cons, List.filterMap_nil, List.getElem?_cons_zero, List.getElem?_cons_succ, Option.map_some]
  refine wpL_takeG _ (v := ?_) (by kernel_rfl) (by kernel_rfl) (by kernel_rfl) (fun _ _ _ h => h) (by rfl) (fun u hu => ?_) ?_
  rotate_left
  focus
    replace hu : Below T W2 u := hu
    go_simp
    try with_reducible rfl
  simp only [Act.put, List.setIfInBounds_toArray, List.set_cons_zero, List.set_cons_succ]
  refine wpL_takeG _ (v := ?_) (by kernel_rfl) (by kernel_rfl) (by kernel_rfl) (fun _ _ _ h => h) (by rfl) (fun u hu => ?_) ?_
  rotate_left
  focus
    replace hu : Below T W2 u := hu
    go_simp
    try with_reducible rfl
  simp only [Act.put, List.setIfInBounds_toArray, List.set_cons_zero, List.set_cons_succ]
  refine wpL_takeG _ (v := ?_) (by kernel_rfl) (by kernel_rfl) (by kernel_rfl) (fun _ _ _ h => h) (by rfl) (fun u hu => ?_) ?_
  rotate_left
  focus
    replace hu : Below T W2 u := hu
    go_simp
    try with_reducible rfl
  simp only [Act.put, List.setIfInBounds_toArray, List.set_cons_zero, List.set_cons_succ]
  clear d5 dm0 dm1 dm2 dm3 dm4 dm5 dm6 dm7 dm8 dm9 dm10 dm11 dm12 dm13 dm14
  refine wpL_do2G _ (by kernel_rfl) (by rfl) (by rfl) (fun K hK => ?_) (fun K hK => ?_)
  · go_simp
    refine hK _ _ ((Below.refl T _).alloc hTX _) ?_
    clear hK K
    have hown := own_empty W2 (base := W2.heap.size) (size := 15) 31 (Nat.le_refl _)
    have hX3 := (Below.refl W2.heap.size W2).alloc (Nat.le_refl _) (Obj.cells #[] 31)
    have hr3 := hr2.below hX3 (Nat.le_refl _)
    have hlt3 : W2.heap.size < (W2.alloc (Obj.cells #[] 31)).heap.size := by simp
    generalize W2.alloc (Obj.cells #[] 31) = W3 at *
    refine wpL_swapG _ ?_
    refine wpL_do2G _ (by kernel_rfl) (by rfl) (by rfl) (fun K hK => ?_) (fun K hK => ?_)
    · refine wp_app (.tmp 31) (.tmp 33) 41 rfl EN rfl hown rfl hr3 (by rw [ncl_len, HN.out]) (ncl_one xl) (by unfold maxLen; omega) (by rw [Nat.zero_add]; exact hb1) hX3.size ?_
      intro A5 c5 w5 ho5 hg5 _
      rw [Nat.zero_add, List.nil_append] at ho5
      have hX5 := own_grown hX3 hown hX3.size hg5
      refine hK _ _ (own_grown (Below.refl W2.heap.size _) hown hX3.size hg5 |>.mono hTX) ?_
      clear hK K hg5
      rw [Nat.zero_add]
      simp only [Act.put, List.setIfInBounds_toArray, List.set_cons_zero, List.set_cons_succ]
      refine wpL_doG _ (by kernel_rfl) (by rfl) (fun K hK => ?_)
      go_simp
      refine hK _ _ ((Below.refl T _).alloc (Nat.le_trans hTX hX5.size) _) ?_
      clear hK K
      have hX6 := hX5.alloc hX5.size (Obj.cells #[.string mV0, .bool mV1, .int .u64 mV2, .int .u64 mV3, .int .u32 mV4, .bool mV5, .bool mV6, .bool mV7, .slice mA8 mL8 mV8, .slice mA9 mL9 mV9, .int .i64 mV10, .int .u64 mV11, .string mV12, .slice mA13 mL13 mV13, .slice mA14 mL14 mV14] 31)
      have ho6 := ho5.alloc (Obj.cells #[.string mV0, .bool mV1, .int .u64 mV2, .int .u64 mV3, .int .u32 mV4, .bool mV5, .bool mV6, .bool mV7, .slice mA8 mL8 mV8, .slice mA9 mL9 mV9, .int .i64 mV10, .int .u64 mV11, .string mV12, .slice mA13 mL13 mV13, .slice mA14 mL14 mV14] 31)
      have hrm : Rd (w5.alloc (Obj.cells #[.string mV0, .bool mV1, .int .u64 mV2, .int .u64 mV3, .int .u32 mV4, .bool mV5, .bool mV6, .bool mV7, .slice mA8 mL8 mV8, .slice mA9 mL9 mV9, .int .i64 mV10, .int .u64 mV11, .string mV12, .slice mA13 mL13 mV13, .slice mA14 mL14 mV14] 31)) (w5.heap.size + 1) (some ⟨w5.heap.size, 0, none⟩) [.string mV0, .bool mV1, .int .u64 mV2, .int .u64 mV3, .int .u32 mV4, .bool mV5, .bool mV6, .bool mV7, .slice mA8 mL8 mV8, .slice mA9 mL9 mV9, .int .i64 mV10, .int .u64 mV11, .string mV12, .slice mA13 mL13 mV13, .slice mA14 mL14 mV14] := Rd.cells w5 #[.string mV0, .bool mV1, .int .u64 mV2, .int .u64 mV3, .int .u32 mV4, .bool mV5, .bool mV6, .bool mV7, .slice mA8 mL8 mV8, .slice mA9 mL9 mV9, .int .i64 mV10, .int .u64 mV11, .string mV12, .slice mA13 mL13 mV13, .slice mA14 mL14 mV14] 31
      generalize w5.alloc (Obj.cells #[.string mV0, .bool mV1, .int .u64 mV2, .int .u64 mV3, .int .u32 mV4, .bool mV5, .bool mV6, .bool mV7, .slice mA8 mL8 mV8, .slice mA9 mL9 mV9, .int .i64 mV10, .int .u64 mV11, .string mV12, .slice mA13 mL13 mV13, .slice mA14 mL14 mV14] 31) = w6' at *
      refine wpL_doG _ (by kernel_rfl) (by rfl) (fun K hK => ?_)
      refine wp_app (.tmp 34) (.tmp 36) 41 rfl EN rfl ho6 rfl hrm rfl (by intro u hu; simp at hu; rcases hu with rfl | rfl | rfl | rfl | rfl | rfl | rfl | rfl | rfl | rfl | rfl | rfl | rfl | rfl | rfl <;> rfl) (by unfold maxLen; omega) hb11 hX6.size ?_
      intro A7 c7 w7 ho7 hg7 _
      have hX7 := own_grown hX6 ho6 hX6.size hg7
      refine hK _ _ (own_grown (Below.refl W2.heap.size _) ho6 hX6.size hg7 |>.mono hTX) ?_
      clear hK K hg7
      simp only [Act.put, List.setIfInBounds_toArray, List.set_cons_zero, List.set_cons_succ]
      have hT7 := hBT.below hX7
      have y5 : w7.cell? ⟨T, 5, none⟩ = some (.slice xadr xml xcap) := hT7.cell 5
      have f5 := hT7.frozen 5
      obtain ⟨hc71, hc72⟩ := own_cap ho7
      refine wpL_doG _ (by kernel_rfl) (by rfl) (fun K hK => ?_)
      go_simp
      refine hK _ _ (Below.refl _ _) ?_
      clear hK K
      refine wpL_doG _ (by kernel_rfl) (by rfl) (fun K hK => ?_)
      go_simp
      refine hK _ _ ((Below.refl T w7).setCell (p := ⟨T, 5, none⟩) (Nat.le_refl _) _) ?_
      clear hK K
      refine wpL_doneG _ (by kernel_rfl) ?_
      have hT8 := hT7.set 5 (.slice A7 (xml + 1) c7)
      have hB8 : Below T W2 (w7.setCell ⟨T, 5, none⟩ (.slice A7 (xml + 1) c7)) := (hX7.mono hTX).setCell (p := ⟨T, 5, none⟩) (Nat.le_refl _) _
      have ho8 := own_other ho7 (grown_set w7 T 5 (.slice A7 (xml + 1) c7)) (fun g cur hg he => by
        obtain rfl : T = g := by simpa using he
        rw [show w7.heap[T]? = _ from hT7] at hg
        simp at hg)
      have hA8 : BoxC (w7.setCell ⟨T, 5, none⟩ (.slice A7 (xml + 1) c7)) w.heap.size #[.int .u64 xtime, .bool xhas, .int .u64 xseq, .string xuuid, .string xbody, .slice xadr xml xcap] 43 := (hB8.block w.heap.size hlt).trans hDa2
      have hW8 : Below w.heap.size w (w7.setCell ⟨T, 5, none⟩ (.slice A7 (xml + 1) c7)) := hWd2.trans (hB8.mono (Nat.le_of_lt hlt))
      generalize w7.setCell ⟨T, 5, none⟩ (.slice A7 (xml + 1) c7) = w8 at *
      have hsame := s5 w8 hW8 A7 c7 hc71 hc72 (Rd.of_own ho8)
      have x0 : w8.cell? ⟨w.heap.size, 0, none⟩ = some (.int .u64 xtime) := hA8.cell 0
      have x1 : w8.cell? ⟨w.heap.size, 1, none⟩ = some (.bool xhas) := hA8.cell 1
      have x2 : w8.cell? ⟨w.heap.size, 2, none⟩ = some (.int .u64 xseq) := hA8.cell 2
      have x3 : w8.cell? ⟨w.heap.size, 3, none⟩ = some (.string xuuid) := hA8.cell 3
      have x4 : w8.cell? ⟨w.heap.size, 4, none⟩ = some (.string xbody) := hA8.cell 4
      have x5 : w8.cell? ⟨w.heap.size, 5, none⟩ = some (.slice xadr xml xcap) := hA8.cell 5
      have z0 : w8.cell? ⟨T, 0, none⟩ = some (.int .u64 xtime) := hT8.cell 0
      have z1 : w8.cell? ⟨T, 1, none⟩ = some (.bool xhas) := hT8.cell 1
      have z2 : w8.cell? ⟨T, 2, none⟩ = some (.int .u64 xseq) := hT8.cell 2
      have z3 : w8.cell? ⟨T, 3, none⟩ = some (.string xuuid) := hT8.cell 3
      have z4 : w8.cell? ⟨T, 4, none⟩ = some (.string xbody) := hT8.cell 4
      have z5 : w8.cell? ⟨T, 5, none⟩ = some (.slice A7 (xml + 1) c7) := hT8.cell 5
      clear s5 ho7 ho8 hX7 hT7 y5 f5 hT8 hB8 hA8 hBT hDa2 hDm2 hr2 hWd2
      go_wp2_with fail
      refine hsame.mono ?_
      rintro e w9 ⟨rfl, hB9⟩
      have hW9 := bel_step hW8 hB9
      go_wp2_with fail
      refine (awake10_any w9).mono ?_
      rintro e w10 ⟨rfl, hB10⟩
      go_wp2_with fail
      go_ret
      exact ⟨rfl, bel_step hW9 hB10⟩
    · go_simp
      refine hK _ _ ((Below.refl T _).alloc (Nat.le_trans hTX hX3.size) _) ?_
      clear hK K
      have hM : BoxC (W3.alloc (Obj.cells #[.string mV0, .bool mV1, .int .u64 mV2, .int .u64 mV3, .int .u32 mV4, .bool mV5, .bool mV6, .bool mV7, .slice mA8 mL8 mV8, .slice mA9 mL9 mV9, .int .i64 mV10, .int .u64 mV11, .string mV12, .slice mA13 mL13 mV13, .slice mA14 mL14 mV14] 31)) W3.heap.size #[.string mV0, .bool mV1, .int .u64 mV2, .int .u64 mV3, .int .u32 mV4, .bool mV5, .bool mV6, .bool mV7, .slice mA8 mL8 mV8, .slice mA9 mL9 mV9, .int .i64 mV10, .int .u64 mV11, .string mV12, .slice mA13 mL13 mV13, .slice mA14 mL14 mV14] 31 := World.alloc_heap_new W3 _
      have hX4 := hX3.alloc hX3.size (Obj.cells #[.string mV0, .bool mV1, .int .u64 mV2, .int .u64 mV3, .int .u32 mV4, .bool mV5, .bool mV6, .bool mV7, .slice mA8 mL8 mV8, .slice mA9 mL9 mV9, .int .i64 mV10, .int .u64 mV11, .string mV12, .slice mA13 mL13 mV13, .slice mA14 mL14 mV14] 31)
      have ho4 := hown.alloc (Obj.cells #[.string mV0, .bool mV1, .int .u64 mV2, .int .u64 mV3, .int .u32 mV4, .bool mV5, .bool mV6, .bool mV7, .slice mA8 mL8 mV8, .slice mA9 mL9 mV9, .int .i64 mV10, .int .u64 mV11, .string mV12, .slice mA13 mL13 mV13, .slice mA14 mL14 mV14] 31)
      have hr4 := hr2.below hX4 (Nat.le_refl _)
      generalize W3.alloc (Obj.cells #[.string mV0, .bool mV1, .int .u64 mV2, .int .u64 mV3, .int .u32 mV4, .bool mV5, .bool mV6, .bool mV7, .slice mA8 mL8 mV8, .slice mA9 mL9 mV9, .int .i64 mV10, .int .u64 mV11, .string mV12, .slice mA13 mL13 mV13, .slice mA14 mL14 mV14] 31) = W4 at *
      refine wpL_doG _ (by kernel_rfl) (by rfl) (fun K hK => ?_)
      refine wp_app (.tmp 31) (.tmp 33) 41 rfl EN rfl ho4 rfl hr4 (by rw [ncl_len, HN.out]) (ncl_one xl) (by unfold maxLen; omega) (by rw [Nat.zero_add]; exact hb1) hX4.size ?_
      intro A5 c5 w5 ho5 hg5 _
      have hM5 : BoxC w5 W3.heap.size #[.string mV0, .bool mV1, .int .u64 mV2, .int .u64 mV3, .int .u32 mV4, .bool mV5, .bool mV6, .bool mV7, .slice mA8 mL8 mV8, .slice mA9 mL9 mV9, .int .i64 mV10, .int .u64 mV11, .string mV12, .slice mA13 mL13 mV13, .slice mA14 mL14 mV14] 31 := (hg5.block _ hM.lt (by simp [Value.ownBlock]; omega)).trans hM
      have hrm5 : Rd w5 w5.heap.size (some ⟨W3.heap.size, 0, none⟩) [.string mV0, .bool mV1, .int .u64 mV2, .int .u64 mV3, .int .u32 mV4, .bool mV5, .bool mV6, .bool mV7, .slice mA8 mL8 mV8, .slice mA9 mL9 mV9, .int .i64 mV10, .int .u64 mV11, .string mV12, .slice mA13 mL13 mV13, .slice mA14 mL14 mV14] := hM5.rd
      rw [Nat.zero_add, List.nil_append] at ho5
      have hX5 := own_grown hX4 ho4 hX4.size hg5
      refine hK _ _ (own_grown (Below.refl W2.heap.size _) ho4 hX4.size hg5 |>.mono hTX) ?_
      clear hK K hg5
      rw [Nat.zero_add]
      simp only [Act.put, List.setIfInBounds_toArray, List.set_cons_zero, List.set_cons_succ]
      refine wpL_doG _ (by kernel_rfl) (by rfl) (fun K hK => ?_)
      refine wp_app (.tmp 34) (.tmp 36) 41 rfl EN rfl ho5 rfl hrm5 rfl (by intro u hu; simp at hu; rcases hu with rfl | rfl | rfl | rfl | rfl | rfl | rfl | rfl | rfl | rfl | rfl | rfl | rfl | rfl | rfl <;> rfl) (by unfold maxLen; omega) hb11 hX5.size ?_
      intro A7 c7 w7 ho7 hg7 _
      have hX7 := own_grown hX5 ho5 hX5.size hg7
      refine hK _ _ (own_grown (Below.refl W2.heap.size _) ho5 hX5.size hg7 |>.mono hTX) ?_
      clear hK K hg7
      simp only [Act.put, List.setIfInBounds_toArray, List.set_cons_zero, List.set_cons_succ]
      have hT7 := hBT.below hX7
      have y5 : w7.cell? ⟨T, 5, none⟩ = some (.slice xadr xml xcap) := hT7.cell 5
      have f5 := hT7.frozen 5
      obtain ⟨hc71, hc72⟩ := own_cap ho7
      refine wpL_doG _ (by kernel_rfl) (by rfl) (fun K hK => ?_)
      go_simp
      refine hK _ _ (Below.refl _ _) ?_
      clear hK K
      refine wpL_doG _ (by kernel_rfl) (by rfl) (fun K hK => ?_)
      go_simp
      refine hK _ _ ((Below.refl T w7).setCell (p := ⟨T, 5, none⟩) (Nat.le_refl _) _) ?_
      clear hK K
      refine wpL_doneG _ (by kernel_rfl) ?_
      have hT8 := hT7.set 5 (.slice A7 (xml + 1) c7)
      have hB8 : Below T W2 (w7.setCell ⟨T, 5, none⟩ (.slice A7 (xml + 1) c7)) := (hX7.mono hTX).setCell (p := ⟨T, 5, none⟩) (Nat.le_refl _) _
      have ho8 := own_other ho7 (grown_set w7 T 5 (.slice A7 (xml + 1) c7)) (fun g cur hg he => by
        obtain rfl : T = g := by simpa using he
        rw [show w7.heap[T]? = _ from hT7] at hg
        simp at hg)
      have hA8 : BoxC (w7.setCell ⟨T, 5, none⟩ (.slice A7 (xml + 1) c7)) w.heap.size #[.int .u64 xtime, .bool xhas, .int .u64 xseq, .string xuuid, .string xbody, .slice xadr xml xcap] 43 := (hB8.block w.heap.size hlt).trans hDa2
      have hW8 : Below w.heap.size w (w7.setCell ⟨T, 5, none⟩ (.slice A7 (xml + 1) c7)) := hWd2.trans (hB8.mono (Nat.le_of_lt hlt))
      generalize w7.setCell ⟨T, 5, none⟩ (.slice A7 (xml + 1) c7) = w8 at *
      have hsame := s5 w8 hW8 A7 c7 hc71 hc72 (Rd.of_own ho8)
      have x0 : w8.cell? ⟨w.heap.size, 0, none⟩ = some (.int .u64 xtime) := hA8.cell 0
      have x1 : w8.cell? ⟨w.heap.size, 1, none⟩ = some (.bool xhas) := hA8.cell 1
      have x2 : w8.cell? ⟨w.heap.size, 2, none⟩ = some (.int .u64 xseq) := hA8.cell 2
      have x3 : w8.cell? ⟨w.heap.size, 3, none⟩ = some (.string xuuid) := hA8.cell 3
      have x4 : w8.cell? ⟨w.heap.size, 4, none⟩ = some (.string xbody) := hA8.cell 4
      have x5 : w8.cell? ⟨w.heap.size, 5, none⟩ = some (.slice xadr xml xcap) := hA8.cell 5
      have z0 : w8.cell? ⟨T, 0, none⟩ = some (.int .u64 xtime) := hT8.cell 0
      have z1 : w8.cell? ⟨T, 1, none⟩ = some (.bool xhas) := hT8.cell 1
      have z2 : w8.cell? ⟨T, 2, none⟩ = some (.int .u64 xseq) := hT8.cell 2
      have z3 : w8.cell? ⟨T, 3, none⟩ = some (.string xuuid) := hT8.cell 3
      have z4 : w8.cell? ⟨T, 4, none⟩ = some (.string xbody) := hT8.cell 4
      have z5 : w8.cell? ⟨T, 5, none⟩ = some (.slice A7 (xml + 1) c7) := hT8.cell 5
      clear s5 ho7 ho8 hX7 hT7 y5 f5 hT8 hB8 hA8 hBT hDa2 hDm2 hr2 hWd2
      go_wp2_with fail
      refine hsame.mono ?_
      rintro e w9 ⟨rfl, hB9⟩
      have hW9 := bel_step hW8 hB9
      go_wp2_with fail
      refine (awake10_any w9).mono ?_
      rintro e w10 ⟨rfl, hB10⟩
      go_wp2_with fail
      go_ret
      exact ⟨rfl, bel_step hW9 hB10⟩
  · go_simp
    refine hK _ _ ((Below.refl T _).alloc hTX _) ?_
    clear hK K
    have hM0 : BoxC (W2.alloc (Obj.cells #[.string mV0, .bool mV1, .int .u64 mV2, .int .u64 mV3, .int .u32 mV4, .bool mV5, .bool mV6, .bool mV7, .slice mA8 mL8 mV8, .slice mA9 mL9 mV9, .int .i64 mV10, .int .u64 mV11, .string mV12, .slice mA13 mL13 mV13, .slice mA14 mL14 mV14] 31)) W2.heap.size #[.string mV0, .bool mV1, .int .u64 mV2, .int .u64 mV3, .int .u32 mV4, .bool mV5, .bool mV6, .bool mV7, .slice mA8 mL8 mV8, .slice mA9 mL9 mV9, .int .i64 mV10, .int .u64 mV11, .string mV12, .slice mA13 mL13 mV13, .slice mA14 mL14 mV14] 31 := World.alloc_heap_new W2 _
    have hX3 := (Below.refl W2.heap.size W2).alloc (Nat.le_refl _) (Obj.cells #[.string mV0, .bool mV1, .int .u64 mV2, .int .u64 mV3, .int .u32 mV4, .bool mV5, .bool mV6, .bool mV7, .slice mA8 mL8 mV8, .slice mA9 mL9 mV9, .int .i64 mV10, .int .u64 mV11, .string mV12, .slice mA13 mL13 mV13, .slice mA14 mL14 mV14] 31)
    have hlt3 : W2.heap.size < (W2.alloc (Obj.cells #[.string mV0, .bool mV1, .int .u64 mV2, .int .u64 mV3, .int .u32 mV4, .bool mV5, .bool mV6, .bool mV7, .slice mA8 mL8 mV8, .slice mA9 mL9 mV9, .int .i64 mV10, .int .u64 mV11, .string mV12, .slice mA13 mL13 mV13, .slice mA14 mL14 mV14] 31)).heap.size := by simp
    generalize W2.alloc (Obj.cells #[.string mV0, .bool mV1, .int .u64 mV2, .int .u64 mV3, .int .u32 mV4, .bool mV5, .bool mV6, .bool mV7, .slice mA8 mL8 mV8, .slice mA9 mL9 mV9, .int .i64 mV10, .int .u64 mV11, .string mV12, .slice mA13 mL13 mV13, .slice mA14 mL14 mV14] 31) = W3 at *
    refine wpL_doG _ (by kernel_rfl) (by rfl) (fun K hK => ?_)
    go_simp
    refine hK _ _ ((Below.refl T _).alloc (Nat.le_trans hTX hX3.size) _) ?_
    clear hK K
    have ho4 := own_empty W3 (base := W2.heap.size) (size := 15) 31 hX3.size
    have hX4 := hX3.alloc hX3.size (Obj.cells #[] 31)
    have hr4 := hr2.below hX4 (Nat.le_refl _)
    have hM := hM0.below ((Below.refl W3.heap.size W3).alloc (Nat.le_refl _) (Obj.cells #[] 31))
    generalize W3.alloc (Obj.cells #[] 31) = W4 at *
    refine wpL_doG _ (by kernel_rfl) (by rfl) (fun K hK => ?_)
    refine wp_app (.tmp 31) (.tmp 33) 41 rfl EN rfl ho4 rfl hr4 (by rw [ncl_len, HN.out]) (ncl_one xl) (by unfold maxLen; omega) (by rw [Nat.zero_add]; exact hb1) hX4.size ?_
    intro A5 c5 w5 ho5 hg5 _
    have hM5 : BoxC w5 W2.heap.size #[.string mV0, .bool mV1, .int .u64 mV2, .int .u64 mV3, .int .u32 mV4, .bool mV5, .bool mV6, .bool mV7, .slice mA8 mL8 mV8, .slice mA9 mL9 mV9, .int .i64 mV10, .int .u64 mV11, .string mV12, .slice mA13 mL13 mV13, .slice mA14 mL14 mV14] 31 := (hg5.block _ hM.lt (by simp [Value.ownBlock]; omega)).trans hM
    have hrm5 : Rd w5 w5.heap.size (some ⟨W2.heap.size, 0, none⟩) [.string mV0, .bool mV1, .int .u64 mV2, .int .u64 mV3, .int .u32 mV4, .bool mV5, .bool mV6, .bool mV7, .slice mA8 mL8 mV8, .slice mA9 mL9 mV9, .int .i64 mV10, .int .u64 mV11, .string mV12, .slice mA13 mL13 mV13, .slice mA14 mL14 mV14] := hM5.rd
    rw [Nat.zero_add, List.nil_append] at ho5
    have hX5 := own_grown hX4 ho4 hX4.size hg5
    refine hK _ _ (own_grown (Below.refl W2.heap.size _) ho4 hX4.size hg5 |>.mono hTX) ?_
    clear hK K hg5
    rw [Nat.zero_add]
    simp only [Act.put, List.setIfInBounds_toArray, List.set_cons_zero, List.set_cons_succ]
    refine wpL_doG _ (by kernel_rfl) (by rfl) (fun K hK => ?_)
    refine wp_app (.tmp 34) (.tmp 36) 41 rfl EN rfl ho5 rfl hrm5 rfl (by intro u hu; simp at hu; rcases hu with rfl | rfl | rfl | rfl | rfl | rfl | rfl | rfl | rfl | rfl | rfl | rfl | rfl | rfl | rfl <;> rfl) (by unfold maxLen; omega) hb11 hX5.size ?_
    intro A7 c7 w7 ho7 hg7 _
    have hX7 := own_grown hX5 ho5 hX5.size hg7
    refine hK _ _ (own_grown (Below.refl W2.heap.size _) ho5 hX5.size hg7 |>.mono hTX) ?_
    clear hK K hg7
    simp only [Act.put, List.setIfInBounds_toArray, List.set_cons_zero, List.set_cons_succ]
    have hT7 := hBT.below hX7
    have y5 : w7.cell? ⟨T, 5, none⟩ = some (.slice xadr xml xcap) := hT7.cell 5
    have f5 := hT7.frozen 5
    obtain ⟨hc71, hc72⟩ := own_cap ho7
    refine wpL_doG _ (by kernel_rfl) (by rfl) (fun K hK => ?_)
    go_simp
    refine hK _ _ (Below.refl _ _) ?_
    clear hK K
    refine wpL_doG _ (by kernel_rfl) (by rfl) (fun K hK => ?_)
    go_simp
    refine hK _ _ ((Below.refl T w7).setCell (p := ⟨T, 5, none⟩) (Nat.le_refl _) _) ?_
    clear hK K
    refine wpL_doneG _ (by kernel_rfl) ?_
    have hT8 := hT7.set 5 (.slice A7 (xml + 1) c7)
    have hB8 : Below T W2 (w7.setCell ⟨T, 5, none⟩ (.slice A7 (xml + 1) c7)) := (hX7.mono hTX).setCell (p := ⟨T, 5, none⟩) (Nat.le_refl _) _
    have ho8 := own_other ho7 (grown_set w7 T 5 (.slice A7 (xml + 1) c7)) (fun g cur hg he => by
      obtain rfl : T = g := by simpa using he
      rw [show w7.heap[T]? = _ from hT7] at hg
      simp at hg)
    have hA8 : BoxC (w7.setCell ⟨T, 5, none⟩ (.slice A7 (xml + 1) c7)) w.heap.size #[.int .u64 xtime, .bool xhas, .int .u64 xseq, .string xuuid, .string xbody, .slice xadr xml xcap] 43 := (hB8.block w.heap.size hlt).trans hDa2
    have hW8 : Below w.heap.size w (w7.setCell ⟨T, 5, none⟩ (.slice A7 (xml + 1) c7)) := hWd2.trans (hB8.mono (Nat.le_of_lt hlt))
    generalize w7.setCell ⟨T, 5, none⟩ (.slice A7 (xml + 1) c7) = w8 at *
    have hsame := s5 w8 hW8 A7 c7 hc71 hc72 (Rd.of_own ho8)
    have x0 : w8.cell? ⟨w.heap.size, 0, none⟩ = some (.int .u64 xtime) := hA8.cell 0
    have x1 : w8.cell? ⟨w.heap.size, 1, none⟩ = some (.bool xhas) := hA8.cell 1
    have x2 : w8.cell? ⟨w.heap.size, 2, none⟩ = some (.int .u64 xseq) := hA8.cell 2
    have x3 : w8.cell? ⟨w.heap.size, 3, none⟩ = some (.string xuuid) := hA8.cell 3
    have x4 : w8.cell? ⟨w.heap.size, 4, none⟩ = some (.string xbody) := hA8.cell 4
    have x5 : w8.cell? ⟨w.heap.size, 5, none⟩ = some (.slice xadr xml xcap) := hA8.cell 5
    have z0 : w8.cell? ⟨T, 0, none⟩ = some (.int .u64 xtime) := hT8.cell 0
    have z1 : w8.cell? ⟨T, 1, none⟩ = some (.bool xhas) := hT8.cell 1
    have z2 : w8.cell? ⟨T, 2, none⟩ = some (.int .u64 xseq) := hT8.cell 2
    have z3 : w8.cell? ⟨T, 3, none⟩ = some (.string xuuid) := hT8.cell 3
    have z4 : w8.cell? ⟨T, 4, none⟩ = some (.string xbody) := hT8.cell 4
    have z5 : w8.cell? ⟨T, 5, none⟩ = some (.slice A7 (xml + 1) c7) := hT8.cell 5
    clear s5 ho7 ho8 hX7 hT7 y5 f5 hT8 hB8 hA8 hBT hDa2 hDm2 hr2 hWd2
    go_wp2_with fail
    refine hsame.mono ?_
    rintro e w9 ⟨rfl, hB9⟩
    have hW9 := bel_step hW8 hB9
    go_wp2_with fail
    refine (awake10_any w9).mono ?_
    rintro e w10 ⟨rfl, hB10⟩
    go_wp2_with fail
    go_ret
    exact ⟨rfl, bel_step hW9 hB10⟩
end Go.Proofs.Ytaahhommfpohhaa
