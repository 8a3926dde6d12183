/- WALKS: payload.Same, crierref10.Same (printed by genpls.py) -/
import Derived.Test.YtaahhommfpohhaaMtR
import Derived.Test.YtaahhommfpohhaaOpenT
namespace Go.Proofs.Ytaahhommfpohhaa
open Go.RowKit

def plscal (a b : Pl) : Bool := neq a.time b.time && ((a.has == b.has) && (neq a.seq b.seq && (seq a.uuid b.uuid && seq a.body b.body)))
def plsame (a b : Pl) : Bool := plscal a b && alleq (nsame true) a.mets.list b.mets.list
theorem plsame_refl (a : Pl) : plsame a a = true := by
  unfold plsame
  rw [alleq_refl (nsame_refl true)]
  simp [plscal, neq_refl, seq_refl]
theorem plsame_symm (a b : Pl) : plsame a b = plsame b a := by
  unfold plsame plscal
  rw [alleq_symm (nsame_symm true), neq_symm a.time, BEq.comm (a := a.has), neq_symm a.seq, seq_symm a.uuid, seq_symm a.body]
theorem Pl.at2 {p : Pl} {w W : World} (h : p.At w w.heap.size) (hB : Below w.heap.size w W) : p.At W W.heap.size := (Tr.At.below (l := p.mets) h hB (Nat.le_refl _)).more hB.size
set_option maxRecDepth 100000 in
set_option maxHeartbeats 4000000 in
theorem plsame_any (p q : Pl) (w : World) (hp : p.At w w.heap.size) (hq : q.At w w.heap.size) (op : p.Ok) (oq : q.Ok) :
    Calls Try.prog 26 #[p.agg, q.agg] w fun e w' => e = .returned (.bool (plsame p q)) ∧ Below w.heap.size w w' := by
  have hl1 : p.mets.list.length ≤ 9223372036854775807 := Nat.le_trans op.cap op.max
  have hl2 : q.mets.list.length ≤ 9223372036854775807 := Nat.le_trans oq.cap oq.max
  have e2 := fun W (hB : Below w.heap.size w W) => eqn_any p.mets.list q.mets.list p.adr q.adr p.cap q.cap hl1 hl2 W (Pl.at2 hp hB).rd (Pl.at2 hq hB).rd
    (fun W2 hB2 x hx y hy => sameM_any x y W2 ((Pl.at2 hp (bel_step hB hB2)).mat hx) ((Pl.at2 hq (bel_step hB hB2)).mat hy) (Tr.ok_mok op.ok hx) (Tr.ok_mok oq.ok hy))
  obtain ⟨r, hr⟩ : ∃ r, plsame p q = r := ⟨_, rfl⟩
  rw [hr]
  unfold plsame plscal at hr
  clear hp hq op oq hl1 hl2
  generalize alleq (nsame true) p.mets.list q.mets.list = t2 at *
  unfold seq neq at hr
  obtain ⟨xtime, xhas, xseq, xuuid, xbody, xadr, xcap, xmets⟩ := p
  obtain ⟨ytime, yhas, yseq, yuuid, ybody, yadr, ycap, ymets⟩ := q
  unfold Pl.agg
  simp only at e2 hr ⊢
  generalize xmets.list.length = xml at *
  generalize ymets.list.length = yml at *
  have HR := Lib.hid hr
  clear hr
  have hE0 : Below w.heap.size w ((w.alloc (Obj.cells #[.int .u64 xtime, .bool xhas, .int .u64 xseq, .string xuuid, .string xbody, .slice xadr xml xcap] 43)).alloc (Obj.cells #[.int .u64 ytime, .bool yhas, .int .u64 yseq, .string yuuid, .string ybody, .slice yadr yml ycap] 43)) := ((Below.refl _ w).alloc (Nat.le_refl _) _).alloc (by simp) _
  go_enter Try.func26, Try.ntmps26
  cases d0 : ((xtime : Int) == (ytime : Int))
  case false =>
    have ne0 : ((xtime : Int) != (ytime : Int)) = true := by rw [bne, d0]; rfl
    have hq : false = r := by have := HR.out; rw [d0] at this; simpa using this
    subst hq
    clear HR
    go_wp2_with fail
    go_ret
    exact ⟨rfl, hE0⟩
  have ne0 : ((xtime : Int) != (ytime : Int)) = false := by rw [bne, d0]; rfl
  cases d1 : (xhas == yhas)
  case false =>
    have ne1 : (xhas != yhas) = true := by rw [bne, d1]; rfl
    have hq : false = r := by have := HR.out; rw [d0, d1] at this; simpa using this
    subst hq
    clear HR
    go_wp2_with fail
    go_ret
    exact ⟨rfl, hE0⟩
  have ne1 : (xhas != yhas) = false := by rw [bne, d1]; rfl
  cases d2 : ((xseq : Int) == (yseq : Int))
  case false =>
    have ne2 : ((xseq : Int) != (yseq : Int)) = true := by rw [bne, d2]; rfl
    have hq : false = r := by have := HR.out; rw [d0, d1, d2] at this; simpa using this
    subst hq
    clear HR
    go_wp2_with fail
    go_ret
    exact ⟨rfl, hE0⟩
  have ne2 : ((xseq : Int) != (yseq : Int)) = false := by rw [bne, d2]; rfl
  cases d3 : (xuuid.toList == yuuid.toList)
  case false =>
    have hq : false = r := by have := HR.out; rw [d0, d1, d2, d3] at this; simpa using this
    subst hq
    clear HR
    go_wp2_with fail
    go_ret
    exact ⟨rfl, hE0⟩
  cases d4 : (xbody.toList == ybody.toList)
  case false =>
    have hq : false = r := by have := HR.out; rw [d0, d1, d2, d3, d4] at this; simpa using this
    subst hq
    clear HR
    go_wp2_with fail
    go_ret
    exact ⟨rfl, hE0⟩
  have hq : t2 = r := by have := HR.out; rw [d0, d1, d2, d3, d4] at this; simpa using this
  subst hq
  clear HR
  go_wp2_with fail
  refine (e2 _ hE0).mono ?_
  rintro e w1 ⟨rfl, hB1⟩
  go_wp2_with fail
  go_ret
  exact ⟨rfl, bel_step hE0 hB1⟩
set_option maxRecDepth 100000 in
set_option maxHeartbeats 4000000 in
theorem rplsame_any (p q : Pl) (w : World) (hp : p.At w w.heap.size) (hq : q.At w w.heap.size) (op : p.Ok) (oq : q.Ok) :
    Calls Try.prog 27 #[p.agg, q.agg] w fun e w' => e = .returned (.bool (plsame p q)) ∧ Below w.heap.size w w' := by
  have htl : p.mets.list.length ≤ 9223372036854775807 := Nat.le_trans op.cap op.max
  have e4 := fun W (hB : Below w.heap.size w W) x (hx : x ∈ p.mets.list) y (hy : y ∈ q.mets.list) => rsameM_any x y W ((Pl.at2 hp hB).mat hx) ((Pl.at2 hq hB).mat hy) (Tr.ok_mok op.ok hx) (Tr.ok_mok oq.ok hy)
  have k1 := fun W (hB : Below w.heap.size w W) => (Pl.at2 hp hB).rd
  have k2 := fun W (hB : Below w.heap.size w W) => (Pl.at2 hq hB).rd
  obtain ⟨r, hr⟩ : ∃ r, plsame p q = r := ⟨_, rfl⟩
  rw [hr]
  unfold plsame plscal at hr
  clear hp hq op oq
  unfold seq neq at hr
  obtain ⟨xtime, xhas, xseq, xuuid, xbody, xadr, xcap, xmets⟩ := p
  obtain ⟨ytime, yhas, yseq, yuuid, ybody, yadr, ycap, ymets⟩ := q
  unfold Pl.agg
  simp only at e4 k1 k2 htl hr ⊢
  generalize xmets.list = xts at *
  generalize ymets.list = yts at *
  obtain ⟨T4, hT4⟩ : ∃ T, alleq (nsame true) xts yts = T := ⟨_, rfl⟩
  rw [hT4] at hr
  have HT4 := Lib.hid hT4
  clear hT4
  obtain ⟨xml, hxtl⟩ : ∃ k, xts.length = k := ⟨_, rfl⟩
  obtain ⟨yml, hytl⟩ : ∃ k, yts.length = k := ⟨_, rfl⟩
  rw [hxtl, hytl]
  rw [hxtl] at htl
  have NTx := Lib.hid hxtl
  have NTy := Lib.hid hytl
  clear hxtl hytl
  have HR := Lib.hid hr
  clear hr
  have hE0 : Below w.heap.size w ((w.alloc (Obj.cells #[.int .u64 xtime, .bool xhas, .int .u64 xseq, .string xuuid, .string xbody, .slice xadr xml xcap] 43)).alloc (Obj.cells #[.int .u64 ytime, .bool yhas, .int .u64 yseq, .string yuuid, .string ybody, .slice yadr yml ycap] 43)) := ((Below.refl _ w).alloc (Nat.le_refl _) _).alloc (by simp) _
  obtain ⟨hD1, hD2⟩ := box_two w #[.int .u64 xtime, .bool xhas, .int .u64 xseq, .string xuuid, .string xbody, .slice xadr xml xcap] #[.int .u64 ytime, .bool yhas, .int .u64 yseq, .string yuuid, .string ybody, .slice yadr yml ycap] 43
  go_enter Try.func27, Try.ntmps27
  cases d0 : ((xtime : Int) == (ytime : Int))
  case false =>
    have ne0 : ((xtime : Int) != (ytime : Int)) = true := by rw [bne, d0]; rfl
    have hq : false = r := by have := HR.out; rw [d0] at this; simpa using this
    subst hq
    clear HR
    go_wp2_with fail
    go_ret
    exact ⟨rfl, hE0⟩
  have ne0 : ((xtime : Int) != (ytime : Int)) = false := by rw [bne, d0]; rfl
  cases d1 : (xhas == yhas)
  case false =>
    have ne1 : (xhas != yhas) = true := by rw [bne, d1]; rfl
    have hq : false = r := by have := HR.out; rw [d0, d1] at this; simpa using this
    subst hq
    clear HR
    go_wp2_with fail
    go_ret
    exact ⟨rfl, hE0⟩
  have ne1 : (xhas != yhas) = false := by rw [bne, d1]; rfl
  cases d2 : ((xseq : Int) == (yseq : Int))
  case false =>
    have ne2 : ((xseq : Int) != (yseq : Int)) = true := by rw [bne, d2]; rfl
    have hq : false = r := by have := HR.out; rw [d0, d1, d2] at this; simpa using this
    subst hq
    clear HR
    go_wp2_with fail
    go_ret
    exact ⟨rfl, hE0⟩
  have ne2 : ((xseq : Int) != (yseq : Int)) = false := by rw [bne, d2]; rfl
  cases d3 : (xuuid.toList == yuuid.toList)
  case false =>
    have hq : false = r := by have := HR.out; rw [d0, d1, d2, d3] at this; simpa using this
    subst hq
    clear HR
    go_wp2_with fail
    go_ret
    exact ⟨rfl, hE0⟩
  cases d4 : (xbody.toList == ybody.toList)
  case false =>
    have hq : false = r := by have := HR.out; rw [d0, d1, d2, d3, d4] at this; simpa using this
    subst hq
    clear HR
    go_wp2_with fail
    go_ret
    exact ⟨rfl, hE0⟩
  have HQ : Hid (T4 = r) := Lib.hid (by have := HR.out; rw [d0, d1, d2, d3, d4] at this; simpa using this)
  clear HR
  by_cases hnT : xml = yml
  rotate_left
  · have hb : ((xml : Int) != (yml : Int)) = true := by simp; omega
    have hq : false = r := by rw [← HQ.out, ← HT4.out, alleq_len (f := nsame true) (by rw [NTx.out, NTy.out]; exact hnT)]
    subst hq
    clear HQ hnT
    go_wp2_with fail
    go_ret
    exact ⟨rfl, hE0⟩
  subst hnT
  have HQ' : Hid ((alleq (nsame true) xts yts) = r) := Lib.hid (by rw [HT4.out, ← HQ.out])
  clear HQ HT4
  have HQ := HQ'
  clear HQ'
  go_wp2_with fail
  generalize hw1 : ((w.alloc (Obj.cells #[.int .u64 xtime, .bool xhas, .int .u64 xseq, .string xuuid, .string xbody, .slice xadr xml xcap] 43)).alloc (Obj.cells #[.int .u64 ytime, .bool yhas, .int .u64 yseq, .string yuuid, .string ybody, .slice yadr xml ycap] 43)) = w1 at *
  have hW1 := hE0
  have hDa := hD1
  have hDb := hD2
  have K1 := Lib.hid (k1 _ hW1)
  have K2 := Lib.hid (k2 _ hW1)
  have c4 := fun W (hB : Below w1.heap.size w1 W) => e4 W (bel_step hW1 hB)
  clear e4 k1 k2 hD1 hD2 hE0 hw1
  go_loopw [5] (fun i wr => ∃ j : Nat, i = .int .i64 j ∧ j ≤ xml ∧ (alleq (nsame true) (xts.drop j) (yts.drop j)) = r ∧ Below w1.heap.size w1 wr) (fun i _ => xml - (intOf i).toNat)
  case atStart => exact ⟨0, rfl, Nat.zero_le _, HQ.out, Below.refl _ _⟩
  case round =>
    obtain ⟨j, rfl, hj, he, hB⟩ := hrel
    have HE := Lib.hid he
    clear he
    by_cases hlt : j < xml
    · obtain ⟨x, hx⟩ : ∃ x, xts[j]? = some x := ⟨_, List.getElem?_eq_getElem (by rw [NTx.out]; exact hlt)⟩
      obtain ⟨y, hy⟩ : ∃ y, yts[j]? = some y := ⟨_, List.getElem?_eq_getElem (by rw [NTy.out]; exact hlt)⟩
      have hBd : Below w1.heap.size w1 wr.drew := hB.drew
      have x5 : wr.cell? ⟨w.heap.size, 5, none⟩ = some (.slice xadr xml xcap) := (hDa.below hB).cell 5
      have y5 : wr.cell? ⟨w.heap.size + 1, 5, none⟩ = some (.slice yadr xml ycap) := (hDb.below hB).cell 5
      have dx : ∀ u, Below wr.drew.heap.size wr.drew u → u.cell? ⟨w.heap.size, 5, none⟩ = some (.slice xadr xml xcap) := fun u hu => (hDa.below (bel_step hBd hu)).cell 5
      have dy : ∀ u, Below wr.drew.heap.size wr.drew u → u.cell? ⟨w.heap.size + 1, 5, none⟩ = some (.slice yadr xml ycap) := fun u hu => (hDb.below (bel_step hBd hu)).cell 5
      obtain ⟨b1, o1, rfl, hb1, gall⟩ := elem_all (f := Nd.cells true) (n := 15) (fun _ => rfl) (by omega) K1.out hx
      have g0 : ∀ u, Below wr.drew.heap.size wr.drew u → u.cell? ⟨b1, o1 + j * 15, none⟩ = some (.string x.h.name) := fun u hu => gall u (bel_step hBd hu) 0 (by omega)
      have g1 : ∀ u, Below wr.drew.heap.size wr.drew u → u.cell? ⟨b1, o1 + j * 15 + 1, none⟩ = some (.bool x.h.has) := fun u hu => gall u (bel_step hBd hu) 1 (by omega)
      have g2 : ∀ u, Below wr.drew.heap.size wr.drew u → u.cell? ⟨b1, o1 + j * 15 + 2, none⟩ = some (.int .u64 x.h.al) := fun u hu => gall u (bel_step hBd hu) 2 (by omega)
      have g3 : ∀ u, Below wr.drew.heap.size wr.drew u → u.cell? ⟨b1, o1 + j * 15 + 3, none⟩ = some (.int .u64 x.h.time) := fun u hu => gall u (bel_step hBd hu) 3 (by omega)
      have g4 : ∀ u, Below wr.drew.heap.size wr.drew u → u.cell? ⟨b1, o1 + j * 15 + 4, none⟩ = some (.int .u32 x.h.type) := fun u hu => gall u (bel_step hBd hu) 4 (by omega)
      have g5 : ∀ u, Below wr.drew.heap.size wr.drew u → u.cell? ⟨b1, o1 + j * 15 + 5, none⟩ = some (.bool x.h.hist) := fun u hu => gall u (bel_step hBd hu) 5 (by omega)
      have g6 : ∀ u, Below wr.drew.heap.size wr.drew u → u.cell? ⟨b1, o1 + j * 15 + 6, none⟩ = some (.bool x.h.trans) := fun u hu => gall u (bel_step hBd hu) 6 (by omega)
      have g7 : ∀ u, Below wr.drew.heap.size wr.drew u → u.cell? ⟨b1, o1 + j * 15 + 7, none⟩ = some (.bool x.h.null) := fun u hu => gall u (bel_step hBd hu) 7 (by omega)
      have g8 : ∀ u, Below wr.drew.heap.size wr.drew u → u.cell? ⟨b1, o1 + j * 15 + 8, none⟩ = some (.slice x.h.ma x.h.metas.length x.h.mc) := fun u hu => gall u (bel_step hBd hu) 8 (by omega)
      have g9 : ∀ u, Below wr.drew.heap.size wr.drew u → u.cell? ⟨b1, o1 + j * 15 + 9, none⟩ = some (.slice x.h.pa x.h.props.list.length x.h.pc) := fun u hu => gall u (bel_step hBd hu) 9 (by omega)
      have g10 : ∀ u, Below wr.drew.heap.size wr.drew u → u.cell? ⟨b1, o1 + j * 15 + 10, none⟩ = some (.int .i64 x.h.v.k) := fun u hu => gall u (bel_step hBd hu) 10 (by omega)
      have g11 : ∀ u, Below wr.drew.heap.size wr.drew u → u.cell? ⟨b1, o1 + j * 15 + 11, none⟩ = some (.int .u64 x.h.v.n) := fun u hu => gall u (bel_step hBd hu) 11 (by omega)
      have g12 : ∀ u, Below wr.drew.heap.size wr.drew u → u.cell? ⟨b1, o1 + j * 15 + 12, none⟩ = some (.string x.h.v.s) := fun u hu => gall u (bel_step hBd hu) 12 (by omega)
      have g13 : ∀ u, Below wr.drew.heap.size wr.drew u → u.cell? ⟨b1, o1 + j * 15 + 13, none⟩ = some (.slice x.h.sa x.h.sets.length x.h.sc) := fun u hu => gall u (bel_step hBd hu) 13 (by omega)
      have g14 : ∀ u, Below wr.drew.heap.size wr.drew u → u.cell? ⟨b1, o1 + j * 15 + 14, none⟩ = some (.slice x.adr x.sub.list.length x.cap) := fun u hu => gall u (bel_step hBd hu) 14 (by omega)
      clear gall
      obtain ⟨b2, o2, rfl, hb2, fall⟩ := elem_all (f := Nd.cells true) (n := 15) (fun _ => rfl) (by omega) K2.out hy
      have f0 : ∀ u, Below wr.drew.heap.size wr.drew u → u.cell? ⟨b2, o2 + j * 15, none⟩ = some (.string y.h.name) := fun u hu => fall u (bel_step hBd hu) 0 (by omega)
      have f1 : ∀ u, Below wr.drew.heap.size wr.drew u → u.cell? ⟨b2, o2 + j * 15 + 1, none⟩ = some (.bool y.h.has) := fun u hu => fall u (bel_step hBd hu) 1 (by omega)
      have f2 : ∀ u, Below wr.drew.heap.size wr.drew u → u.cell? ⟨b2, o2 + j * 15 + 2, none⟩ = some (.int .u64 y.h.al) := fun u hu => fall u (bel_step hBd hu) 2 (by omega)
      have f3 : ∀ u, Below wr.drew.heap.size wr.drew u → u.cell? ⟨b2, o2 + j * 15 + 3, none⟩ = some (.int .u64 y.h.time) := fun u hu => fall u (bel_step hBd hu) 3 (by omega)
      have f4 : ∀ u, Below wr.drew.heap.size wr.drew u → u.cell? ⟨b2, o2 + j * 15 + 4, none⟩ = some (.int .u32 y.h.type) := fun u hu => fall u (bel_step hBd hu) 4 (by omega)
      have f5 : ∀ u, Below wr.drew.heap.size wr.drew u → u.cell? ⟨b2, o2 + j * 15 + 5, none⟩ = some (.bool y.h.hist) := fun u hu => fall u (bel_step hBd hu) 5 (by omega)
      have f6 : ∀ u, Below wr.drew.heap.size wr.drew u → u.cell? ⟨b2, o2 + j * 15 + 6, none⟩ = some (.bool y.h.trans) := fun u hu => fall u (bel_step hBd hu) 6 (by omega)
      have f7 : ∀ u, Below wr.drew.heap.size wr.drew u → u.cell? ⟨b2, o2 + j * 15 + 7, none⟩ = some (.bool y.h.null) := fun u hu => fall u (bel_step hBd hu) 7 (by omega)
      have f8 : ∀ u, Below wr.drew.heap.size wr.drew u → u.cell? ⟨b2, o2 + j * 15 + 8, none⟩ = some (.slice y.h.ma y.h.metas.length y.h.mc) := fun u hu => fall u (bel_step hBd hu) 8 (by omega)
      have f9 : ∀ u, Below wr.drew.heap.size wr.drew u → u.cell? ⟨b2, o2 + j * 15 + 9, none⟩ = some (.slice y.h.pa y.h.props.list.length y.h.pc) := fun u hu => fall u (bel_step hBd hu) 9 (by omega)
      have f10 : ∀ u, Below wr.drew.heap.size wr.drew u → u.cell? ⟨b2, o2 + j * 15 + 10, none⟩ = some (.int .i64 y.h.v.k) := fun u hu => fall u (bel_step hBd hu) 10 (by omega)
      have f11 : ∀ u, Below wr.drew.heap.size wr.drew u → u.cell? ⟨b2, o2 + j * 15 + 11, none⟩ = some (.int .u64 y.h.v.n) := fun u hu => fall u (bel_step hBd hu) 11 (by omega)
      have f12 : ∀ u, Below wr.drew.heap.size wr.drew u → u.cell? ⟨b2, o2 + j * 15 + 12, none⟩ = some (.string y.h.v.s) := fun u hu => fall u (bel_step hBd hu) 12 (by omega)
      have f13 : ∀ u, Below wr.drew.heap.size wr.drew u → u.cell? ⟨b2, o2 + j * 15 + 13, none⟩ = some (.slice y.h.sa y.h.sets.length y.h.sc) := fun u hu => fall u (bel_step hBd hu) 13 (by omega)
      have f14 : ∀ u, Below wr.drew.heap.size wr.drew u → u.cell? ⟨b2, o2 + j * 15 + 14, none⟩ = some (.slice y.adr y.sub.list.length y.cap) := fun u hu => fall u (bel_step hBd hu) 14 (by omega)
      clear fall
      have hc := c4 _ hBd x (List.mem_of_getElem? hx) y (List.mem_of_getElem? hy)
      have he2 := HE.out
      rw [drop_cons hx, drop_cons hy, alleq] at he2
      obtain ⟨t, ht⟩ : ∃ t, nsame true x y = t := ⟨_, rfl⟩
      rw [ht] at he2 hc
      have HE2 := Lib.hid he2
      clear hx hy HE ht he2
      unfold Nd.magg at hc
      generalize x.h.name = xV0 at *
      generalize x.h.has = xV1 at *
      generalize x.h.al = xV2 at *
      generalize x.h.time = xV3 at *
      generalize x.h.type = xV4 at *
      generalize x.h.hist = xV5 at *
      generalize x.h.trans = xV6 at *
      generalize x.h.null = xV7 at *
      generalize x.h.metas.length = xL8 at *
      generalize x.h.ma = xA8 at *
      generalize x.h.mc = xV8 at *
      generalize x.h.props.list.length = xL9 at *
      generalize x.h.pa = xA9 at *
      generalize x.h.pc = xV9 at *
      generalize x.h.v.k = xV10 at *
      generalize x.h.v.n = xV11 at *
      generalize x.h.v.s = xV12 at *
      generalize x.h.sets.length = xL13 at *
      generalize x.h.sa = xA13 at *
      generalize x.h.sc = xV13 at *
      generalize x.sub.list.length = xL14 at *
      generalize x.adr = xA14 at *
      generalize x.cap = xV14 at *
      generalize y.h.name = yV0 at *
      generalize y.h.has = yV1 at *
      generalize y.h.al = yV2 at *
      generalize y.h.time = yV3 at *
      generalize y.h.type = yV4 at *
      generalize y.h.hist = yV5 at *
      generalize y.h.trans = yV6 at *
      generalize y.h.null = yV7 at *
      generalize y.h.metas.length = yL8 at *
      generalize y.h.ma = yA8 at *
      generalize y.h.mc = yV8 at *
      generalize y.h.props.list.length = yL9 at *
      generalize y.h.pa = yA9 at *
      generalize y.h.pc = yV9 at *
      generalize y.h.v.k = yV10 at *
      generalize y.h.v.n = yV11 at *
      generalize y.h.v.s = yV12 at *
      generalize y.h.sets.length = yL13 at *
      generalize y.h.sa = yA13 at *
      generalize y.h.sc = yV13 at *
      generalize y.sub.list.length = yL14 at *
      generalize y.adr = yA14 at *
      generalize y.cap = yV14 at *
      go_wp2_with fail
      clear x5 y5
      refine wp_region_L 12 [0, 1, 2, 3, 4, 5, 6, 7, 8, 9, 10, 11] rfl (by decide) (by decide) (by kernel_rfl) ?_
      generalize wr.drew = W1 at *
      simp only [List.filterMap_cons, List.filterMap_nil, List.getElem?_cons_zero, List.getElem?_cons_succ, Option.map_some]
      repeat (first
          | (refine wpL_take (v := ?_) (by kernel_rfl) (by kernel_rfl) (by kernel_rfl) (fun _ _ _ h => h) (by rfl) (fun u hu => ?_) ?_
             rotate_left
             focus
               unfold Grows at hu
               go_simp
               try with_reducible rfl
             simp only [Act.put, List.setIfInBounds_toArray, List.set_cons_zero, List.set_cons_succ])
          | (refine wpL_pass (by kernel_rfl) (by kernel_rfl) (by kernel_rfl) (fun _ _ _ h => h) (by rfl) ?_; simp only [Act.put, List.setIfInBounds_toArray, List.set_cons_zero, List.set_cons_succ])
          | (refine wpL_do (by kernel_rfl) (by rfl) (fun K hK => ?_); go_simp; go_at_call 19; refine hc.mono ?_; rintro e w2 ⟨rfl, hBk⟩; refine hK _ _ hBk ?_; clear hK K))
      refine wpL_done (by kernel_rfl) ?_
      have hB2 := bel_step hBd hBk
      clear hc hBk dx dy g0 f0 g1 f1 g2 f2 g3 f3 g4 f4 g5 f5 g6 f6 g7 f7 g8 f8 g9 f9 g10 f10 g11 f11 g12 f12 g13 f13 g14 f14
      cases t
      · have hq : false = r := by have := HE2.out; simpa using this
        subst hq
        clear HE2
        go_wp2_with fail
        go_ret
        exact ⟨rfl, bel_step hW1 hB2⟩
      · rw [Bool.true_and] at HE2
        go_wp2_with fail
        go_roundw
        case rel => exact ⟨j + 1, by go_num, by omega, HE2.out, hB2⟩
        case measure => simp [intOf]; omega
    · have x5 : wr.cell? ⟨w.heap.size, 5, none⟩ = some (.slice xadr xml xcap) := (hDa.below hB).cell 5
      have y5 : wr.cell? ⟨w.heap.size + 1, 5, none⟩ = some (.slice yadr xml ycap) := (hDb.below hB).cell 5
      rw [List.drop_eq_nil_of_le (by rw [NTx.out]; omega), List.drop_eq_nil_of_le (by rw [NTy.out]; omega)] at HE
      have hq : true = r := HE.out
      subst hq
      clear HE HQ
      go_wp2_with fail
      go_ret
      exact ⟨rfl, bel_step hW1 hB⟩
end Go.Proofs.Ytaahhommfpohhaa
