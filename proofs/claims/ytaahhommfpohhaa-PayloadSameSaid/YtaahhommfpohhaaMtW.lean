/- WALKS: metric.Same, metric.sameTemplate (printed by genmtw.py) -/
import Derived.Test.YtaahhommfpohhaaMtE
import Derived.Test.YtaahhommfpohhaaMtS
import Derived.Test.YtaahhommfpohhaaSlT
import Derived.RangeFuncBox
namespace Go.Proofs.Ytaahhommfpohhaa
open Go.RowKit

/-- a block that holds these cells -/
def BoxC (W : World) (B : Nat) (cs : Array Value) (t : TypeId) : Prop := W.heap[B]? = some (.cells cs t (0, 0))
theorem BoxC.lt {W : World} {B : Nat} {cs : Array Value} {t : TypeId} (h : BoxC W B cs t) : B < W.heap.size := (Array.getElem?_eq_some_iff.1 h).1
theorem BoxC.below {W W' : World} {B : Nat} {cs : Array Value} {t : TypeId} (h : BoxC W B cs t) (hb : Below W.heap.size W W') : BoxC W' B cs t := (hb.block B h.lt).trans h
theorem BoxC.cell {W : World} {B : Nat} {cs : Array Value} {t : TypeId} (h : BoxC W B cs t) (i : Nat) : W.cell? ⟨B, i, none⟩ = cs[i]? := by simp [World.cell?, show W.heap[B]? = _ from h]
theorem BoxC.drewN {W : World} {B : Nat} {cs : Array Value} {t : TypeId} (h : BoxC W B cs t) (n : Nat) : BoxC (W.drewN n) B cs t := h
/-- two blocks, laid one behind the other -/
theorem box_two (w : World) (cs ds : Array Value) (t : TypeId) : BoxC ((w.alloc (Obj.cells cs t)).alloc (Obj.cells ds t)) w.heap.size cs t ∧ BoxC ((w.alloc (Obj.cells cs t)).alloc (Obj.cells ds t)) (w.heap.size + 1) ds t := by
  constructor
  · exact (Below.heap_alloc _ _ _ (by simp)).trans (World.alloc_heap_new w _)
  · have := World.alloc_heap_new (w.alloc (Obj.cells cs t)) (Obj.cells ds t)
    rw [World.size_alloc] at this
    exact this
def SameM (p : Nd) : Prop := ∀ (q : Nd) (w : World), p.MAt w w.heap.size → q.MAt w w.heap.size → p.MOk → q.MOk →
  Calls Try.prog 18 #[p.magg, q.magg] w fun e w' => e = .returned (.bool (nsame true p q)) ∧ Below w.heap.size w w'
def SameT (p : Nd) : Prop := ∀ (q : Nd) (w : World), p.TAt w w.heap.size → q.TAt w w.heap.size → p.TOk → q.TOk →
  Calls Try.prog 39 #[p.tagg, q.tagg] w fun e w' => e = .returned (.bool (nsame false p q)) ∧ Below w.heap.size w w'
theorem Nd.MAt.at2 {p : Nd} {w W : World} (h : p.MAt w w.heap.size) (hB : Below w.heap.size w W) : p.MAt W W.heap.size := (h.below hB (Nat.le_refl _)).more hB.size
theorem Nd.TAt.at2 {p : Nd} {w W : World} (h : p.TAt w w.heap.size) (hB : Below w.heap.size w W) : p.TAt W W.heap.size := (h.below hB (Nat.le_refl _)).more hB.size
set_option maxRecDepth 100000 in
set_option maxHeartbeats 4000000 in
theorem mm_step (p : Nd) (ih : ∀ x ∈ p.sub.list, SameT x) : SameM p := by
  intro q w hp hq op oq
  have e1 := fun W (hB : Below w.heap.size w W) => eqm_any p.h.metas q.h.metas p.h.ma q.h.ma p.h.mc q.h.mc op.h.ml oq.h.ml W (hp.at2 hB).h.m (hq.at2 hB).h.m
  have e2 := fun W (hB : Below w.heap.size w W) => psame_any p.h.props q.h.props p.h.pa q.h.pa p.h.pc q.h.pc W op.h.pl oq.h.pl op.h.p oq.h.p (hp.at2 hB).h.p (hq.at2 hB).h.p
  have e3 := fun W (hB : Below w.heap.size w W) => eqds_any p.h.sets q.h.sets p.h.sa q.h.sa p.h.sc q.h.sc op.h.sl oq.h.sl W (hp.at2 hB).h.s (hq.at2 hB).h.s
    (fun W2 hB2 x hx y hy => dsame_any x y (op.h.s x hx) (oq.h.s y hy) W2 ((hp.at2 (bel_step hB hB2)).h.ds x hx) ((hq.at2 (bel_step hB hB2)).h.ds y hy))
  have e4 := fun W (hB : Below w.heap.size w W) => eqt_any p.sub.list q.sub.list p.adr q.adr p.cap q.cap op.len oq.len W (hp.at2 hB).sub.rd (hq.at2 hB).sub.rd
    (fun W2 hB2 x hx y hy => ih x hx y W2 ((hp.at2 (bel_step hB hB2)).sub.tat hx) ((hq.at2 (bel_step hB hB2)).sub.tat hy) (Tr.ok_tok op.sub hx) (Tr.ok_tok oq.sub hy))
  obtain ⟨r, hr⟩ : ∃ r, nsame true p q = r := ⟨_, rfl⟩
  rw [hr]
  unfold nsame hsame mscal mpart at hr
  rw [Tr.same_list] at hr
  simp only [if_true, Bool.not_true] at hr
  clear ih hp hq op oq
  generalize alleq meq p.h.metas q.h.metas = t1 at *
  generalize p.h.props.same q.h.props = t2 at *
  generalize alleq dsame p.h.sets q.h.sets = t3 at *
  generalize alleq (nsame false) p.sub.list q.sub.list = t4 at *
  unfold seq neq veq seq at hr
  obtain ⟨⟨xname, xhas, xal, xtime, xtype, xhist, xtrans, xnull, xma, xmc, xmetas, xpa, xpc, xprops, ⟨xk, xn, xs⟩, xsa, xsc, xsets⟩, xt, xadr, xcap, xsub⟩ := p
  obtain ⟨⟨yname, yhas, yal, ytime, ytype, yhist, ytrans, ynull, yma, ymc, ymetas, ypa, ypc, yprops, ⟨yk, yn, ys⟩, ysa, ysc, ysets⟩, yt, yadr, ycap, ysub⟩ := q
  unfold Nd.magg
  simp only at e1 e2 e3 e4 hr ⊢
  generalize xmetas.length = xml at *
  generalize xprops.list.length = xpl at *
  generalize xsets.length = xsl at *
  generalize xsub.list.length = xtl at *
  generalize ymetas.length = yml at *
  generalize yprops.list.length = ypl at *
  generalize ysets.length = ysl at *
  generalize ysub.list.length = ytl at *
  have HR := Lib.hid hr
  clear hr
  have hE0 : Below w.heap.size w ((w.alloc (Obj.cells #[.string xname, .bool xhas, .int .u64 xal, .int .u64 xtime, .int .u32 xtype, .bool xhist, .bool xtrans, .bool xnull, .slice xma xml xmc, .slice xpa xpl xpc, .int .i64 xk, .int .u64 xn, .string xs, .slice xsa xsl xsc, .slice xadr xtl xcap] 31)).alloc (Obj.cells #[.string yname, .bool yhas, .int .u64 yal, .int .u64 ytime, .int .u32 ytype, .bool yhist, .bool ytrans, .bool ynull, .slice yma yml ymc, .slice ypa ypl ypc, .int .i64 yk, .int .u64 yn, .string ys, .slice ysa ysl ysc, .slice yadr ytl ycap] 31)) := ((Below.refl _ w).alloc (Nat.le_refl _) _).alloc (by simp) _
  obtain ⟨hDa, hDb⟩ := box_two w #[.string xname, .bool xhas, .int .u64 xal, .int .u64 xtime, .int .u32 xtype, .bool xhist, .bool xtrans, .bool xnull, .slice xma xml xmc, .slice xpa xpl xpc, .int .i64 xk, .int .u64 xn, .string xs, .slice xsa xsl xsc, .slice xadr xtl xcap] #[.string yname, .bool yhas, .int .u64 yal, .int .u64 ytime, .int .u32 ytype, .bool yhist, .bool ytrans, .bool ynull, .slice yma yml ymc, .slice ypa ypl ypc, .int .i64 yk, .int .u64 yn, .string ys, .slice ysa ysl ysc, .slice yadr ytl ycap] 31
  go_enter Try.func18, Try.ntmps18
  cases d0 : (xname.toList == yname.toList)
  case false =>
    have hq : false = r := by have := HR.out; rw [d0] at this; simpa using this
    subst hq
    clear HR
    go_wp2_with fail
    go_ret
    exact ⟨rfl, hE0⟩
  cases d1 : (xhas == yhas)
  case false =>
    have ne1 : (xhas != yhas) = true := by rw [bne, d1]; rfl
    have hq : false = r := by have := HR.out; rw [d0, d1] at this; simpa using this
    subst hq
    clear HR
    go_wp2_with fail
    go_ret
    exact ⟨rfl, hE0⟩
  have ne1 : (xhas != yhas) = false := by rw [bne, d1]; rfl
  cases d2 : ((xal : Int) == (yal : Int))
  case false =>
    have ne2 : ((xal : Int) != (yal : Int)) = true := by rw [bne, d2]; rfl
    have hq : false = r := by have := HR.out; rw [d0, d1, d2] at this; simpa using this
    subst hq
    clear HR
    go_wp2_with fail
    go_ret
    exact ⟨rfl, hE0⟩
  have ne2 : ((xal : Int) != (yal : Int)) = false := by rw [bne, d2]; rfl
  cases d3 : ((xtime : Int) == (ytime : Int))
  case false =>
    have ne3 : ((xtime : Int) != (ytime : Int)) = true := by rw [bne, d3]; rfl
    have hq : false = r := by have := HR.out; rw [d0, d1, d2, d3] at this; simpa using this
    subst hq
    clear HR
    go_wp2_with fail
    go_ret
    exact ⟨rfl, hE0⟩
  have ne3 : ((xtime : Int) != (ytime : Int)) = false := by rw [bne, d3]; rfl
  cases d4 : ((xtype : Int) == (ytype : Int))
  case false =>
    have ne4 : ((xtype : Int) != (ytype : Int)) = true := by rw [bne, d4]; rfl
    have hq : false = r := by have := HR.out; rw [d0, d1, d2, d3, d4] at this; simpa using this
    subst hq
    clear HR
    go_wp2_with fail
    go_ret
    exact ⟨rfl, hE0⟩
  have ne4 : ((xtype : Int) != (ytype : Int)) = false := by rw [bne, d4]; rfl
  cases d5 : (xhist == yhist)
  case false =>
    have ne5 : (xhist != yhist) = true := by rw [bne, d5]; rfl
    have hq : false = r := by have := HR.out; rw [d0, d1, d2, d3, d4, d5] at this; simpa using this
    subst hq
    clear HR
    go_wp2_with fail
    go_ret
    exact ⟨rfl, hE0⟩
  have ne5 : (xhist != yhist) = false := by rw [bne, d5]; rfl
  cases d6 : (xtrans == ytrans)
  case false =>
    have ne6 : (xtrans != ytrans) = true := by rw [bne, d6]; rfl
    have hq : false = r := by have := HR.out; rw [d0, d1, d2, d3, d4, d5, d6] at this; simpa using this
    subst hq
    clear HR
    go_wp2_with fail
    go_ret
    exact ⟨rfl, hE0⟩
  have ne6 : (xtrans != ytrans) = false := by rw [bne, d6]; rfl
  cases d7 : (xnull == ynull)
  case false =>
    have ne7 : (xnull != ynull) = true := by rw [bne, d7]; rfl
    have hq : false = r := by have := HR.out; rw [d0, d1, d2, d3, d4, d5, d6, d7] at this; simpa using this
    subst hq
    clear HR
    go_wp2_with fail
    go_ret
    exact ⟨rfl, hE0⟩
  have ne7 : (xnull != ynull) = false := by rw [bne, d7]; rfl
  cases d8 : (xk == yk)
  case false =>
    have hq : false = r := by have := HR.out; rw [d0, d1, d2, d3, d4, d5, d6, d7, d8] at this; simpa using this
    subst hq
    clear HR
    go_wp2_with fail
    go_ret
    exact ⟨rfl, hE0⟩
  cases d9 : ((xn : Int) == (yn : Int))
  case false =>
    have hq : false = r := by have := HR.out; rw [d0, d1, d2, d3, d4, d5, d6, d7, d8, d9] at this; simpa using this
    subst hq
    clear HR
    go_wp2_with fail
    go_ret
    exact ⟨rfl, hE0⟩
  cases d10 : (xs.toList == ys.toList)
  case false =>
    have hq : false = r := by have := HR.out; rw [d0, d1, d2, d3, d4, d5, d6, d7, d8, d9, d10] at this; simpa using this
    subst hq
    clear HR
    go_wp2_with fail
    go_ret
    exact ⟨rfl, hE0⟩
  have HQ : Hid (((t1 && (t2 && t3)) && t4) = r) := Lib.hid (by have := HR.out; rw [d0, d1, d2, d3, d4, d5, d6, d7, d8, d9, d10] at this; simpa using this)
  clear HR
  go_wp2_with fail
  refine (e1 _ hE0).mono ?_
  rintro e w1 ⟨rfl, hB1⟩
  have hW1 := bel_step hE0 hB1
  have hDa1 := hDa.below hB1
  have hDb1 := hDb.below hB1
  cases t1
  · have hq : false = r := by have := HQ.out; simpa using this
    subst hq
    clear HQ
    go_wp2_with fail
    go_ret
    exact ⟨rfl, hW1⟩
  have x9 : w1.cell? ⟨w.heap.size, 9, none⟩ = some (.slice xpa xpl xpc) := hDa1.cell 9
  have y9 : w1.cell? ⟨w.heap.size + 1, 9, none⟩ = some (.slice ypa ypl ypc) := hDb1.cell 9
  go_wp2_with fail
  refine (e2 _ hW1).mono ?_
  rintro e w2 ⟨rfl, hB2⟩
  have hW2 := bel_step hW1 hB2
  have hDa2 := hDa1.below hB2
  have hDb2 := hDb1.below hB2
  clear x9 y9
  cases t2
  · have hq : false = r := by have := HQ.out; simpa using this
    subst hq
    clear HQ
    go_wp2_with fail
    go_ret
    exact ⟨rfl, hW2⟩
  have x13 : w2.cell? ⟨w.heap.size, 13, none⟩ = some (.slice xsa xsl xsc) := hDa2.cell 13
  have y13 : w2.cell? ⟨w.heap.size + 1, 13, none⟩ = some (.slice ysa ysl ysc) := hDb2.cell 13
  go_wp2_with fail
  refine (e3 _ hW2).mono ?_
  rintro e w3 ⟨rfl, hB3⟩
  have hW3 := bel_step hW2 hB3
  have hDa3 := hDa2.below hB3
  have hDb3 := hDb2.below hB3
  clear x13 y13
  cases t3
  · have hq : false = r := by have := HQ.out; simpa using this
    subst hq
    clear HQ
    go_wp2_with fail
    go_ret
    exact ⟨rfl, hW3⟩
  have x14 : w3.cell? ⟨w.heap.size, 14, none⟩ = some (.slice xadr xtl xcap) := hDa3.cell 14
  have y14 : w3.cell? ⟨w.heap.size + 1, 14, none⟩ = some (.slice yadr ytl ycap) := hDb3.cell 14
  go_wp2_with fail
  refine (e4 _ hW3).mono ?_
  rintro e w4 ⟨rfl, hB4⟩
  have hW4 := bel_step hW3 hB4
  have hDa4 := hDa3.below hB4
  have hDb4 := hDb3.below hB4
  clear x14 y14
  have hq : t4 = r := by have := HQ.out; simpa using this
  subst hq
  clear HQ
  go_wp2_with fail
  go_ret
  exact ⟨rfl, hW4⟩
set_option maxRecDepth 100000 in
set_option maxHeartbeats 4000000 in
theorem tt_step (p : Nd) (ih : ∀ x ∈ p.sub.list, SameM x) : SameT p := by
  intro q w hp hq op oq
  have e1 := fun W (hB : Below w.heap.size w W) => eqq_any p.t.params q.t.params p.t.qa q.t.qa p.t.qc q.t.qc op.t.pl oq.t.pl W (hp.at2 hB).t.p (hq.at2 hB).t.p
  have e2 := fun W (hB : Below w.heap.size w W) => eqn_any p.sub.list q.sub.list p.adr q.adr p.cap q.cap op.len oq.len W (hp.at2 hB).sub.rd (hq.at2 hB).sub.rd
    (fun W2 hB2 x hx y hy => ih x hx y W2 ((hp.at2 (bel_step hB hB2)).sub.mat hx) ((hq.at2 (bel_step hB hB2)).sub.mat hy) (Tr.ok_mok op.sub hx) (Tr.ok_mok oq.sub hy))
  obtain ⟨r, hr⟩ : ∃ r, nsame false p q = r := ⟨_, rfl⟩
  rw [hr]
  unfold nsame hsame tscal at hr
  rw [Tr.same_list] at hr
  simp only [Bool.false_eq_true, if_false, Bool.not_false] at hr
  clear ih hp hq op oq
  generalize alleq qeq p.t.params q.t.params = t1 at *
  generalize alleq (nsame true) p.sub.list q.sub.list = t2 at *
  unfold seq at hr
  obtain ⟨xh, ⟨xver, xref, xdf, xqa, xqc, xparams⟩, xadr, xcap, xsub⟩ := p
  obtain ⟨yh, ⟨yver, yref, ydf, yqa, yqc, yparams⟩, yadr, ycap, ysub⟩ := q
  unfold Nd.tagg
  simp only at e1 e2 hr ⊢
  generalize xparams.length = xpl at *
  generalize xsub.list.length = xtl at *
  generalize yparams.length = ypl at *
  generalize ysub.list.length = ytl at *
  have HR := Lib.hid hr
  clear hr
  have hE0 : Below w.heap.size w ((w.alloc (Obj.cells #[.string xver, .string xref, .bool xdf, .slice xqa xpl xqc, .slice xadr xtl xcap] 62)).alloc (Obj.cells #[.string yver, .string yref, .bool ydf, .slice yqa ypl yqc, .slice yadr ytl ycap] 62)) := ((Below.refl _ w).alloc (Nat.le_refl _) _).alloc (by simp) _
  obtain ⟨hDa, hDb⟩ := box_two w #[.string xver, .string xref, .bool xdf, .slice xqa xpl xqc, .slice xadr xtl xcap] #[.string yver, .string yref, .bool ydf, .slice yqa ypl yqc, .slice yadr ytl ycap] 62
  go_enter Try.func39, Try.ntmps39
  cases d0 : (xver.toList == yver.toList)
  case false =>
    have hq : false = r := by have := HR.out; rw [d0] at this; simpa using this
    subst hq
    clear HR
    go_wp2_with fail
    go_ret
    exact ⟨rfl, hE0⟩
  cases d1 : (xref.toList == yref.toList)
  case false =>
    have hq : false = r := by have := HR.out; rw [d0, d1] at this; simpa using this
    subst hq
    clear HR
    go_wp2_with fail
    go_ret
    exact ⟨rfl, hE0⟩
  cases d2 : (xdf == ydf)
  case false =>
    have ne2 : (xdf != ydf) = true := by rw [bne, d2]; rfl
    have hq : false = r := by have := HR.out; rw [d0, d1, d2] at this; simpa using this
    subst hq
    clear HR
    go_wp2_with fail
    go_ret
    exact ⟨rfl, hE0⟩
  have ne2 : (xdf != ydf) = false := by rw [bne, d2]; rfl
  have HQ : Hid ((t1 && t2) = r) := Lib.hid (by have := HR.out; rw [d0, d1, d2] at this; simpa using this)
  clear HR
  go_wp2_with fail
  refine (e1 _ hE0).mono ?_
  rintro e w1 ⟨rfl, hB1⟩
  have hW1 := bel_step hE0 hB1
  have hDa1 := hDa.below hB1
  have hDb1 := hDb.below hB1
  cases t1
  · have hq : false = r := by have := HQ.out; simpa using this
    subst hq
    clear HQ
    go_wp2_with fail
    go_ret
    exact ⟨rfl, hW1⟩
  have x4 : w1.cell? ⟨w.heap.size, 4, none⟩ = some (.slice xadr xtl xcap) := hDa1.cell 4
  have y4 : w1.cell? ⟨w.heap.size + 1, 4, none⟩ = some (.slice yadr ytl ycap) := hDb1.cell 4
  go_wp2_with fail
  refine (e2 _ hW1).mono ?_
  rintro e w2 ⟨rfl, hB2⟩
  have hW2 := bel_step hW1 hB2
  have hDa2 := hDa1.below hB2
  have hDb2 := hDb1.below hB2
  clear x4 y4
  have hq : t2 = r := by have := HQ.out; simpa using this
  subst hq
  clear HQ
  go_wp2_with fail
  go_ret
  exact ⟨rfl, hW2⟩
theorem same_all : ∀ l : Tr, ∀ p ∈ l.list, SameM p ∧ SameT p := Tr.ind fun _ ih p hp => ⟨mm_step p fun x hx => (ih p hp x hx).2, tt_step p fun x hx => (ih p hp x hx).1⟩
theorem sameM_any (p : Nd) : SameM p := (same_all (.cons p.h p.t p.adr p.cap p.sub .nil) p (List.mem_cons_self ..)).1
end Go.Proofs.Ytaahhommfpohhaa
