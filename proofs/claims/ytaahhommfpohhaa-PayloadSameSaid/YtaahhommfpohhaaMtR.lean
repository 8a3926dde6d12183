/- WALKS: crierref09.Same, crierref09.SameTemplate (printed by genmtr.py) -/
import Derived.Test.YtaahhommfpohhaaMtW
import Derived.Test.YtaahhommfpohhaaSlR
namespace Go.Proofs.Ytaahhommfpohhaa
open Go.RowKit

def RSameM (p : Nd) : Prop := ∀ (q : Nd) (w : World), p.MAt w w.heap.size → q.MAt w w.heap.size → p.MOk → q.MOk →
  Calls Try.prog 19 #[p.magg, q.magg] w fun e w' => e = .returned (.bool (nsame true p q)) ∧ Below w.heap.size w w'
def RSameT (p : Nd) : Prop := ∀ (q : Nd) (w : World), p.TAt w w.heap.size → q.TAt w w.heap.size → p.TOk → q.TOk →
  Calls Try.prog 42 #[p.tagg, q.tagg] w fun e w' => e = .returned (.bool (nsame false p q)) ∧ Below w.heap.size w w'
/-- the element of a list, whatever is laid later -/
theorem elem_all {α : Type} {f : α → List Value} {n : Nat} (hf : ∀ a, (f a).length = n) (hn : 0 < n) {w : World} {A : Option Addr} {l : List α} {j : Nat} {a : α} (hr : Rd w w.heap.size A (l.flatMap f)) (ha : l[j]? = some a) :
    ∃ b o, A = some ⟨b, o, none⟩ ∧ b < w.heap.size ∧ ∀ u, Below w.heap.size w u → ∀ i, i < n → u.cell? ⟨b, o + j * n + i, none⟩ = (f a)[i]? := by
  obtain ⟨b, o, e, hb, g⟩ := rd_elem hf hn hr ha
  exact ⟨b, o, e, hb, fun u hu i hi => (hu.cell (p := ⟨b, o + j * n + i, none⟩) hb).trans (g i hi)⟩
set_option maxRecDepth 100000 in
set_option maxHeartbeats 4000000 in
theorem rmm_step (p : Nd) (ih : ∀ x ∈ p.sub.list, RSameT x) : RSameM p := by
  intro q w hp hq op oq
  have e2 := fun W (hB : Below w.heap.size w W) => Calls.mono (rsame_any p.h.props q.h.props p.h.pa q.h.pa p.h.pc q.h.pc W op.h.pl oq.h.pl op.h.p oq.h.p (hp.at2 hB).h.p (hq.at2 hB).h.p)
    (show ∀ e w', _ → (e = .returned (.bool (p.h.props.same q.h.props)) ∧ Below W.heap.size W w') from fun e w' h => ⟨h.1, by obtain ⟨k, hk⟩ := h.2; subst hk; exact below_drewN (Below.refl _ _) k⟩)
  have e3 := fun W (hB : Below w.heap.size w W) x (hx : x ∈ p.h.sets) y (hy : y ∈ q.h.sets) => rdsame_any x y (op.h.s x hx) (oq.h.s y hy) W ((hp.at2 hB).h.ds x hx) ((hq.at2 hB).h.ds y hy)
  have e4 := fun W (hB : Below w.heap.size w W) x (hx : x ∈ p.sub.list) y (hy : y ∈ q.sub.list) => ih x hx y W ((hp.at2 hB).sub.tat hx) ((hq.at2 hB).sub.tat hy) (Tr.ok_tok op.sub hx) (Tr.ok_tok oq.sub hy)
  have m1 := fun W (hB : Below w.heap.size w W) => (hp.at2 hB).h.m
  have m2 := fun W (hB : Below w.heap.size w W) => (hq.at2 hB).h.m
  have s1 := fun W (hB : Below w.heap.size w W) => (hp.at2 hB).h.s
  have s2 := fun W (hB : Below w.heap.size w W) => (hq.at2 hB).h.s
  have k1 := fun W (hB : Below w.heap.size w W) => (hp.at2 hB).sub.rd
  have k2 := fun W (hB : Below w.heap.size w W) => (hq.at2 hB).sub.rd
  have hml := op.h.ml
  have hsl := op.h.sl
  have htl := op.len
  obtain ⟨r, hr⟩ : ∃ r, nsame true p q = r := ⟨_, rfl⟩
  rw [hr]
  unfold nsame hsame mscal mpart at hr
  rw [Tr.same_list] at hr
  simp only [if_true, Bool.not_true] at hr
  clear ih hp hq op oq
  generalize p.h.props.same q.h.props = t2 at *
  obtain ⟨T1, hT1⟩ : ∃ T, alleq meq p.h.metas q.h.metas = T := ⟨_, rfl⟩
  obtain ⟨T3, hT3⟩ : ∃ T, alleq dsame p.h.sets q.h.sets = T := ⟨_, rfl⟩
  obtain ⟨T4, hT4⟩ : ∃ T, alleq (nsame false) p.sub.list q.sub.list = T := ⟨_, rfl⟩
  rw [hT1, hT3, hT4] at hr
  have HT1 := Lib.hid hT1
  have HT3 := Lib.hid hT3
  have HT4 := Lib.hid hT4
  clear hT1 hT3 hT4
  unfold seq neq veq seq at hr
  obtain ⟨⟨xname, xhas, xal, xtime, xtype, xhist, xtrans, xnull, xma, xmc, xmetas, xpa, xpc, xprops, ⟨xk, xn, xs⟩, xsa, xsc, xsets⟩, xt, xadr, xcap, xsub⟩ := p
  obtain ⟨⟨yname, yhas, yal, ytime, ytype, yhist, ytrans, ynull, yma, ymc, ymetas, ypa, ypc, yprops, ⟨yk, yn, ys⟩, ysa, ysc, ysets⟩, yt, yadr, ycap, ysub⟩ := q
  unfold Nd.magg
  simp only at e2 e3 e4 m1 m2 s1 s2 k1 k2 hml hsl htl hr HT1 HT3 HT4 ⊢
  generalize xprops.list.length = xpl at *
  generalize yprops.list.length = ypl at *
  generalize xsub.list = xts at *
  generalize ysub.list = yts at *
  obtain ⟨xml, hxml⟩ : ∃ k, xmetas.length = k := ⟨_, rfl⟩
  obtain ⟨xsl, hxsl⟩ : ∃ k, xsets.length = k := ⟨_, rfl⟩
  obtain ⟨xtl, hxtl⟩ : ∃ k, xts.length = k := ⟨_, rfl⟩
  obtain ⟨yml, hyml⟩ : ∃ k, ymetas.length = k := ⟨_, rfl⟩
  obtain ⟨ysl, hysl⟩ : ∃ k, ysets.length = k := ⟨_, rfl⟩
  obtain ⟨ytl, hytl⟩ : ∃ k, yts.length = k := ⟨_, rfl⟩
  rw [hxml, hyml, hxsl, hysl, hxtl, hytl]
  rw [hxml] at hml
  rw [hxsl] at hsl
  rw [hxtl] at htl
  have NMx := Lib.hid hxml
  have NSx := Lib.hid hxsl
  have NTx := Lib.hid hxtl
  have NMy := Lib.hid hyml
  have NSy := Lib.hid hysl
  have NTy := Lib.hid hytl
  have HR := Lib.hid hr
  clear hr hxml hyml hxsl hysl hxtl hytl
  have hE0 : Below w.heap.size w ((w.alloc (Obj.cells #[.string xname, .bool xhas, .int .u64 xal, .int .u64 xtime, .int .u32 xtype, .bool xhist, .bool xtrans, .bool xnull, .slice xma xml xmc, .slice xpa xpl xpc, .int .i64 xk, .int .u64 xn, .string xs, .slice xsa xsl xsc, .slice xadr xtl xcap] 31)).alloc (Obj.cells #[.string yname, .bool yhas, .int .u64 yal, .int .u64 ytime, .int .u32 ytype, .bool yhist, .bool ytrans, .bool ynull, .slice yma yml ymc, .slice ypa ypl ypc, .int .i64 yk, .int .u64 yn, .string ys, .slice ysa ysl ysc, .slice yadr ytl ycap] 31)) := ((Below.refl _ w).alloc (Nat.le_refl _) _).alloc (by simp) _
  obtain ⟨hD1, hD2⟩ := box_two w #[.string xname, .bool xhas, .int .u64 xal, .int .u64 xtime, .int .u32 xtype, .bool xhist, .bool xtrans, .bool xnull, .slice xma xml xmc, .slice xpa xpl xpc, .int .i64 xk, .int .u64 xn, .string xs, .slice xsa xsl xsc, .slice xadr xtl xcap] #[.string yname, .bool yhas, .int .u64 yal, .int .u64 ytime, .int .u32 ytype, .bool yhist, .bool ytrans, .bool ynull, .slice yma yml ymc, .slice ypa ypl ypc, .int .i64 yk, .int .u64 yn, .string ys, .slice ysa ysl ysc, .slice yadr ytl ycap] 31
  go_enter Try.func19, Try.ntmps19
  cases d0 : (xname.toList == yname.toList)
  case false =>
    have hq : false = r := by have := HR.out; rw [d0] at this; simpa using this
    subst hq
    clear HR
    go_wp2_with fail
    go_ret
    exact ⟨rfl, hE0⟩
  cases d1 : (xhas == yhas)
  case false =>
    have ne1 : (xhas != yhas) = true := by rw [bne, d1]; rfl
    have hq : false = r := by have := HR.out; rw [d0, d1] at this; simpa using this
    subst hq
    clear HR
    go_wp2_with fail
    go_ret
    exact ⟨rfl, hE0⟩
  have ne1 : (xhas != yhas) = false := by rw [bne, d1]; rfl
  cases d2 : ((xal : Int) == (yal : Int))
  case false =>
    have ne2 : ((xal : Int) != (yal : Int)) = true := by rw [bne, d2]; rfl
    have hq : false = r := by have := HR.out; rw [d0, d1, d2] at this; simpa using this
    subst hq
    clear HR
    go_wp2_with fail
    go_ret
    exact ⟨rfl, hE0⟩
  have ne2 : ((xal : Int) != (yal : Int)) = false := by rw [bne, d2]; rfl
  cases d3 : ((xtime : Int) == (ytime : Int))
  case false =>
    have ne3 : ((xtime : Int) != (ytime : Int)) = true := by rw [bne, d3]; rfl
    have hq : false = r := by have := HR.out; rw [d0, d1, d2, d3] at this; simpa using this
    subst hq
    clear HR
    go_wp2_with fail
    go_ret
    exact ⟨rfl, hE0⟩
  have ne3 : ((xtime : Int) != (ytime : Int)) = false := by rw [bne, d3]; rfl
  cases d4 : ((xtype : Int) == (ytype : Int))
  case false =>
    have ne4 : ((xtype : Int) != (ytype : Int)) = true := by rw [bne, d4]; rfl
    have hq : false = r := by have := HR.out; rw [d0, d1, d2, d3, d4] at this; simpa using this
    subst hq
    clear HR
    go_wp2_with fail
    go_ret
    exact ⟨rfl, hE0⟩
  have ne4 : ((xtype : Int) != (ytype : Int)) = false := by rw [bne, d4]; rfl
  cases d5 : (xhist == yhist)
  case false =>
    have ne5 : (xhist != yhist) = true := by rw [bne, d5]; rfl
    have hq : false = r := by have := HR.out; rw [d0, d1, d2, d3, d4, d5] at this; simpa using this
    subst hq
    clear HR
    go_wp2_with fail
    go_ret
    exact ⟨rfl, hE0⟩
  have ne5 : (xhist != yhist) = false := by rw [bne, d5]; rfl
  cases d6 : (xtrans == ytrans)
  case false =>
    have ne6 : (xtrans != ytrans) = true := by rw [bne, d6]; rfl
    have hq : false = r := by have := HR.out; rw [d0, d1, d2, d3, d4, d5, d6] at this; simpa using this
    subst hq
    clear HR
    go_wp2_with fail
    go_ret
    exact ⟨rfl, hE0⟩
  have ne6 : (xtrans != ytrans) = false := by rw [bne, d6]; rfl
  cases d7 : (xnull == ynull)
  case false =>
    have ne7 : (xnull != ynull) = true := by rw [bne, d7]; rfl
    have hq : false = r := by have := HR.out; rw [d0, d1, d2, d3, d4, d5, d6, d7] at this; simpa using this
    subst hq
    clear HR
    go_wp2_with fail
    go_ret
    exact ⟨rfl, hE0⟩
  have ne7 : (xnull != ynull) = false := by rw [bne, d7]; rfl
  cases d8 : (xk == yk)
  case false =>
    have hq : false = r := by have := HR.out; rw [d0, d1, d2, d3, d4, d5, d6, d7, d8] at this; simpa using this
    subst hq
    clear HR
    go_wp2_with fail
    go_ret
    exact ⟨rfl, hE0⟩
  cases d9 : ((xn : Int) == (yn : Int))
  case false =>
    have hq : false = r := by have := HR.out; rw [d0, d1, d2, d3, d4, d5, d6, d7, d8, d9] at this; simpa using this
    subst hq
    clear HR
    go_wp2_with fail
    go_ret
    exact ⟨rfl, hE0⟩
  cases d10 : (xs.toList == ys.toList)
  case false =>
    have hq : false = r := by have := HR.out; rw [d0, d1, d2, d3, d4, d5, d6, d7, d8, d9, d10] at this; simpa using this
    subst hq
    clear HR
    go_wp2_with fail
    go_ret
    exact ⟨rfl, hE0⟩
  have HQ : Hid (((T1 && (t2 && T3)) && T4) = r) := Lib.hid (by have := HR.out; rw [d0, d1, d2, d3, d4, d5, d6, d7, d8, d9, d10] at this; simpa using this)
  clear HR
  by_cases hnT1 : xml = yml
  rotate_left
  · have hb : ((xml : Int) != (yml : Int)) = true := by simp; omega
    have hq : false = r := by rw [← HQ.out, ← HT1.out, alleq_len (f := meq) (by rw [NMx.out, NMy.out]; exact hnT1)]; simp
    subst hq
    clear HQ hnT1
    go_wp2_with fail
    go_ret
    exact ⟨rfl, hE0⟩
  subst hnT1
  by_cases hnT3 : xsl = ysl
  rotate_left
  · have hb : ((xsl : Int) != (ysl : Int)) = true := by simp; omega
    have hq : false = r := by rw [← HQ.out, ← HT3.out, alleq_len (f := dsame) (by rw [NSx.out, NSy.out]; exact hnT3)]; simp
    subst hq
    clear HQ hnT3
    go_wp2_with fail
    go_ret
    exact ⟨rfl, hE0⟩
  subst hnT3
  by_cases hnT4 : xtl = ytl
  rotate_left
  · have hb : ((xtl : Int) != (ytl : Int)) = true := by simp; omega
    have hq : false = r := by rw [← HQ.out, ← HT4.out, alleq_len (f := nsame false) (by rw [NTx.out, NTy.out]; exact hnT4)]; simp
    subst hq
    clear HQ hnT4
    go_wp2_with fail
    go_ret
    exact ⟨rfl, hE0⟩
  subst hnT4
  go_wp2_with fail
  refine (e2 _ hE0).mono ?_
  rintro e w1 ⟨rfl, hB1⟩
  have hW1 := bel_step hE0 hB1
  have hDa := hD1.below hB1
  have hDb := hD2.below hB1
  clear hD1 hD2 hB1 hE0
  have M1 := Lib.hid (m1 _ hW1)
  have M2 := Lib.hid (m2 _ hW1)
  have S1 := Lib.hid (s1 _ hW1)
  have S2 := Lib.hid (s2 _ hW1)
  have K1 := Lib.hid (k1 _ hW1)
  have K2 := Lib.hid (k2 _ hW1)
  have c3 := fun W (hB : Below w1.heap.size w1 W) => e3 W (bel_step hW1 hB)
  have c4 := fun W (hB : Below w1.heap.size w1 W) => e4 W (bel_step hW1 hB)
  clear e2 e3 e4 m1 m2 s1 s2 k1 k2
  cases t2
  · have hq : false = r := by have := HQ.out; simpa using this
    subst hq
    clear HQ
    go_wp2_with fail
    go_ret
    exact ⟨rfl, hW1⟩
  have HQ' : Hid ((alleq meq xmetas ymetas && (alleq dsame xsets ysets && alleq (nsame false) xts yts)) = r) := Lib.hid (by rw [HT1.out, HT3.out, HT4.out, ← HQ.out]; simp [Bool.and_assoc])
  clear HQ HT1 HT3 HT4
  have HQ := HQ'
  clear HQ'
  go_wp2_with fail
  go_loopw [5] (fun i wr => ∃ j : Nat, i = .int .i64 j ∧ j ≤ xml ∧ (alleq (meq) (xmetas.drop j) (ymetas.drop j) && (alleq dsame xsets ysets && alleq (nsame false) xts yts)) = r ∧ Below w1.heap.size w1 wr) (fun i _ => xml - (intOf i).toNat)
  case atStart => exact ⟨0, rfl, Nat.zero_le _, HQ.out, Below.refl _ _⟩
  case round =>
    obtain ⟨j, rfl, hj, he, hB⟩ := hrel
    have HE := Lib.hid he
    clear he
    have x8 : wr.cell? ⟨w.heap.size, 8, none⟩ = some (.slice xma xml xmc) := (hDa.below hB).cell 8
    have y8 : wr.cell? ⟨w.heap.size + 1, 8, none⟩ = some (.slice yma xml ymc) := (hDb.below hB).cell 8
    by_cases hlt : j < xml
    · obtain ⟨x, hx⟩ : ∃ x, xmetas[j]? = some x := ⟨_, List.getElem?_eq_getElem (by rw [NMx.out]; exact hlt)⟩
      obtain ⟨y, hy⟩ : ∃ y, ymetas[j]? = some y := ⟨_, List.getElem?_eq_getElem (by rw [NMy.out]; exact hlt)⟩
      obtain ⟨b1, o1, rfl, hb1, gall⟩ := elem_all (f := fun m : MM => m.cells.toList) (n := 8) (fun _ => rfl) (by omega) M1.out hx
      have g0 : wr.cell? ⟨b1, o1 + j * 8, none⟩ = some (.bool x.multi) := gall wr hB 0 (by omega)
      have g1 : wr.cell? ⟨b1, o1 + j * 8 + 1, none⟩ = some (.string x.type) := gall wr hB 1 (by omega)
      have g2 : wr.cell? ⟨b1, o1 + j * 8 + 2, none⟩ = some (.int .u64 x.size) := gall wr hB 2 (by omega)
      have g3 : wr.cell? ⟨b1, o1 + j * 8 + 3, none⟩ = some (.int .u64 x.seq) := gall wr hB 3 (by omega)
      have g4 : wr.cell? ⟨b1, o1 + j * 8 + 4, none⟩ = some (.string x.file) := gall wr hB 4 (by omega)
      have g5 : wr.cell? ⟨b1, o1 + j * 8 + 5, none⟩ = some (.string x.kind) := gall wr hB 5 (by omega)
      have g6 : wr.cell? ⟨b1, o1 + j * 8 + 6, none⟩ = some (.string x.md5) := gall wr hB 6 (by omega)
      have g7 : wr.cell? ⟨b1, o1 + j * 8 + 7, none⟩ = some (.string x.desc) := gall wr hB 7 (by omega)
      clear gall
      obtain ⟨b2, o2, rfl, hb2, fall⟩ := elem_all (f := fun m : MM => m.cells.toList) (n := 8) (fun _ => rfl) (by omega) M2.out hy
      have f0 : wr.cell? ⟨b2, o2 + j * 8, none⟩ = some (.bool y.multi) := fall wr hB 0 (by omega)
      have f1 : wr.cell? ⟨b2, o2 + j * 8 + 1, none⟩ = some (.string y.type) := fall wr hB 1 (by omega)
      have f2 : wr.cell? ⟨b2, o2 + j * 8 + 2, none⟩ = some (.int .u64 y.size) := fall wr hB 2 (by omega)
      have f3 : wr.cell? ⟨b2, o2 + j * 8 + 3, none⟩ = some (.int .u64 y.seq) := fall wr hB 3 (by omega)
      have f4 : wr.cell? ⟨b2, o2 + j * 8 + 4, none⟩ = some (.string y.file) := fall wr hB 4 (by omega)
      have f5 : wr.cell? ⟨b2, o2 + j * 8 + 5, none⟩ = some (.string y.kind) := fall wr hB 5 (by omega)
      have f6 : wr.cell? ⟨b2, o2 + j * 8 + 6, none⟩ = some (.string y.md5) := fall wr hB 6 (by omega)
      have f7 : wr.cell? ⟨b2, o2 + j * 8 + 7, none⟩ = some (.string y.desc) := fall wr hB 7 (by omega)
      clear fall
      have he2 := HE.out
      rw [drop_cons hx, drop_cons hy, alleq] at he2
      obtain ⟨tl, htl⟩ : ∃ t, alleq meq (xmetas.drop (j + 1)) (ymetas.drop (j + 1)) = t := ⟨_, rfl⟩
      rw [htl] at he2
      have HTL := Lib.hid htl
      clear hx hy HE htl
      obtain ⟨xmulti, xtype, xsize, xseq, xfile, xkind, xmd5, xdesc⟩ := x
      obtain ⟨ymulti, ytype, ysize, yseq, yfile, ykind, ymd5, ydesc⟩ := y
      unfold meq seq neq at he2
      simp only at he2 g0 f0 g1 f1 g2 f2 g3 f3 g4 f4 g5 f5 g6 f6 g7 f7
      have HE2 := Lib.hid he2
      clear he2
      cases e0 : (xmulti == ymulti)
      case false =>
        have hq : false = r := by have := HE2.out; rw [e0] at this; simpa using this
        subst hq
        clear HE2
        go_wp2_with fail
        go_quiet (fail)
        go_wp2_with fail
        go_ret
        exact ⟨rfl, bel_step hW1 (below_drewN hB nq)⟩
      cases e1 : (xtype.toList == ytype.toList)
      case false =>
        have hq : false = r := by have := HE2.out; rw [e0, e1] at this; simpa using this
        subst hq
        clear HE2
        go_wp2_with fail
        go_quiet (fail)
        go_wp2_with fail
        go_ret
        exact ⟨rfl, bel_step hW1 (below_drewN hB nq)⟩
      cases e2 : ((xsize : Int) == (ysize : Int))
      case false =>
        have hq : false = r := by have := HE2.out; rw [e0, e1, e2] at this; simpa using this
        subst hq
        clear HE2
        go_wp2_with fail
        go_quiet (fail)
        go_wp2_with fail
        go_ret
        exact ⟨rfl, bel_step hW1 (below_drewN hB nq)⟩
      cases e3 : ((xseq : Int) == (yseq : Int))
      case false =>
        have hq : false = r := by have := HE2.out; rw [e0, e1, e2, e3] at this; simpa using this
        subst hq
        clear HE2
        go_wp2_with fail
        go_quiet (fail)
        go_wp2_with fail
        go_ret
        exact ⟨rfl, bel_step hW1 (below_drewN hB nq)⟩
      cases e4 : (xfile.toList == yfile.toList)
      case false =>
        have hq : false = r := by have := HE2.out; rw [e0, e1, e2, e3, e4] at this; simpa using this
        subst hq
        clear HE2
        go_wp2_with fail
        go_quiet (fail)
        go_wp2_with fail
        go_ret
        exact ⟨rfl, bel_step hW1 (below_drewN hB nq)⟩
      cases e5 : (xkind.toList == ykind.toList)
      case false =>
        have hq : false = r := by have := HE2.out; rw [e0, e1, e2, e3, e4, e5] at this; simpa using this
        subst hq
        clear HE2
        go_wp2_with fail
        go_quiet (fail)
        go_wp2_with fail
        go_ret
        exact ⟨rfl, bel_step hW1 (below_drewN hB nq)⟩
      cases e6 : (xmd5.toList == ymd5.toList)
      case false =>
        have hq : false = r := by have := HE2.out; rw [e0, e1, e2, e3, e4, e5, e6] at this; simpa using this
        subst hq
        clear HE2
        go_wp2_with fail
        go_quiet (fail)
        go_wp2_with fail
        go_ret
        exact ⟨rfl, bel_step hW1 (below_drewN hB nq)⟩
      cases e7 : (xdesc.toList == ydesc.toList)
      case false =>
        have hq : false = r := by have := HE2.out; rw [e0, e1, e2, e3, e4, e5, e6, e7] at this; simpa using this
        subst hq
        clear HE2
        go_wp2_with fail
        go_quiet (fail)
        go_wp2_with fail
        go_ret
        exact ⟨rfl, bel_step hW1 (below_drewN hB nq)⟩
      have HE : Hid ((alleq meq (xmetas.drop (j + 1)) (ymetas.drop (j + 1)) && (alleq dsame xsets ysets && alleq (nsame false) xts yts)) = r) := Lib.hid (by have := HE2.out; rw [e0, e1, e2, e3, e4, e5, e6, e7] at this; rw [HTL.out]; simpa using this)
      clear HE2
      go_wp2_with fail
      go_quiet (fail)
      go_wp2_with fail
      go_roundw
      case rel => exact ⟨j + 1, by go_num, by omega, HE.out, below_drewN hB nq⟩
      case measure => simp [intOf]; omega
    · rw [List.drop_eq_nil_of_le (by rw [NMx.out]; omega), List.drop_eq_nil_of_le (by rw [NMy.out]; omega), show alleq (meq) [] [] = true from rfl, Bool.true_and] at HE
      have HQ2 := HE
      have hBo := hB
      clear hj HE hB HQ
      have HQ := HQ2
      clear HQ2
      go_wp2_with fail
      clear x8 y8 hlt
      go_loopw [6] (fun i wr => ∃ j : Nat, i = .int .i64 j ∧ j ≤ xsl ∧ (alleq (dsame) (xsets.drop j) (ysets.drop j) && alleq (nsame false) xts yts) = r ∧ Below w1.heap.size w1 wr) (fun i _ => xsl - (intOf i).toNat)
      case atStart => exact ⟨0, rfl, Nat.zero_le _, HQ.out, hBo⟩
      case round =>
        obtain ⟨j, rfl, hj, he, hB⟩ := hrel
        have HE := Lib.hid he
        clear he
        by_cases hlt : j < xsl
        · obtain ⟨x, hx⟩ : ∃ x, xsets[j]? = some x := ⟨_, List.getElem?_eq_getElem (by rw [NSx.out]; exact hlt)⟩
          obtain ⟨y, hy⟩ : ∃ y, ysets[j]? = some y := ⟨_, List.getElem?_eq_getElem (by rw [NSy.out]; exact hlt)⟩
          have hBd : Below w1.heap.size w1 wr.drew := hB.drew
          have x13 : wr.cell? ⟨w.heap.size, 13, none⟩ = some (.slice xsa xsl xsc) := (hDa.below hB).cell 13
          have y13 : wr.cell? ⟨w.heap.size + 1, 13, none⟩ = some (.slice ysa xsl ysc) := (hDb.below hB).cell 13
          have dx : ∀ u, Below wr.drew.heap.size wr.drew u → u.cell? ⟨w.heap.size, 13, none⟩ = some (.slice xsa xsl xsc) := fun u hu => (hDa.below (bel_step hBd hu)).cell 13
          have dy : ∀ u, Below wr.drew.heap.size wr.drew u → u.cell? ⟨w.heap.size + 1, 13, none⟩ = some (.slice ysa xsl ysc) := fun u hu => (hDb.below (bel_step hBd hu)).cell 13
          obtain ⟨b1, o1, rfl, hb1, gall⟩ := elem_all (f := DS.cells) (n := 3) (fun _ => rfl) (by omega) S1.out hx
          have g0 : ∀ u, Below wr.drew.heap.size wr.drew u → u.cell? ⟨b1, o1 + j * 3, none⟩ = some (.slice x.A1 x.cols.length x.c1) := fun u hu => gall u (bel_step hBd hu) 0 (by omega)
          have g1 : ∀ u, Below wr.drew.heap.size wr.drew u → u.cell? ⟨b1, o1 + j * 3 + 1, none⟩ = some (.slice x.A2 x.types.length x.c2) := fun u hu => gall u (bel_step hBd hu) 1 (by omega)
          have g2 : ∀ u, Below wr.drew.heap.size wr.drew u → u.cell? ⟨b1, o1 + j * 3 + 2, none⟩ = some (.slice x.A3 x.rows.length x.c3) := fun u hu => gall u (bel_step hBd hu) 2 (by omega)
          clear gall
          obtain ⟨b2, o2, rfl, hb2, fall⟩ := elem_all (f := DS.cells) (n := 3) (fun _ => rfl) (by omega) S2.out hy
          have f0 : ∀ u, Below wr.drew.heap.size wr.drew u → u.cell? ⟨b2, o2 + j * 3, none⟩ = some (.slice y.A1 y.cols.length y.c1) := fun u hu => fall u (bel_step hBd hu) 0 (by omega)
          have f1 : ∀ u, Below wr.drew.heap.size wr.drew u → u.cell? ⟨b2, o2 + j * 3 + 1, none⟩ = some (.slice y.A2 y.types.length y.c2) := fun u hu => fall u (bel_step hBd hu) 1 (by omega)
          have f2 : ∀ u, Below wr.drew.heap.size wr.drew u → u.cell? ⟨b2, o2 + j * 3 + 2, none⟩ = some (.slice y.A3 y.rows.length y.c3) := fun u hu => fall u (bel_step hBd hu) 2 (by omega)
          clear fall
          have hc := c3 _ hBd x (List.mem_of_getElem? hx) y (List.mem_of_getElem? hy)
          have he2 := HE.out
          rw [drop_cons hx, drop_cons hy, alleq] at he2
          obtain ⟨t, ht⟩ : ∃ t, dsame x y = t := ⟨_, rfl⟩
          rw [ht] at he2 hc
          have HE2 := Lib.hid he2
          clear hx hy HE ht he2
          unfold DS.agg at hc
          generalize x.cols.length = xL0 at *
          generalize x.A1 = xA0 at *
          generalize x.c1 = xV0 at *
          generalize x.types.length = xL1 at *
          generalize x.A2 = xA1 at *
          generalize x.c2 = xV1 at *
          generalize x.rows.length = xL2 at *
          generalize x.A3 = xA2 at *
          generalize x.c3 = xV2 at *
          generalize y.cols.length = yL0 at *
          generalize y.A1 = yA0 at *
          generalize y.c1 = yV0 at *
          generalize y.types.length = yL1 at *
          generalize y.A2 = yA1 at *
          generalize y.c2 = yV1 at *
          generalize y.rows.length = yL2 at *
          generalize y.A3 = yA2 at *
          generalize y.c3 = yV2 at *
          go_wp2_with fail
          clear x13 y13
          refine wp_region_L 12 [0, 1, 2, 3, 4, 5, 6, 7, 8, 9, 10, 11] rfl (by decide) (by decide) (by kernel_rfl) ?_
          generalize wr.drew = W1 at *
          simp only [List.filterMap_cons, List.filterMap_nil, List.getElem?_cons_zero, List.getElem?_cons_succ, Option.map_some]
          repeat (first
              | (refine wpL_take (v := ?_) (by kernel_rfl) (by kernel_rfl) (by kernel_rfl) (fun _ _ _ h => h) (by rfl) (fun u hu => ?_) ?_
                 rotate_left
                 focus
                   unfold Grows at hu
                   go_simp
                   try with_reducible rfl
                 simp only [Act.put, List.setIfInBounds_toArray, List.set_cons_zero, List.set_cons_succ])
              | (refine wpL_pass (by kernel_rfl) (by kernel_rfl) (by kernel_rfl) (fun _ _ _ h => h) (by rfl) ?_; simp only [Act.put, List.setIfInBounds_toArray, List.set_cons_zero, List.set_cons_succ])
              | (refine wpL_do (by kernel_rfl) (by rfl) (fun K hK => ?_); go_simp; go_at_call 41; refine hc.mono ?_; rintro e w2 ⟨rfl, hBk⟩; refine hK _ _ hBk ?_; clear hK K))
          refine wpL_done (by kernel_rfl) ?_
          have hB2 := bel_step hBd hBk
          clear hc hBk dx dy g0 f0 g1 f1 g2 f2
          cases t
          · have hq : false = r := by have := HE2.out; simpa using this
            subst hq
            clear HE2
            go_wp2_with fail
            go_ret
            exact ⟨rfl, bel_step hW1 hB2⟩
          · rw [Bool.true_and] at HE2
            go_wp2_with fail
            go_roundw
            case rel => exact ⟨j + 1, by go_num, by omega, HE2.out, hB2⟩
            case measure => simp [intOf]; omega
        · have x13 : wr.cell? ⟨w.heap.size, 13, none⟩ = some (.slice xsa xsl xsc) := (hDa.below hB).cell 13
          have y13 : wr.cell? ⟨w.heap.size + 1, 13, none⟩ = some (.slice ysa xsl ysc) := (hDb.below hB).cell 13
          rw [List.drop_eq_nil_of_le (by rw [NSx.out]; omega), List.drop_eq_nil_of_le (by rw [NSy.out]; omega), show alleq (dsame) [] [] = true from rfl, Bool.true_and] at HE
          have HQ2 := HE
          have hBo := hB
          clear hj HE hB HQ
          have HQ := HQ2
          clear HQ2
          go_wp2_with fail
          clear x13 y13 hlt
          go_loopw [7] (fun i wr => ∃ j : Nat, i = .int .i64 j ∧ j ≤ xtl ∧ (alleq (nsame false) (xts.drop j) (yts.drop j)) = r ∧ Below w1.heap.size w1 wr) (fun i _ => xtl - (intOf i).toNat)
          case atStart => exact ⟨0, rfl, Nat.zero_le _, HQ.out, hBo⟩
          case round =>
            obtain ⟨j, rfl, hj, he, hB⟩ := hrel
            have HE := Lib.hid he
            clear he
            by_cases hlt : j < xtl
            · obtain ⟨x, hx⟩ : ∃ x, xts[j]? = some x := ⟨_, List.getElem?_eq_getElem (by rw [NTx.out]; exact hlt)⟩
              obtain ⟨y, hy⟩ : ∃ y, yts[j]? = some y := ⟨_, List.getElem?_eq_getElem (by rw [NTy.out]; exact hlt)⟩
              have hBd : Below w1.heap.size w1 wr.drew := hB.drew
              have x14 : wr.cell? ⟨w.heap.size, 14, none⟩ = some (.slice xadr xtl xcap) := (hDa.below hB).cell 14
              have y14 : wr.cell? ⟨w.heap.size + 1, 14, none⟩ = some (.slice yadr xtl ycap) := (hDb.below hB).cell 14
              have dx : ∀ u, Below wr.drew.heap.size wr.drew u → u.cell? ⟨w.heap.size, 14, none⟩ = some (.slice xadr xtl xcap) := fun u hu => (hDa.below (bel_step hBd hu)).cell 14
              have dy : ∀ u, Below wr.drew.heap.size wr.drew u → u.cell? ⟨w.heap.size + 1, 14, none⟩ = some (.slice yadr xtl ycap) := fun u hu => (hDb.below (bel_step hBd hu)).cell 14
              obtain ⟨b1, o1, rfl, hb1, gall⟩ := elem_all (f := Nd.cells false) (n := 5) (fun _ => rfl) (by omega) K1.out hx
              have g0 : ∀ u, Below wr.drew.heap.size wr.drew u → u.cell? ⟨b1, o1 + j * 5, none⟩ = some (.string x.t.ver) := fun u hu => gall u (bel_step hBd hu) 0 (by omega)
              have g1 : ∀ u, Below wr.drew.heap.size wr.drew u → u.cell? ⟨b1, o1 + j * 5 + 1, none⟩ = some (.string x.t.ref) := fun u hu => gall u (bel_step hBd hu) 1 (by omega)
              have g2 : ∀ u, Below wr.drew.heap.size wr.drew u → u.cell? ⟨b1, o1 + j * 5 + 2, none⟩ = some (.bool x.t.df) := fun u hu => gall u (bel_step hBd hu) 2 (by omega)
              have g3 : ∀ u, Below wr.drew.heap.size wr.drew u → u.cell? ⟨b1, o1 + j * 5 + 3, none⟩ = some (.slice x.t.qa x.t.params.length x.t.qc) := fun u hu => gall u (bel_step hBd hu) 3 (by omega)
              have g4 : ∀ u, Below wr.drew.heap.size wr.drew u → u.cell? ⟨b1, o1 + j * 5 + 4, none⟩ = some (.slice x.adr x.sub.list.length x.cap) := fun u hu => gall u (bel_step hBd hu) 4 (by omega)
              clear gall
              obtain ⟨b2, o2, rfl, hb2, fall⟩ := elem_all (f := Nd.cells false) (n := 5) (fun _ => rfl) (by omega) K2.out hy
              have f0 : ∀ u, Below wr.drew.heap.size wr.drew u → u.cell? ⟨b2, o2 + j * 5, none⟩ = some (.string y.t.ver) := fun u hu => fall u (bel_step hBd hu) 0 (by omega)
              have f1 : ∀ u, Below wr.drew.heap.size wr.drew u → u.cell? ⟨b2, o2 + j * 5 + 1, none⟩ = some (.string y.t.ref) := fun u hu => fall u (bel_step hBd hu) 1 (by omega)
              have f2 : ∀ u, Below wr.drew.heap.size wr.drew u → u.cell? ⟨b2, o2 + j * 5 + 2, none⟩ = some (.bool y.t.df) := fun u hu => fall u (bel_step hBd hu) 2 (by omega)
              have f3 : ∀ u, Below wr.drew.heap.size wr.drew u → u.cell? ⟨b2, o2 + j * 5 + 3, none⟩ = some (.slice y.t.qa y.t.params.length y.t.qc) := fun u hu => fall u (bel_step hBd hu) 3 (by omega)
              have f4 : ∀ u, Below wr.drew.heap.size wr.drew u → u.cell? ⟨b2, o2 + j * 5 + 4, none⟩ = some (.slice y.adr y.sub.list.length y.cap) := fun u hu => fall u (bel_step hBd hu) 4 (by omega)
              clear fall
              have hc := c4 _ hBd x (List.mem_of_getElem? hx) y (List.mem_of_getElem? hy)
              have he2 := HE.out
              rw [drop_cons hx, drop_cons hy, alleq] at he2
              obtain ⟨t, ht⟩ : ∃ t, nsame false x y = t := ⟨_, rfl⟩
              rw [ht] at he2 hc
              have HE2 := Lib.hid he2
              clear hx hy HE ht he2
              unfold Nd.tagg at hc
              generalize x.t.ver = xV0 at *
              generalize x.t.ref = xV1 at *
              generalize x.t.df = xV2 at *
              generalize x.t.params.length = xL3 at *
              generalize x.t.qa = xA3 at *
              generalize x.t.qc = xV3 at *
              generalize x.sub.list.length = xL4 at *
              generalize x.adr = xA4 at *
              generalize x.cap = xV4 at *
              generalize y.t.ver = yV0 at *
              generalize y.t.ref = yV1 at *
              generalize y.t.df = yV2 at *
              generalize y.t.params.length = yL3 at *
              generalize y.t.qa = yA3 at *
              generalize y.t.qc = yV3 at *
              generalize y.sub.list.length = yL4 at *
              generalize y.adr = yA4 at *
              generalize y.cap = yV4 at *
              go_wp2_with fail
              clear x14 y14
              refine wp_region_L 12 [0, 1, 2, 3, 4, 5, 6, 7, 8, 9, 10, 11] rfl (by decide) (by decide) (by kernel_rfl) ?_
              generalize wr.drew = W1 at *
              simp only [List.filterMap_cons, List.filterMap_nil, List.getElem?_cons_zero, List.getElem?_cons_succ, Option.map_some]
              repeat (first
                  | (refine wpL_take (v := ?_) (by kernel_rfl) (by kernel_rfl) (by kernel_rfl) (fun _ _ _ h => h) (by rfl) (fun u hu => ?_) ?_
                     rotate_left
                     focus
                       unfold Grows at hu
                       go_simp
                       try with_reducible rfl
                     simp only [Act.put, List.setIfInBounds_toArray, List.set_cons_zero, List.set_cons_succ])
                  | (refine wpL_pass (by kernel_rfl) (by kernel_rfl) (by kernel_rfl) (fun _ _ _ h => h) (by rfl) ?_; simp only [Act.put, List.setIfInBounds_toArray, List.set_cons_zero, List.set_cons_succ])
                  | (refine wpL_do (by kernel_rfl) (by rfl) (fun K hK => ?_); go_simp; go_at_call 42; refine hc.mono ?_; rintro e w2 ⟨rfl, hBk⟩; refine hK _ _ hBk ?_; clear hK K))
              refine wpL_done (by kernel_rfl) ?_
              have hB2 := bel_step hBd hBk
              clear hc hBk dx dy g0 f0 g1 f1 g2 f2 g3 f3 g4 f4
              cases t
              · have hq : false = r := by have := HE2.out; simpa using this
                subst hq
                clear HE2
                go_wp2_with fail
                go_ret
                exact ⟨rfl, bel_step hW1 hB2⟩
              · rw [Bool.true_and] at HE2
                go_wp2_with fail
                go_roundw
                case rel => exact ⟨j + 1, by go_num, by omega, HE2.out, hB2⟩
                case measure => simp [intOf]; omega
            · have x14 : wr.cell? ⟨w.heap.size, 14, none⟩ = some (.slice xadr xtl xcap) := (hDa.below hB).cell 14
              have y14 : wr.cell? ⟨w.heap.size + 1, 14, none⟩ = some (.slice yadr xtl ycap) := (hDb.below hB).cell 14
              rw [List.drop_eq_nil_of_le (by rw [NTx.out]; omega), List.drop_eq_nil_of_le (by rw [NTy.out]; omega)] at HE
              have hq : true = r := HE.out
              subst hq
              clear HE HQ
              go_wp2_with fail
              go_ret
              exact ⟨rfl, bel_step hW1 hB⟩
set_option maxRecDepth 100000 in
set_option maxHeartbeats 4000000 in
theorem rtt_step (p : Nd) (ih : ∀ x ∈ p.sub.list, RSameM x) : RSameT p := by
  intro q w hp hq op oq
  have e4 := fun W (hB : Below w.heap.size w W) x (hx : x ∈ p.sub.list) y (hy : y ∈ q.sub.list) => ih x hx y W ((hp.at2 hB).sub.mat hx) ((hq.at2 hB).sub.mat hy) (Tr.ok_mok op.sub hx) (Tr.ok_mok oq.sub hy)
  have m1 := fun W (hB : Below w.heap.size w W) => (hp.at2 hB).t.p
  have m2 := fun W (hB : Below w.heap.size w W) => (hq.at2 hB).t.p
  have k1 := fun W (hB : Below w.heap.size w W) => (hp.at2 hB).sub.rd
  have k2 := fun W (hB : Below w.heap.size w W) => (hq.at2 hB).sub.rd
  have hql := op.t.pl
  have htl := op.len
  obtain ⟨r, hr⟩ : ∃ r, nsame false p q = r := ⟨_, rfl⟩
  rw [hr]
  unfold nsame hsame tscal at hr
  rw [Tr.same_list] at hr
  simp only [Bool.false_eq_true, if_false, Bool.not_false] at hr
  clear ih hp hq op oq
  obtain ⟨T1, hT1⟩ : ∃ T, alleq qeq p.t.params q.t.params = T := ⟨_, rfl⟩
  obtain ⟨T4, hT4⟩ : ∃ T, alleq (nsame true) p.sub.list q.sub.list = T := ⟨_, rfl⟩
  rw [hT1, hT4] at hr
  have HT1 := Lib.hid hT1
  have HT4 := Lib.hid hT4
  clear hT1 hT4
  unfold seq at hr
  obtain ⟨xh, ⟨xver, xref, xdf, xqa, xqc, xparams⟩, xadr, xcap, xsub⟩ := p
  obtain ⟨yh, ⟨yver, yref, ydf, yqa, yqc, yparams⟩, yadr, ycap, ysub⟩ := q
  unfold Nd.tagg
  simp only at e4 m1 m2 k1 k2 hql htl hr HT1 HT4 ⊢
  generalize xsub.list = xts at *
  generalize ysub.list = yts at *
  obtain ⟨xql, hxql⟩ : ∃ k, xparams.length = k := ⟨_, rfl⟩
  obtain ⟨xtl, hxtl⟩ : ∃ k, xts.length = k := ⟨_, rfl⟩
  obtain ⟨yql, hyql⟩ : ∃ k, yparams.length = k := ⟨_, rfl⟩
  obtain ⟨ytl, hytl⟩ : ∃ k, yts.length = k := ⟨_, rfl⟩
  rw [hxql, hyql, hxtl, hytl]
  rw [hxql] at hql
  rw [hxtl] at htl
  have NQx := Lib.hid hxql
  have NTx := Lib.hid hxtl
  have NQy := Lib.hid hyql
  have NTy := Lib.hid hytl
  have HR := Lib.hid hr
  clear hr hxql hyql hxtl hytl
  have hE0 : Below w.heap.size w ((w.alloc (Obj.cells #[.string xver, .string xref, .bool xdf, .slice xqa xql xqc, .slice xadr xtl xcap] 62)).alloc (Obj.cells #[.string yver, .string yref, .bool ydf, .slice yqa yql yqc, .slice yadr ytl ycap] 62)) := ((Below.refl _ w).alloc (Nat.le_refl _) _).alloc (by simp) _
  obtain ⟨hD1, hD2⟩ := box_two w #[.string xver, .string xref, .bool xdf, .slice xqa xql xqc, .slice xadr xtl xcap] #[.string yver, .string yref, .bool ydf, .slice yqa yql yqc, .slice yadr ytl ycap] 62
  go_enter Try.func42, Try.ntmps42
  cases d0 : (xver.toList == yver.toList)
  case false =>
    have hq : false = r := by have := HR.out; rw [d0] at this; simpa using this
    subst hq
    clear HR
    go_wp2_with fail
    go_ret
    exact ⟨rfl, hE0⟩
  cases d1 : (xref.toList == yref.toList)
  case false =>
    have hq : false = r := by have := HR.out; rw [d0, d1] at this; simpa using this
    subst hq
    clear HR
    go_wp2_with fail
    go_ret
    exact ⟨rfl, hE0⟩
  cases d2 : (xdf == ydf)
  case false =>
    have ne2 : (xdf != ydf) = true := by rw [bne, d2]; rfl
    have hq : false = r := by have := HR.out; rw [d0, d1, d2] at this; simpa using this
    subst hq
    clear HR
    go_wp2_with fail
    go_ret
    exact ⟨rfl, hE0⟩
  have ne2 : (xdf != ydf) = false := by rw [bne, d2]; rfl
  have HQ : Hid ((T1 && T4) = r) := Lib.hid (by have := HR.out; rw [d0, d1, d2] at this; simpa using this)
  clear HR
  by_cases hnT1 : xql = yql
  rotate_left
  · have hb : ((xql : Int) != (yql : Int)) = true := by simp; omega
    have hq : false = r := by rw [← HQ.out, ← HT1.out, alleq_len (f := qeq) (by rw [NQx.out, NQy.out]; exact hnT1)]; simp
    subst hq
    clear HQ hnT1
    go_wp2_with fail
    go_ret
    exact ⟨rfl, hE0⟩
  subst hnT1
  by_cases hnT4 : xtl = ytl
  rotate_left
  · have hb : ((xtl : Int) != (ytl : Int)) = true := by simp; omega
    have hq : false = r := by rw [← HQ.out, ← HT4.out, alleq_len (f := nsame true) (by rw [NTx.out, NTy.out]; exact hnT4)]; simp
    subst hq
    clear HQ hnT4
    go_wp2_with fail
    go_ret
    exact ⟨rfl, hE0⟩
  subst hnT4
  have HQ' : Hid ((alleq qeq xparams yparams && alleq (nsame true) xts yts) = r) := Lib.hid (by rw [HT1.out, HT4.out, ← HQ.out])
  clear HQ HT1 HT4
  have HQ := HQ'
  clear HQ'
  go_wp2_with fail
  generalize hw1 : ((w.alloc (Obj.cells #[.string xver, .string xref, .bool xdf, .slice xqa xql xqc, .slice xadr xtl xcap] 62)).alloc (Obj.cells #[.string yver, .string yref, .bool ydf, .slice yqa xql yqc, .slice yadr xtl ycap] 62)) = w1 at *
  have hW1 := hE0
  have hDa := hD1
  have hDb := hD2
  have M1 := Lib.hid (m1 _ hW1)
  have M2 := Lib.hid (m2 _ hW1)
  have K1 := Lib.hid (k1 _ hW1)
  have K2 := Lib.hid (k2 _ hW1)
  have c4 := fun W (hB : Below w1.heap.size w1 W) => e4 W (bel_step hW1 hB)
  clear e4 m1 m2 k1 k2 hD1 hD2 hE0 hw1
  go_loopw [5] (fun i wr => ∃ j : Nat, i = .int .i64 j ∧ j ≤ xql ∧ (alleq (qeq) (xparams.drop j) (yparams.drop j) && alleq (nsame true) xts yts) = r ∧ Below w1.heap.size w1 wr) (fun i _ => xql - (intOf i).toNat)
  case atStart => exact ⟨0, rfl, Nat.zero_le _, HQ.out, Below.refl _ _⟩
  case round =>
    obtain ⟨j, rfl, hj, he, hB⟩ := hrel
    have HE := Lib.hid he
    clear he
    have x3 : wr.cell? ⟨w.heap.size, 3, none⟩ = some (.slice xqa xql xqc) := (hDa.below hB).cell 3
    have y3 : wr.cell? ⟨w.heap.size + 1, 3, none⟩ = some (.slice yqa xql yqc) := (hDb.below hB).cell 3
    by_cases hlt : j < xql
    · obtain ⟨x, hx⟩ : ∃ x, xparams[j]? = some x := ⟨_, List.getElem?_eq_getElem (by rw [NQx.out]; exact hlt)⟩
      obtain ⟨y, hy⟩ : ∃ y, yparams[j]? = some y := ⟨_, List.getElem?_eq_getElem (by rw [NQy.out]; exact hlt)⟩
      obtain ⟨b1, o1, rfl, hb1, gall⟩ := elem_all (f := Pm.cells) (n := 5) (fun _ => rfl) (by omega) M1.out hx
      have g0 : wr.cell? ⟨b1, o1 + j * 5, none⟩ = some (.string x.name) := gall wr hB 0 (by omega)
      have g1 : wr.cell? ⟨b1, o1 + j * 5 + 1, none⟩ = some (.int .u32 x.type) := gall wr hB 1 (by omega)
      have g2 : wr.cell? ⟨b1, o1 + j * 5 + 2, none⟩ = some (.int .i64 x.v.k) := gall wr hB 2 (by omega)
      have g3 : wr.cell? ⟨b1, o1 + j * 5 + 3, none⟩ = some (.int .u64 x.v.n) := gall wr hB 3 (by omega)
      have g4 : wr.cell? ⟨b1, o1 + j * 5 + 4, none⟩ = some (.string x.v.s) := gall wr hB 4 (by omega)
      clear gall
      obtain ⟨b2, o2, rfl, hb2, fall⟩ := elem_all (f := Pm.cells) (n := 5) (fun _ => rfl) (by omega) M2.out hy
      have f0 : wr.cell? ⟨b2, o2 + j * 5, none⟩ = some (.string y.name) := fall wr hB 0 (by omega)
      have f1 : wr.cell? ⟨b2, o2 + j * 5 + 1, none⟩ = some (.int .u32 y.type) := fall wr hB 1 (by omega)
      have f2 : wr.cell? ⟨b2, o2 + j * 5 + 2, none⟩ = some (.int .i64 y.v.k) := fall wr hB 2 (by omega)
      have f3 : wr.cell? ⟨b2, o2 + j * 5 + 3, none⟩ = some (.int .u64 y.v.n) := fall wr hB 3 (by omega)
      have f4 : wr.cell? ⟨b2, o2 + j * 5 + 4, none⟩ = some (.string y.v.s) := fall wr hB 4 (by omega)
      clear fall
      have he2 := HE.out
      rw [drop_cons hx, drop_cons hy, alleq] at he2
      obtain ⟨tl, htl⟩ : ∃ t, alleq qeq (xparams.drop (j + 1)) (yparams.drop (j + 1)) = t := ⟨_, rfl⟩
      rw [htl] at he2
      have HTL := Lib.hid htl
      clear hx hy HE htl
      obtain ⟨xname, xtype, ⟨xk, xn, xs⟩⟩ := x
      obtain ⟨yname, ytype, ⟨yk, yn, ys⟩⟩ := y
      unfold qeq veq seq neq at he2
      simp only at he2 g0 f0 g1 f1 g2 f2 g3 f3 g4 f4
      have HE2 := Lib.hid he2
      clear he2
      cases e0 : (xname.toList == yname.toList)
      case false =>
        have hq : false = r := by have := HE2.out; rw [e0] at this; simpa using this
        subst hq
        clear HE2
        go_wp2_with fail
        go_quiet (fail)
        go_wp2_with fail
        go_ret
        exact ⟨rfl, bel_step hW1 (below_drewN hB nq)⟩
      cases e1 : ((xtype : Int) == (ytype : Int))
      case false =>
        have hq : false = r := by have := HE2.out; rw [e0, e1] at this; simpa using this
        subst hq
        clear HE2
        go_wp2_with fail
        go_quiet (fail)
        go_wp2_with fail
        go_ret
        exact ⟨rfl, bel_step hW1 (below_drewN hB nq)⟩
      cases e2 : (xk == yk)
      case false =>
        have hq : false = r := by have := HE2.out; rw [e0, e1, e2] at this; simpa using this
        subst hq
        clear HE2
        go_wp2_with fail
        go_quiet (fail)
        go_wp2_with fail
        go_ret
        exact ⟨rfl, bel_step hW1 (below_drewN hB nq)⟩
      cases e3 : ((xn : Int) == (yn : Int))
      case false =>
        have hq : false = r := by have := HE2.out; rw [e0, e1, e2, e3] at this; simpa using this
        subst hq
        clear HE2
        go_wp2_with fail
        go_quiet (fail)
        go_wp2_with fail
        go_ret
        exact ⟨rfl, bel_step hW1 (below_drewN hB nq)⟩
      cases e4 : (xs.toList == ys.toList)
      case false =>
        have hq : false = r := by have := HE2.out; rw [e0, e1, e2, e3, e4] at this; simpa using this
        subst hq
        clear HE2
        go_wp2_with fail
        go_quiet (fail)
        go_wp2_with fail
        go_ret
        exact ⟨rfl, bel_step hW1 (below_drewN hB nq)⟩
      have HE : Hid ((alleq qeq (xparams.drop (j + 1)) (yparams.drop (j + 1)) && alleq (nsame true) xts yts) = r) := Lib.hid (by have := HE2.out; rw [e0, e1, e2, e3, e4] at this; rw [HTL.out]; simpa using this)
      clear HE2
      go_wp2_with fail
      go_quiet (fail)
      go_wp2_with fail
      go_roundw
      case rel => exact ⟨j + 1, by go_num, by omega, HE.out, below_drewN hB nq⟩
      case measure => simp [intOf]; omega
    · rw [List.drop_eq_nil_of_le (by rw [NQx.out]; omega), List.drop_eq_nil_of_le (by rw [NQy.out]; omega), show alleq (qeq) [] [] = true from rfl, Bool.true_and] at HE
      have HQ2 := HE
      have hBo := hB
      clear hj HE hB HQ
      have HQ := HQ2
      clear HQ2
      go_wp2_with fail
      clear x3 y3 hlt
      go_loopw [6] (fun i wr => ∃ j : Nat, i = .int .i64 j ∧ j ≤ xtl ∧ (alleq (nsame true) (xts.drop j) (yts.drop j)) = r ∧ Below w1.heap.size w1 wr) (fun i _ => xtl - (intOf i).toNat)
      case atStart => exact ⟨0, rfl, Nat.zero_le _, HQ.out, hBo⟩
      case round =>
        obtain ⟨j, rfl, hj, he, hB⟩ := hrel
        have HE := Lib.hid he
        clear he
        by_cases hlt : j < xtl
        · obtain ⟨x, hx⟩ : ∃ x, xts[j]? = some x := ⟨_, List.getElem?_eq_getElem (by rw [NTx.out]; exact hlt)⟩
          obtain ⟨y, hy⟩ : ∃ y, yts[j]? = some y := ⟨_, List.getElem?_eq_getElem (by rw [NTy.out]; exact hlt)⟩
          have hBd : Below w1.heap.size w1 wr.drew := hB.drew
          have x4 : wr.cell? ⟨w.heap.size, 4, none⟩ = some (.slice xadr xtl xcap) := (hDa.below hB).cell 4
          have y4 : wr.cell? ⟨w.heap.size + 1, 4, none⟩ = some (.slice yadr xtl ycap) := (hDb.below hB).cell 4
          have dx : ∀ u, Below wr.drew.heap.size wr.drew u → u.cell? ⟨w.heap.size, 4, none⟩ = some (.slice xadr xtl xcap) := fun u hu => (hDa.below (bel_step hBd hu)).cell 4
          have dy : ∀ u, Below wr.drew.heap.size wr.drew u → u.cell? ⟨w.heap.size + 1, 4, none⟩ = some (.slice yadr xtl ycap) := fun u hu => (hDb.below (bel_step hBd hu)).cell 4
          obtain ⟨b1, o1, rfl, hb1, gall⟩ := elem_all (f := Nd.cells true) (n := 15) (fun _ => rfl) (by omega) K1.out hx
          have g0 : ∀ u, Below wr.drew.heap.size wr.drew u → u.cell? ⟨b1, o1 + j * 15, none⟩ = some (.string x.h.name) := fun u hu => gall u (bel_step hBd hu) 0 (by omega)
          have g1 : ∀ u, Below wr.drew.heap.size wr.drew u → u.cell? ⟨b1, o1 + j * 15 + 1, none⟩ = some (.bool x.h.has) := fun u hu => gall u (bel_step hBd hu) 1 (by omega)
          have g2 : ∀ u, Below wr.drew.heap.size wr.drew u → u.cell? ⟨b1, o1 + j * 15 + 2, none⟩ = some (.int .u64 x.h.al) := fun u hu => gall u (bel_step hBd hu) 2 (by omega)
          have g3 : ∀ u, Below wr.drew.heap.size wr.drew u → u.cell? ⟨b1, o1 + j * 15 + 3, none⟩ = some (.int .u64 x.h.time) := fun u hu => gall u (bel_step hBd hu) 3 (by omega)
          have g4 : ∀ u, Below wr.drew.heap.size wr.drew u → u.cell? ⟨b1, o1 + j * 15 + 4, none⟩ = some (.int .u32 x.h.type) := fun u hu => gall u (bel_step hBd hu) 4 (by omega)
          have g5 : ∀ u, Below wr.drew.heap.size wr.drew u → u.cell? ⟨b1, o1 + j * 15 + 5, none⟩ = some (.bool x.h.hist) := fun u hu => gall u (bel_step hBd hu) 5 (by omega)
          have g6 : ∀ u, Below wr.drew.heap.size wr.drew u → u.cell? ⟨b1, o1 + j * 15 + 6, none⟩ = some (.bool x.h.trans) := fun u hu => gall u (bel_step hBd hu) 6 (by omega)
          have g7 : ∀ u, Below wr.drew.heap.size wr.drew u → u.cell? ⟨b1, o1 + j * 15 + 7, none⟩ = some (.bool x.h.null) := fun u hu => gall u (bel_step hBd hu) 7 (by omega)
          have g8 : ∀ u, Below wr.drew.heap.size wr.drew u → u.cell? ⟨b1, o1 + j * 15 + 8, none⟩ = some (.slice x.h.ma x.h.metas.length x.h.mc) := fun u hu => gall u (bel_step hBd hu) 8 (by omega)
          have g9 : ∀ u, Below wr.drew.heap.size wr.drew u → u.cell? ⟨b1, o1 + j * 15 + 9, none⟩ = some (.slice x.h.pa x.h.props.list.length x.h.pc) := fun u hu => gall u (bel_step hBd hu) 9 (by omega)
          have g10 : ∀ u, Below wr.drew.heap.size wr.drew u → u.cell? ⟨b1, o1 + j * 15 + 10, none⟩ = some (.int .i64 x.h.v.k) := fun u hu => gall u (bel_step hBd hu) 10 (by omega)
          have g11 : ∀ u, Below wr.drew.heap.size wr.drew u → u.cell? ⟨b1, o1 + j * 15 + 11, none⟩ = some (.int .u64 x.h.v.n) := fun u hu => gall u (bel_step hBd hu) 11 (by omega)
          have g12 : ∀ u, Below wr.drew.heap.size wr.drew u → u.cell? ⟨b1, o1 + j * 15 + 12, none⟩ = some (.string x.h.v.s) := fun u hu => gall u (bel_step hBd hu) 12 (by omega)
          have g13 : ∀ u, Below wr.drew.heap.size wr.drew u → u.cell? ⟨b1, o1 + j * 15 + 13, none⟩ = some (.slice x.h.sa x.h.sets.length x.h.sc) := fun u hu => gall u (bel_step hBd hu) 13 (by omega)
          have g14 : ∀ u, Below wr.drew.heap.size wr.drew u → u.cell? ⟨b1, o1 + j * 15 + 14, none⟩ = some (.slice x.adr x.sub.list.length x.cap) := fun u hu => gall u (bel_step hBd hu) 14 (by omega)
          clear gall
          obtain ⟨b2, o2, rfl, hb2, fall⟩ := elem_all (f := Nd.cells true) (n := 15) (fun _ => rfl) (by omega) K2.out hy
          have f0 : ∀ u, Below wr.drew.heap.size wr.drew u → u.cell? ⟨b2, o2 + j * 15, none⟩ = some (.string y.h.name) := fun u hu => fall u (bel_step hBd hu) 0 (by omega)
          have f1 : ∀ u, Below wr.drew.heap.size wr.drew u → u.cell? ⟨b2, o2 + j * 15 + 1, none⟩ = some (.bool y.h.has) := fun u hu => fall u (bel_step hBd hu) 1 (by omega)
          have f2 : ∀ u, Below wr.drew.heap.size wr.drew u → u.cell? ⟨b2, o2 + j * 15 + 2, none⟩ = some (.int .u64 y.h.al) := fun u hu => fall u (bel_step hBd hu) 2 (by omega)
          have f3 : ∀ u, Below wr.drew.heap.size wr.drew u → u.cell? ⟨b2, o2 + j * 15 + 3, none⟩ = some (.int .u64 y.h.time) := fun u hu => fall u (bel_step hBd hu) 3 (by omega)
          have f4 : ∀ u, Below wr.drew.heap.size wr.drew u → u.cell? ⟨b2, o2 + j * 15 + 4, none⟩ = some (.int .u32 y.h.type) := fun u hu => fall u (bel_step hBd hu) 4 (by omega)
          have f5 : ∀ u, Below wr.drew.heap.size wr.drew u → u.cell? ⟨b2, o2 + j * 15 + 5, none⟩ = some (.bool y.h.hist) := fun u hu => fall u (bel_step hBd hu) 5 (by omega)
          have f6 : ∀ u, Below wr.drew.heap.size wr.drew u → u.cell? ⟨b2, o2 + j * 15 + 6, none⟩ = some (.bool y.h.trans) := fun u hu => fall u (bel_step hBd hu) 6 (by omega)
          have f7 : ∀ u, Below wr.drew.heap.size wr.drew u → u.cell? ⟨b2, o2 + j * 15 + 7, none⟩ = some (.bool y.h.null) := fun u hu => fall u (bel_step hBd hu) 7 (by omega)
          have f8 : ∀ u, Below wr.drew.heap.size wr.drew u → u.cell? ⟨b2, o2 + j * 15 + 8, none⟩ = some (.slice y.h.ma y.h.metas.length y.h.mc) := fun u hu => fall u (bel_step hBd hu) 8 (by omega)
          have f9 : ∀ u, Below wr.drew.heap.size wr.drew u → u.cell? ⟨b2, o2 + j * 15 + 9, none⟩ = some (.slice y.h.pa y.h.props.list.length y.h.pc) := fun u hu => fall u (bel_step hBd hu) 9 (by omega)
          have f10 : ∀ u, Below wr.drew.heap.size wr.drew u → u.cell? ⟨b2, o2 + j * 15 + 10, none⟩ = some (.int .i64 y.h.v.k) := fun u hu => fall u (bel_step hBd hu) 10 (by omega)
          have f11 : ∀ u, Below wr.drew.heap.size wr.drew u → u.cell? ⟨b2, o2 + j * 15 + 11, none⟩ = some (.int .u64 y.h.v.n) := fun u hu => fall u (bel_step hBd hu) 11 (by omega)
          have f12 : ∀ u, Below wr.drew.heap.size wr.drew u → u.cell? ⟨b2, o2 + j * 15 + 12, none⟩ = some (.string y.h.v.s) := fun u hu => fall u (bel_step hBd hu) 12 (by omega)
          have f13 : ∀ u, Below wr.drew.heap.size wr.drew u → u.cell? ⟨b2, o2 + j * 15 + 13, none⟩ = some (.slice y.h.sa y.h.sets.length y.h.sc) := fun u hu => fall u (bel_step hBd hu) 13 (by omega)
          have f14 : ∀ u, Below wr.drew.heap.size wr.drew u → u.cell? ⟨b2, o2 + j * 15 + 14, none⟩ = some (.slice y.adr y.sub.list.length y.cap) := fun u hu => fall u (bel_step hBd hu) 14 (by omega)
          clear fall
          have hc := c4 _ hBd x (List.mem_of_getElem? hx) y (List.mem_of_getElem? hy)
          have he2 := HE.out
          rw [drop_cons hx, drop_cons hy, alleq] at he2
          obtain ⟨t, ht⟩ : ∃ t, nsame true x y = t := ⟨_, rfl⟩
          rw [ht] at he2 hc
          have HE2 := Lib.hid he2
          clear hx hy HE ht he2
          unfold Nd.magg at hc
          generalize x.h.name = xV0 at *
          generalize x.h.has = xV1 at *
          generalize x.h.al = xV2 at *
          generalize x.h.time = xV3 at *
          generalize x.h.type = xV4 at *
          generalize x.h.hist = xV5 at *
          generalize x.h.trans = xV6 at *
          generalize x.h.null = xV7 at *
          generalize x.h.metas.length = xL8 at *
          generalize x.h.ma = xA8 at *
          generalize x.h.mc = xV8 at *
          generalize x.h.props.list.length = xL9 at *
          generalize x.h.pa = xA9 at *
          generalize x.h.pc = xV9 at *
          generalize x.h.v.k = xV10 at *
          generalize x.h.v.n = xV11 at *
          generalize x.h.v.s = xV12 at *
          generalize x.h.sets.length = xL13 at *
          generalize x.h.sa = xA13 at *
          generalize x.h.sc = xV13 at *
          generalize x.sub.list.length = xL14 at *
          generalize x.adr = xA14 at *
          generalize x.cap = xV14 at *
          generalize y.h.name = yV0 at *
          generalize y.h.has = yV1 at *
          generalize y.h.al = yV2 at *
          generalize y.h.time = yV3 at *
          generalize y.h.type = yV4 at *
          generalize y.h.hist = yV5 at *
          generalize y.h.trans = yV6 at *
          generalize y.h.null = yV7 at *
          generalize y.h.metas.length = yL8 at *
          generalize y.h.ma = yA8 at *
          generalize y.h.mc = yV8 at *
          generalize y.h.props.list.length = yL9 at *
          generalize y.h.pa = yA9 at *
          generalize y.h.pc = yV9 at *
          generalize y.h.v.k = yV10 at *
          generalize y.h.v.n = yV11 at *
          generalize y.h.v.s = yV12 at *
          generalize y.h.sets.length = yL13 at *
          generalize y.h.sa = yA13 at *
          generalize y.h.sc = yV13 at *
          generalize y.sub.list.length = yL14 at *
          generalize y.adr = yA14 at *
          generalize y.cap = yV14 at *
          go_wp2_with fail
          clear x4 y4
          refine wp_region_L 12 [0, 1, 2, 3, 4, 5, 6, 7, 8, 9, 10, 11] rfl (by decide) (by decide) (by kernel_rfl) ?_
          generalize wr.drew = W1 at *
          simp only [List.filterMap_cons, List.filterMap_nil, List.getElem?_cons_zero, List.getElem?_cons_succ, Option.map_some]
          repeat (first
              | (refine wpL_take (v := ?_) (by kernel_rfl) (by kernel_rfl) (by kernel_rfl) (fun _ _ _ h => h) (by rfl) (fun u hu => ?_) ?_
                 rotate_left
                 focus
                   unfold Grows at hu
                   go_simp
                   try with_reducible rfl
                 simp only [Act.put, List.setIfInBounds_toArray, List.set_cons_zero, List.set_cons_succ])
              | (refine wpL_pass (by kernel_rfl) (by kernel_rfl) (by kernel_rfl) (fun _ _ _ h => h) (by rfl) ?_; simp only [Act.put, List.setIfInBounds_toArray, List.set_cons_zero, List.set_cons_succ])
              | (refine wpL_do (by kernel_rfl) (by rfl) (fun K hK => ?_); go_simp; go_at_call 19; refine hc.mono ?_; rintro e w2 ⟨rfl, hBk⟩; refine hK _ _ hBk ?_; clear hK K))
          refine wpL_done (by kernel_rfl) ?_
          have hB2 := bel_step hBd hBk
          clear hc hBk dx dy g0 f0 g1 f1 g2 f2 g3 f3 g4 f4 g5 f5 g6 f6 g7 f7 g8 f8 g9 f9 g10 f10 g11 f11 g12 f12 g13 f13 g14 f14
          cases t
          · have hq : false = r := by have := HE2.out; simpa using this
            subst hq
            clear HE2
            go_wp2_with fail
            go_ret
            exact ⟨rfl, bel_step hW1 hB2⟩
          · rw [Bool.true_and] at HE2
            go_wp2_with fail
            go_roundw
            case rel => exact ⟨j + 1, by go_num, by omega, HE2.out, hB2⟩
            case measure => simp [intOf]; omega
        · have x4 : wr.cell? ⟨w.heap.size, 4, none⟩ = some (.slice xadr xtl xcap) := (hDa.below hB).cell 4
          have y4 : wr.cell? ⟨w.heap.size + 1, 4, none⟩ = some (.slice yadr xtl ycap) := (hDb.below hB).cell 4
          rw [List.drop_eq_nil_of_le (by rw [NTx.out]; omega), List.drop_eq_nil_of_le (by rw [NTy.out]; omega)] at HE
          have hq : true = r := HE.out
          subst hq
          clear HE HQ
          go_wp2_with fail
          go_ret
          exact ⟨rfl, bel_step hW1 hB⟩
theorem rsame_all : ∀ l : Tr, ∀ p ∈ l.list, RSameM p ∧ RSameT p := Tr.ind fun _ ih p hp => ⟨rmm_step p fun x hx => (ih p hp x hx).2, rtt_step p fun x hx => (ih p hp x hx).1⟩
theorem rsameM_any (p : Nd) : RSameM p := (rsame_all (.cons p.h p.t p.adr p.cap p.sub .nil) p (List.mem_cons_self ..)).1
end Go.Proofs.Ytaahhommfpohhaa
