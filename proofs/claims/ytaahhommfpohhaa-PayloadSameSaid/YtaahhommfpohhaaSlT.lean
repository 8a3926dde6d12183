/- WALKS: props.Same, crierref07.Same. -/
import Derived.Test.YtaahhommfpohhaaSlP
import Derived.Test.YtaahhommfpohhaaRegion
namespace Go.Proofs.Ytaahhommfpohhaa
open Go.RowKit

theorem Ps.At.drewN {l : Ps} {W : World} {B : Nat} {A : Option Addr} (h : l.At W B A) (n : Nat) : l.At (W.drewN n) B A := ⟨h.rd.drewN n, h.subs.keep fun _ _ r => r.drewN n⟩
/-- some draws later -/
def Dr (w w' : World) : Prop := ∃ k, w' = w.drewN k
theorem Dr.rd {w w' : World} {B : Nat} {A : Option Addr} {xs : List Value} (h : Dr w w') (hr : Rd w B A xs) : Rd w' B A xs := by
  obtain ⟨k, rfl⟩ := h; exact hr.drewN k
theorem Dr.more {w w' : World} (h : Dr w w') (n : Nat) : Dr w (w'.drewN n) := by
  obtain ⟨k, rfl⟩ := h; exact ⟨k + n, World.drewN_drewN ..⟩
theorem drop_consP {α : Type} {l : List α} {j : Nat} {f : α} (h : l[j]? = some f) : l.drop j = f :: l.drop (j + 1) := by
  obtain ⟨hlt, rfl⟩ := List.getElem?_eq_some_iff.1 h
  rw [List.drop_eq_getElem_cons hlt]
set_option maxRecDepth 100000 in
set_option maxHeartbeats 4000000 in
theorem psame_step (l : Ps) (ih : ∀ x ∈ l.list, ∀ (m : Ps) (A1 A2 : Option Addr) (c1 c2 : Nat) (w : World), x.sub.list.length ≤ 9223372036854775807 → m.list.length ≤ 9223372036854775807 → x.sub.Ok → m.Ok → x.sub.At w w.heap.size A1 → m.At w w.heap.size A2 →
      Calls Try.prog 35 #[.slice A1 x.sub.list.length c1, .slice A2 m.list.length c2] w fun e w' => e = .returned (.bool (x.sub.same m)) ∧ Below w.heap.size w w')
    (m : Ps) (A1 A2 : Option Addr) (c1 c2 : Nat) (w : World) (hl : l.list.length ≤ 9223372036854775807) (hm : m.list.length ≤ 9223372036854775807) (ho1 : l.Ok) (ho2 : m.Ok) (h1 : l.At w w.heap.size A1) (h2 : m.At w w.heap.size A2) :
    Calls Try.prog 35 #[.slice A1 l.list.length c1, .slice A2 m.list.length c2] w fun e w' => e = .returned (.bool (l.same m)) ∧ Below w.heap.size w w' := by
  rw [Ps.same_list]
  have hrec : ∀ x ∈ l.list, ∀ y ∈ m.list, ∀ W, Below w.heap.size w W → Calls Try.prog 35 #[.slice x.adr x.sub.list.length x.cap, .slice y.adr y.sub.list.length y.cap] W fun e w' => e = .returned (.bool (x.sub.same y.sub)) ∧ Below W.heap.size W w' := by
    intro x hx y hy W hB
    obtain ⟨_, _, a3, a4⟩ := Ps.ok_mem ho1 x hx
    obtain ⟨_, _, b3, b4⟩ := Ps.ok_mem ho2 y hy
    exact ih x hx y.sub x.adr y.adr x.cap y.cap W a3 b3 a4 b4 (((h1.sub hx).below hB (Nat.le_refl _)).more hB.size) (((h2.sub hy).below hB (Nat.le_refl _)).more hB.size)
  have HREC := Lib.hid hrec
  have HR1 := Lib.hid h1.rd
  have HR2 := Lib.hid h2.rd
  clear ih ho1 ho2 h1 h2 hrec
  generalize l.list = ps at *
  generalize m.list = qs at *
  obtain ⟨q, hq⟩ : ∃ q, alleq psame ps qs = q := ⟨_, rfl⟩
  rw [hq]
  have HQ := Lib.hid hq
  obtain ⟨n, hn⟩ : ∃ n, ps.length = n := ⟨_, rfl⟩
  obtain ⟨n2, hn2⟩ : ∃ n, qs.length = n := ⟨_, rfl⟩
  rw [hn] at hl ⊢
  rw [hn2] at hm ⊢
  have HN := Lib.hid hn
  have HN2 := Lib.hid hn2
  clear hq hn hn2
  by_cases hne : n = n2
  · subst hne
    by_cases h0 : n = 0
    · subst h0
      have hps : ps = [] := List.eq_nil_of_length_eq_zero HN.out
      have hqs : qs = [] := List.eq_nil_of_length_eq_zero HN2.out
      have hq : true = q := by rw [← HQ.out, hps, hqs]; rfl
      subst hq
      clear hps hqs
      go_enter Try.func35, Try.ntmps35
      go_wp2_with fail
      go_step3
      go_wp2_with fail
      go_step3
      go_wp2_with fail
      go_loopw [15] (fun i wr => i = .int .i64 0 ∧ wr = w) (fun _ _ => 0)
      case atStart => exact ⟨rfl, rfl⟩
      case round =>
        obtain ⟨rfl, rfl⟩ := hrel
        go_wp2_with fail
        rw [Exit.noGoto_ret]
        go_ret
        exact ⟨rfl, Below.refl _ _⟩
    have hb0 : ((n : Int) == 0) = false := by simp; omega
    have hn0 : 0 < n := by omega
    clear h0
    go_enter Try.func35, Try.ntmps35
    go_wp2_with fail
    go_step3
    go_wp2_with fail
    go_step3
    go_wp2_with fail
    go_loopw [15] (fun i wr => ∃ j : Nat, i = .int .i64 j ∧ j < n ∧ alleq psame (ps.drop j) (qs.drop j) = q ∧ Below w.heap.size w wr) (fun i _ => n - (intOf i).toNat)
    case atStart => exact ⟨0, rfl, hn0, HQ.out, Below.refl _ _⟩
    case round =>
      obtain ⟨j, rfl, hj, he, hB⟩ := hrel
      have hs := hB.size
      have HE := Lib.hid he
      clear he
      obtain ⟨x, hx⟩ : ∃ x, ps[j]? = some x := ⟨_, List.getElem?_eq_getElem (by rw [HN.out]; omega)⟩
      obtain ⟨y, hy⟩ : ∃ y, qs[j]? = some y := ⟨_, List.getElem?_eq_getElem (by rw [HN2.out]; omega)⟩
      have hrec := HREC.out x (List.mem_of_getElem? hx) y (List.mem_of_getElem? hy)
      obtain ⟨b1, o1, rfl, hb1, hpa⟩ := prop_at (HR1.out.below hB (Nat.le_refl _)) hx
      obtain ⟨b2, o2, rfl, hb2, hqa⟩ := prop_at (HR2.out.below hB (Nat.le_refl _)) hy
      have hb1r : b1 < wr.heap.size := Nat.lt_of_lt_of_le hb1 hs
      have hb2r : b2 < wr.heap.size := Nat.lt_of_lt_of_le hb2 hs
      have he2 := HE.out
      rw [drop_consP hx, drop_consP hy, alleq] at he2
      obtain ⟨tl, htl⟩ : ∃ t, alleq psame (ps.drop (j + 1)) (qs.drop (j + 1)) = t := ⟨_, rfl⟩
      rw [htl] at he2
      have HTL := Lib.hid htl
      clear htl
      obtain ⟨xkey, xty, xnu, ⟨xk, xn, xs⟩, xad, xcap, xsub⟩ := x
      obtain ⟨ykey, yty, ynu, ⟨yk, yn, ys⟩, yad, ycap, ysub⟩ := y
      obtain ⟨g0, g1, g2, g3, g4, g5, g6⟩ := hpa
      obtain ⟨f0, f1, f2, f3, f4, f5, f6⟩ := hqa
      simp only at hrec g0 g1 g2 g3 g4 g5 g6 f0 f1 f2 f3 f4 f5 f6
      unfold psame veq neq seq at he2
      simp only at he2
      clear hx hy HE
      generalize xsub.list.length = xL at *
      generalize ysub.list.length = yL at *
      obtain ⟨t, ht⟩ : ∃ t, xsub.same ysub = t := ⟨_, rfl⟩
      rw [ht] at he2 hrec
      clear ht
      have HE2 := Lib.hid he2
      clear he2
      have hBx := hB.alloc hs (Obj.cells #[.string xkey, .int .u32 xty, .bool xnu, .int .i64 xk, .int .u64 xn, .string xs, .slice xad xL xcap] 102)
      have hBy := hBx.alloc hBx.size (Obj.cells #[.string ykey, .int .u32 yty, .bool ynu, .int .i64 yk, .int .u64 yn, .string ys, .slice yad yL ycap] 102)
      cases e0 : (xkey.toList == ykey.toList)
      case false =>
        have hq : false = q := by have := HE2.out; rw [e0] at this; simpa using this
        subst hq
        clear HE2 hrec
        go_wp2_with fail
        rw [Exit.noGoto_ret]
        go_ret
        exact ⟨rfl, hBy⟩
      cases e1 : ((xty : Int) == (yty : Int))
      case false =>
        have ne1 : ((xty : Int) != (yty : Int)) = true := by rw [bne, e1]; rfl
        have hq : false = q := by have := HE2.out; rw [e0, e1] at this; simpa using this
        subst hq
        clear HE2 hrec
        go_wp2_with fail
        rw [Exit.noGoto_ret]
        go_ret
        exact ⟨rfl, hBy⟩
      have ne1 : ((xty : Int) != (yty : Int)) = false := by rw [bne, e1]; rfl
      cases e2 : (xnu == ynu)
      case false =>
        have ne2 : (xnu != ynu) = true := by rw [bne, e2]; rfl
        have hq : false = q := by have := HE2.out; rw [e0, e1, e2] at this; simpa using this
        subst hq
        clear HE2 hrec
        go_wp2_with fail
        rw [Exit.noGoto_ret]
        go_ret
        exact ⟨rfl, hBy⟩
      have ne2 : (xnu != ynu) = false := by rw [bne, e2]; rfl
      cases e3 : (xk == yk)
      case false =>
        have hq : false = q := by have := HE2.out; rw [e0, e1, e2, e3] at this; simpa using this
        subst hq
        clear HE2 hrec
        go_wp2_with fail
        rw [Exit.noGoto_ret]
        go_ret
        exact ⟨rfl, hBy⟩
      cases e4 : ((xn : Int) == (yn : Int))
      case false =>
        have hq : false = q := by have := HE2.out; rw [e0, e1, e2, e3, e4] at this; simpa using this
        subst hq
        clear HE2 hrec
        go_wp2_with fail
        rw [Exit.noGoto_ret]
        go_ret
        exact ⟨rfl, hBy⟩
      cases e5 : (xs.toList == ys.toList)
      case false =>
        have hq : false = q := by have := HE2.out; rw [e0, e1, e2, e3, e4, e5] at this; simpa using this
        subst hq
        clear HE2 hrec
        go_wp2_with fail
        rw [Exit.noGoto_ret]
        go_ret
        exact ⟨rfl, hBy⟩
      have HE3 : Hid ((t && alleq psame (ps.drop (j + 1)) (qs.drop (j + 1))) = q) := Lib.hid (by have := HE2.out; rw [e0, e1, e2, e3, e4, e5] at this; rw [HTL.out]; simpa using this)
      clear HE2
      go_wp2_with fail
      refine (hrec _ hBy).mono ?_
      rintro e w1 ⟨rfl, hB1⟩
      have hB2 := bel_step hB ((((Below.refl _ wr).alloc (Nat.le_refl _) _).alloc (by simp) _).trans (hB1.mono (by simp; omega)))
      clear hrec hB1 hBx hBy
      cases t
      case false =>
        have hq : false = q := HE3.out
        subst hq
        clear HE3
        go_wp2_with fail
        rw [Exit.noGoto_ret]
        go_ret
        exact ⟨rfl, hB2⟩
      rw [Bool.true_and] at HE3
      by_cases hl1 : j + 1 = n
      · have hbl : ((j : Int) == (n : Int) - 1) = true := by simp; omega
        rw [List.drop_eq_nil_of_le (by rw [HN.out]; omega), List.drop_eq_nil_of_le (by rw [HN2.out]; omega)] at HE3
        have hq : true = q := HE3.out
        subst hq
        clear HE3 hl1
        go_wp2_with fail
        rw [Exit.noGoto_ret]
        go_ret
        exact ⟨rfl, hB2⟩
      · have hbl : ((j : Int) == (n : Int) - 1) = false := by simp; omega
        have hlt : j + 1 < n := by omega
        clear hl1
        go_wp2_with fail
        go_roundw
        case rel => exact ⟨j + 1, by go_num, hlt, HE3.out, hB2⟩
        case measure => simp [intOf]; omega
  · have hb : ((n : Int) != (n2 : Int)) = true := by simp; omega
    have hq : false = q := by rw [← HQ.out, alleq_len (by rw [HN.out, HN2.out]; exact hne)]
    subst hq
    clear hne
    go_enter Try.func35, Try.ntmps35
    go_wp2_with fail
    go_step3
    go_wp2_with fail
    rw [Exit.noGoto_ret]
    go_ret
    exact ⟨rfl, Below.refl _ _⟩
set_option maxRecDepth 100000 in
set_option maxHeartbeats 4000000 in
theorem rsame_step (l : Ps) (ih : ∀ x ∈ l.list, ∀ (m : Ps) (A1 A2 : Option Addr) (c1 c2 : Nat) (w : World), x.sub.list.length ≤ 9223372036854775807 → m.list.length ≤ 9223372036854775807 → x.sub.Ok → m.Ok → x.sub.At w w.heap.size A1 → m.At w w.heap.size A2 →
      Calls Try.prog 40 #[.slice A1 x.sub.list.length c1, .slice A2 m.list.length c2] w fun e w' => e = .returned (.bool (x.sub.same m)) ∧ ∃ k, w' = w.drewN k)
    (m : Ps) (A1 A2 : Option Addr) (c1 c2 : Nat) (w : World) (hl : l.list.length ≤ 9223372036854775807) (hm : m.list.length ≤ 9223372036854775807) (ho1 : l.Ok) (ho2 : m.Ok) (h1 : l.At w w.heap.size A1) (h2 : m.At w w.heap.size A2) :
    Calls Try.prog 40 #[.slice A1 l.list.length c1, .slice A2 m.list.length c2] w fun e w' => e = .returned (.bool (l.same m)) ∧ ∃ k, w' = w.drewN k := by
  rw [Ps.same_list]
  have hrec : ∀ x ∈ l.list, ∀ y ∈ m.list, ∀ W, Dr w W → ∀ n : Nat, Calls Try.prog 40 #[.slice x.adr x.sub.list.length x.cap, .slice y.adr y.sub.list.length y.cap] (W.drewN n) fun e w' => e = .returned (.bool (x.sub.same y.sub)) ∧ ∃ m, w' = (W.drewN n).drewN m := by
    intro x hx y hy W ⟨k, hk⟩ n
    subst hk
    obtain ⟨_, _, a3, a4⟩ := Ps.ok_mem ho1 x hx
    obtain ⟨_, _, b3, b4⟩ := Ps.ok_mem ho2 y hy
    exact ih x hx y.sub x.adr y.adr x.cap y.cap ((w.drewN k).drewN n) a3 b3 a4 b4 (((h1.sub hx).drewN k).drewN n) (((h2.sub hy).drewN k).drewN n)
  have HREC := Lib.hid hrec
  have HR1 := Lib.hid h1.rd
  have HR2 := Lib.hid h2.rd
  clear ih ho1 ho2 h1 h2 hrec
  generalize l.list = ps at *
  generalize m.list = qs at *
  obtain ⟨q, hq⟩ : ∃ q, alleq psame ps qs = q := ⟨_, rfl⟩
  rw [hq]
  have HQ := Lib.hid hq
  obtain ⟨n, hn⟩ : ∃ n, ps.length = n := ⟨_, rfl⟩
  obtain ⟨n2, hn2⟩ : ∃ n, qs.length = n := ⟨_, rfl⟩
  rw [hn] at hl ⊢
  rw [hn2] at hm ⊢
  have HN := Lib.hid hn
  have HN2 := Lib.hid hn2
  clear hq hn hn2
  by_cases hne : n = n2
  · subst hne
    go_enter Try.func40, Try.ntmps40
    go_wp2_with fail
    go_loopw [5] (fun i wr => ∃ (j : Nat), i = .int .i64 j ∧ j ≤ n ∧ alleq psame (ps.drop j) (qs.drop j) = q ∧ Dr w wr) (fun i _ => n - (intOf i).toNat)
    case atStart => exact ⟨0, rfl, Nat.zero_le _, HQ.out, ⟨0, rfl⟩⟩
    case round =>
      obtain ⟨j, rfl, hj, he, hdr⟩ := hrel
      have HE := Lib.hid he
      clear he
      by_cases hlt : j < n
      rotate_left
      · have hjn : j = n := by omega
        rw [List.drop_eq_nil_of_le (by rw [HN.out]; omega), List.drop_eq_nil_of_le (by rw [HN2.out]; omega)] at HE
        have hq : true = q := HE.out
        subst hq
        clear HE
        go_wp2_with fail
        go_ret
        exact ⟨rfl, hdr⟩
      obtain ⟨x, hx⟩ : ∃ x, ps[j]? = some x := ⟨_, List.getElem?_eq_getElem (by rw [HN.out]; omega)⟩
      obtain ⟨y, hy⟩ : ∃ y, qs[j]? = some y := ⟨_, List.getElem?_eq_getElem (by rw [HN2.out]; omega)⟩
      have hrec := HREC.out x (List.mem_of_getElem? hx) y (List.mem_of_getElem? hy)
      obtain ⟨b1, o1, rfl, hb1, hpa⟩ := prop_at (hdr.rd HR1.out) hx
      obtain ⟨b2, o2, rfl, hb2, hqa⟩ := prop_at (hdr.rd HR2.out) hy
      have he2 := HE.out
      rw [drop_consP hx, drop_consP hy, alleq] at he2
      obtain ⟨tl, htl⟩ : ∃ t, alleq psame (ps.drop (j + 1)) (qs.drop (j + 1)) = t := ⟨_, rfl⟩
      rw [htl] at he2
      have HTL := Lib.hid htl
      clear htl
      obtain ⟨xkey, xty, xnu, ⟨xk, xn, xs⟩, xad, xcap, xsub⟩ := x
      obtain ⟨ykey, yty, ynu, ⟨yk, yn, ys⟩, yad, ycap, ysub⟩ := y
      obtain ⟨g0, g1, g2, g3, g4, g5, g6⟩ := hpa
      obtain ⟨f0, f1, f2, f3, f4, f5, f6⟩ := hqa
      simp only at hrec g0 g1 g2 g3 g4 g5 g6 f0 f1 f2 f3 f4 f5 f6
      unfold psame veq neq seq at he2
      simp only at he2
      clear hx hy HE
      generalize xsub.list.length = xL at *
      generalize ysub.list.length = yL at *
      obtain ⟨t, ht⟩ : ∃ t, xsub.same ysub = t := ⟨_, rfl⟩
      rw [ht] at he2 hrec
      clear ht
      have HE2 := Lib.hid he2
      clear he2
      cases e0 : (xkey.toList == ykey.toList)
      case false =>
        have hq : false = q := by have := HE2.out; rw [e0] at this; simpa using this
        subst hq
        clear HE2 hrec
        go_wp2_with fail
        go_quiet (fail)
        go_wp2_with fail
        go_ret
        exact ⟨rfl, hdr.more nq⟩
      cases e1 : ((xty : Int) == (yty : Int))
      case false =>
        have ne1 : ((xty : Int) != (yty : Int)) = true := by rw [bne, e1]; rfl
        have hq : false = q := by have := HE2.out; rw [e0, e1] at this; simpa using this
        subst hq
        clear HE2 hrec
        go_wp2_with fail
        go_quiet (fail)
        go_wp2_with fail
        go_ret
        exact ⟨rfl, hdr.more nq⟩
      have ne1 : ((xty : Int) != (yty : Int)) = false := by rw [bne, e1]; rfl
      cases e2 : (xnu == ynu)
      case false =>
        have ne2 : (xnu != ynu) = true := by rw [bne, e2]; rfl
        have hq : false = q := by have := HE2.out; rw [e0, e1, e2] at this; simpa using this
        subst hq
        clear HE2 hrec
        go_wp2_with fail
        go_quiet (fail)
        go_wp2_with fail
        go_ret
        exact ⟨rfl, hdr.more nq⟩
      have ne2 : (xnu != ynu) = false := by rw [bne, e2]; rfl
      cases e3 : (xk == yk)
      case false =>
        have hq : false = q := by have := HE2.out; rw [e0, e1, e2, e3] at this; simpa using this
        subst hq
        clear HE2 hrec
        go_wp2_with fail
        go_quiet (fail)
        go_wp2_with fail
        go_ret
        exact ⟨rfl, hdr.more nq⟩
      cases e4 : ((xn : Int) == (yn : Int))
      case false =>
        have hq : false = q := by have := HE2.out; rw [e0, e1, e2, e3, e4] at this; simpa using this
        subst hq
        clear HE2 hrec
        go_wp2_with fail
        go_quiet (fail)
        go_wp2_with fail
        go_ret
        exact ⟨rfl, hdr.more nq⟩
      cases e5 : (xs.toList == ys.toList)
      case false =>
        have hq : false = q := by have := HE2.out; rw [e0, e1, e2, e3, e4, e5] at this; simpa using this
        subst hq
        clear HE2 hrec
        go_wp2_with fail
        go_quiet (fail)
        go_wp2_with fail
        go_ret
        exact ⟨rfl, hdr.more nq⟩
      have HE3 : Hid ((t && alleq psame (ps.drop (j + 1)) (qs.drop (j + 1))) = q) := Lib.hid (by have := HE2.out; rw [e0, e1, e2, e3, e4, e5] at this; rw [HTL.out]; simpa using this)
      clear HE2
      cases t
      case false =>
        have hq : false = q := HE3.out
        subst hq
        clear HE3
        go_wp2_with fail
        go_quiet ((go_at_call 40; refine Calls.quiet_of (hrec _ hdr _)))
        go_wp2_with fail
        go_ret
        exact ⟨rfl, hdr.more nq⟩
      rw [Bool.true_and] at HE3
      go_wp2_with fail
      go_quiet ((go_at_call 40; refine Calls.quiet_of (hrec _ hdr _)))
      go_wp2_with fail
      go_roundw
      case rel => exact ⟨j + 1, by go_num, by omega, HE3.out, hdr.more nq⟩
      case measure => simp [intOf]; omega
  · have hb : ((n : Int) != (n2 : Int)) = true := by simp; omega
    have hq : false = q := by rw [← HQ.out, alleq_len (by rw [HN.out, HN2.out]; exact hne)]
    subst hq
    clear hne
    go_enter Try.func40, Try.ntmps40
    go_wp2_with fail
    go_ret
    exact ⟨rfl, 0, rfl⟩
theorem psame_any : ∀ (l m : Ps) (A1 A2 : Option Addr) (c1 c2 : Nat) (w : World), l.list.length ≤ 9223372036854775807 → m.list.length ≤ 9223372036854775807 → l.Ok → m.Ok → l.At w w.heap.size A1 → m.At w w.heap.size A2 →
    Calls Try.prog 35 #[.slice A1 l.list.length c1, .slice A2 m.list.length c2] w fun e w' => e = .returned (.bool (l.same m)) ∧ Below w.heap.size w w' :=
  Ps.ind fun l ih m A1 A2 c1 c2 w h1 h2 h3 h4 h5 h6 => psame_step l ih m A1 A2 c1 c2 w h1 h2 h3 h4 h5 h6
theorem rsame_any : ∀ (l m : Ps) (A1 A2 : Option Addr) (c1 c2 : Nat) (w : World), l.list.length ≤ 9223372036854775807 → m.list.length ≤ 9223372036854775807 → l.Ok → m.Ok → l.At w w.heap.size A1 → m.At w w.heap.size A2 →
    Calls Try.prog 40 #[.slice A1 l.list.length c1, .slice A2 m.list.length c2] w fun e w' => e = .returned (.bool (l.same m)) ∧ ∃ k, w' = w.drewN k :=
  Ps.ind fun l ih m A1 A2 c1 c2 w h1 h2 h3 h4 h5 h6 => rsame_step l ih m A1 A2 c1 c2 w h1 h2 h3 h4 h5 h6
theorem Ps.same_refl (l : Ps) : l.same l = true := by
  induction l with
  | nil => rfl
  | cons k t n v a c s r ih1 ih2 => simp [Ps.same, ih1, ih2, seq_refl, neq_refl, veq_refl]
theorem Ps.same_symm : ∀ (l m : Ps), l.same m = m.same l := by
  intro l
  induction l with
  | nil => intro m; cases m <;> rfl
  | cons k t n v a c s r ih1 ih2 =>
    intro m
    cases m with
    | nil => rfl
    | cons k' t' n' v' a' c' s' r' => rw [Ps.same, Ps.same, ih1, ih2, seq_symm k k', neq_symm t t', veq_symm v v', show (n == n') = (n' == n) from BEq.comm]
end Go.Proofs.Ytaahhommfpohhaa
