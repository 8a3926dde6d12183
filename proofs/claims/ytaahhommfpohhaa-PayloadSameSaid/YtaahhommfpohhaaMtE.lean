/- WALKS: slices.Equal at metas, parameters; slices.EqualFunc at tables, templates, metrics (printed by genmte.py) -/
import Derived.Test.YtaahhommfpohhaaMtP
import Derived.BigQuiet
import Derived.Deep.QuietTactic
namespace Go.Proofs.Ytaahhommfpohhaa
open Go.RowKit

set_option maxRecDepth 100000 in
set_option maxHeartbeats 4000000 in
theorem eqm_any (l m : List MM) (A1 A2 : Option Addr) (c1 c2 : Nat) (hl : l.length ≤ 9223372036854775807) (hm : m.length ≤ 9223372036854775807) (w : World) (hr1 : Rd w w.heap.size A1 (mmcl l)) (hr2 : Rd w w.heap.size A2 (mmcl m)) :
    Calls Try.prog 34 #[.slice A1 l.length c1, .slice A2 m.length c2] w fun e w' => e = .returned (.bool (alleq meq l m)) ∧ Below w.heap.size w w' := by
  obtain ⟨q, hq⟩ : ∃ q, alleq meq l m = q := ⟨_, rfl⟩
  rw [hq]
  have HQ := Lib.hid hq
  have HR1 := Lib.hid hr1
  have HR2 := Lib.hid hr2
  obtain ⟨n, hn⟩ : ∃ n, l.length = n := ⟨_, rfl⟩
  obtain ⟨n2, hn2⟩ : ∃ n, m.length = n := ⟨_, rfl⟩
  rw [hn] at hl ⊢
  rw [hn2] at hm ⊢
  have HN := Lib.hid hn
  have HN2 := Lib.hid hn2
  clear hq hr1 hr2 hn hn2
  by_cases hne : n = n2
  · subst hne
    go_enter Try.func34, Try.ntmps34
    go_wp2_with fail
    go_loopw [13] (fun i wr => ∃ j : Nat, i = .int .i64 j ∧ j ≤ n ∧ alleq meq (l.drop j) (m.drop j) = q ∧ Below w.heap.size w wr) (fun i _ => n - (intOf i).toNat)
    case atStart => exact ⟨0, rfl, Nat.zero_le _, HQ.out, Below.refl _ _⟩
    case round =>
      obtain ⟨j, rfl, hj, he, hB⟩ := hrel
      have HE := Lib.hid he
      clear he
      by_cases hlt : j < n
      · obtain ⟨x, hx⟩ : ∃ x, l[j]? = some x := ⟨_, List.getElem?_eq_getElem (by rw [HN.out]; exact hlt)⟩
        obtain ⟨y, hy⟩ : ∃ y, m[j]? = some y := ⟨_, List.getElem?_eq_getElem (by rw [HN2.out]; exact hlt)⟩
        obtain ⟨b1, o1, rfl, hb1, gall⟩ := rd_elem (f := fun m : MM => m.cells.toList) (n := 8) (fun _ => rfl) (by omega) (HR1.out.below hB (Nat.le_refl _)) hx
        have g0 : wr.cell? ⟨b1, o1 + j * 8, none⟩ = some (.bool x.multi) := gall 0 (by omega)
        have g1 : wr.cell? ⟨b1, o1 + j * 8 + 1, none⟩ = some (.string x.type) := gall 1 (by omega)
        have g2 : wr.cell? ⟨b1, o1 + j * 8 + 2, none⟩ = some (.int .u64 x.size) := gall 2 (by omega)
        have g3 : wr.cell? ⟨b1, o1 + j * 8 + 3, none⟩ = some (.int .u64 x.seq) := gall 3 (by omega)
        have g4 : wr.cell? ⟨b1, o1 + j * 8 + 4, none⟩ = some (.string x.file) := gall 4 (by omega)
        have g5 : wr.cell? ⟨b1, o1 + j * 8 + 5, none⟩ = some (.string x.kind) := gall 5 (by omega)
        have g6 : wr.cell? ⟨b1, o1 + j * 8 + 6, none⟩ = some (.string x.md5) := gall 6 (by omega)
        have g7 : wr.cell? ⟨b1, o1 + j * 8 + 7, none⟩ = some (.string x.desc) := gall 7 (by omega)
        clear gall
        obtain ⟨b2, o2, rfl, hb2, fall⟩ := rd_elem (f := fun m : MM => m.cells.toList) (n := 8) (fun _ => rfl) (by omega) (HR2.out.below hB (Nat.le_refl _)) hy
        have f0 : wr.cell? ⟨b2, o2 + j * 8, none⟩ = some (.bool y.multi) := fall 0 (by omega)
        have f1 : wr.cell? ⟨b2, o2 + j * 8 + 1, none⟩ = some (.string y.type) := fall 1 (by omega)
        have f2 : wr.cell? ⟨b2, o2 + j * 8 + 2, none⟩ = some (.int .u64 y.size) := fall 2 (by omega)
        have f3 : wr.cell? ⟨b2, o2 + j * 8 + 3, none⟩ = some (.int .u64 y.seq) := fall 3 (by omega)
        have f4 : wr.cell? ⟨b2, o2 + j * 8 + 4, none⟩ = some (.string y.file) := fall 4 (by omega)
        have f5 : wr.cell? ⟨b2, o2 + j * 8 + 5, none⟩ = some (.string y.kind) := fall 5 (by omega)
        have f6 : wr.cell? ⟨b2, o2 + j * 8 + 6, none⟩ = some (.string y.md5) := fall 6 (by omega)
        have f7 : wr.cell? ⟨b2, o2 + j * 8 + 7, none⟩ = some (.string y.desc) := fall 7 (by omega)
        clear fall
        have he2 := HE.out
        rw [drop_cons hx, drop_cons hy, alleq] at he2
        clear hx hy HE
        obtain ⟨xmulti, xtype, xsize, xseq, xfile, xkind, xmd5, xdesc⟩ := x
        obtain ⟨ymulti, ytype, ysize, yseq, yfile, ykind, ymd5, ydesc⟩ := y
        obtain ⟨tl, htl⟩ : ∃ t, alleq meq (l.drop (j + 1)) (m.drop (j + 1)) = t := ⟨_, rfl⟩
        rw [htl] at he2
        have HTL := Lib.hid htl
        clear htl
        unfold meq seq neq at he2
        simp only at he2 g0 f0 g1 f1 g2 f2 g3 f3 g4 f4 g5 f5 g6 f6 g7 f7
        have HE2 := Lib.hid he2
        clear he2
        cases e0 : (xmulti == ymulti)
        case false =>
          have hq : false = q := by have := HE2.out; rw [e0] at this; simpa using this
          subst hq
          clear HE2
          go_wp2_with fail
          go_quiet (fail)
          go_wp2_with fail
          go_ret
          exact ⟨rfl, below_drewN hB nq⟩
        cases e1 : (xtype.toList == ytype.toList)
        case false =>
          have hq : false = q := by have := HE2.out; rw [e0, e1] at this; simpa using this
          subst hq
          clear HE2
          go_wp2_with fail
          go_quiet (fail)
          go_wp2_with fail
          go_ret
          exact ⟨rfl, below_drewN hB nq⟩
        cases e2 : ((xsize : Int) == (ysize : Int))
        case false =>
          have hq : false = q := by have := HE2.out; rw [e0, e1, e2] at this; simpa using this
          subst hq
          clear HE2
          go_wp2_with fail
          go_quiet (fail)
          go_wp2_with fail
          go_ret
          exact ⟨rfl, below_drewN hB nq⟩
        cases e3 : ((xseq : Int) == (yseq : Int))
        case false =>
          have hq : false = q := by have := HE2.out; rw [e0, e1, e2, e3] at this; simpa using this
          subst hq
          clear HE2
          go_wp2_with fail
          go_quiet (fail)
          go_wp2_with fail
          go_ret
          exact ⟨rfl, below_drewN hB nq⟩
        cases e4 : (xfile.toList == yfile.toList)
        case false =>
          have hq : false = q := by have := HE2.out; rw [e0, e1, e2, e3, e4] at this; simpa using this
          subst hq
          clear HE2
          go_wp2_with fail
          go_quiet (fail)
          go_wp2_with fail
          go_ret
          exact ⟨rfl, below_drewN hB nq⟩
        cases e5 : (xkind.toList == ykind.toList)
        case false =>
          have hq : false = q := by have := HE2.out; rw [e0, e1, e2, e3, e4, e5] at this; simpa using this
          subst hq
          clear HE2
          go_wp2_with fail
          go_quiet (fail)
          go_wp2_with fail
          go_ret
          exact ⟨rfl, below_drewN hB nq⟩
        cases e6 : (xmd5.toList == ymd5.toList)
        case false =>
          have hq : false = q := by have := HE2.out; rw [e0, e1, e2, e3, e4, e5, e6] at this; simpa using this
          subst hq
          clear HE2
          go_wp2_with fail
          go_quiet (fail)
          go_wp2_with fail
          go_ret
          exact ⟨rfl, below_drewN hB nq⟩
        cases e7 : (xdesc.toList == ydesc.toList)
        case false =>
          have hq : false = q := by have := HE2.out; rw [e0, e1, e2, e3, e4, e5, e6, e7] at this; simpa using this
          subst hq
          clear HE2
          go_wp2_with fail
          go_quiet (fail)
          go_wp2_with fail
          go_ret
          exact ⟨rfl, below_drewN hB nq⟩
        have HE : Hid (alleq meq (l.drop (j + 1)) (m.drop (j + 1)) = q) := Lib.hid (by have := HE2.out; rw [e0, e1, e2, e3, e4, e5, e6, e7] at this; rw [HTL.out]; simpa using this)
        clear HE2
        go_wp2_with fail
        go_quiet (fail)
        go_wp2_with fail
        go_roundw
        case rel => exact ⟨j + 1, by go_num, by omega, HE.out, below_drewN hB nq⟩
        case measure => simp [intOf]; omega
      · rw [List.drop_eq_nil_of_le (by rw [HN.out]; omega), List.drop_eq_nil_of_le (by rw [HN2.out]; omega)] at HE
        have hq : true = q := HE.out
        subst hq
        clear HE
        go_wp2_with fail
        go_ret
        exact ⟨rfl, hB⟩
  · have hb : ((n : Int) != (n2 : Int)) = true := by simp; omega
    have hq : false = q := by rw [← HQ.out, alleq_len (by rw [HN.out, HN2.out]; exact hne)]
    subst hq
    clear hne
    go_enter Try.func34, Try.ntmps34
    go_wp2_with fail
    go_ret
    exact ⟨rfl, Below.refl _ _⟩
set_option maxRecDepth 100000 in
set_option maxHeartbeats 4000000 in
theorem eqq_any (l m : List Pm) (A1 A2 : Option Addr) (c1 c2 : Nat) (hl : l.length ≤ 9223372036854775807) (hm : m.length ≤ 9223372036854775807) (w : World) (hr1 : Rd w w.heap.size A1 (pmcl l)) (hr2 : Rd w w.heap.size A2 (pmcl m)) :
    Calls Try.prog 63 #[.slice A1 l.length c1, .slice A2 m.length c2] w fun e w' => e = .returned (.bool (alleq qeq l m)) ∧ Below w.heap.size w w' := by
  obtain ⟨q, hq⟩ : ∃ q, alleq qeq l m = q := ⟨_, rfl⟩
  rw [hq]
  have HQ := Lib.hid hq
  have HR1 := Lib.hid hr1
  have HR2 := Lib.hid hr2
  obtain ⟨n, hn⟩ : ∃ n, l.length = n := ⟨_, rfl⟩
  obtain ⟨n2, hn2⟩ : ∃ n, m.length = n := ⟨_, rfl⟩
  rw [hn] at hl ⊢
  rw [hn2] at hm ⊢
  have HN := Lib.hid hn
  have HN2 := Lib.hid hn2
  clear hq hr1 hr2 hn hn2
  by_cases hne : n = n2
  · subst hne
    go_enter Try.func63, Try.ntmps63
    go_wp2_with fail
    go_loopw [13] (fun i wr => ∃ j : Nat, i = .int .i64 j ∧ j ≤ n ∧ alleq qeq (l.drop j) (m.drop j) = q ∧ Below w.heap.size w wr) (fun i _ => n - (intOf i).toNat)
    case atStart => exact ⟨0, rfl, Nat.zero_le _, HQ.out, Below.refl _ _⟩
    case round =>
      obtain ⟨j, rfl, hj, he, hB⟩ := hrel
      have HE := Lib.hid he
      clear he
      by_cases hlt : j < n
      · obtain ⟨x, hx⟩ : ∃ x, l[j]? = some x := ⟨_, List.getElem?_eq_getElem (by rw [HN.out]; exact hlt)⟩
        obtain ⟨y, hy⟩ : ∃ y, m[j]? = some y := ⟨_, List.getElem?_eq_getElem (by rw [HN2.out]; exact hlt)⟩
        obtain ⟨b1, o1, rfl, hb1, gall⟩ := rd_elem (f := Pm.cells) (n := 5) (fun _ => rfl) (by omega) (HR1.out.below hB (Nat.le_refl _)) hx
        have g0 : wr.cell? ⟨b1, o1 + j * 5, none⟩ = some (.string x.name) := gall 0 (by omega)
        have g1 : wr.cell? ⟨b1, o1 + j * 5 + 1, none⟩ = some (.int .u32 x.type) := gall 1 (by omega)
        have g2 : wr.cell? ⟨b1, o1 + j * 5 + 2, none⟩ = some (.int .i64 x.v.k) := gall 2 (by omega)
        have g3 : wr.cell? ⟨b1, o1 + j * 5 + 3, none⟩ = some (.int .u64 x.v.n) := gall 3 (by omega)
        have g4 : wr.cell? ⟨b1, o1 + j * 5 + 4, none⟩ = some (.string x.v.s) := gall 4 (by omega)
        clear gall
        obtain ⟨b2, o2, rfl, hb2, fall⟩ := rd_elem (f := Pm.cells) (n := 5) (fun _ => rfl) (by omega) (HR2.out.below hB (Nat.le_refl _)) hy
        have f0 : wr.cell? ⟨b2, o2 + j * 5, none⟩ = some (.string y.name) := fall 0 (by omega)
        have f1 : wr.cell? ⟨b2, o2 + j * 5 + 1, none⟩ = some (.int .u32 y.type) := fall 1 (by omega)
        have f2 : wr.cell? ⟨b2, o2 + j * 5 + 2, none⟩ = some (.int .i64 y.v.k) := fall 2 (by omega)
        have f3 : wr.cell? ⟨b2, o2 + j * 5 + 3, none⟩ = some (.int .u64 y.v.n) := fall 3 (by omega)
        have f4 : wr.cell? ⟨b2, o2 + j * 5 + 4, none⟩ = some (.string y.v.s) := fall 4 (by omega)
        clear fall
        have he2 := HE.out
        rw [drop_cons hx, drop_cons hy, alleq] at he2
        clear hx hy HE
        obtain ⟨xname, xtype, ⟨xk, xn, xs⟩⟩ := x
        obtain ⟨yname, ytype, ⟨yk, yn, ys⟩⟩ := y
        obtain ⟨tl, htl⟩ : ∃ t, alleq qeq (l.drop (j + 1)) (m.drop (j + 1)) = t := ⟨_, rfl⟩
        rw [htl] at he2
        have HTL := Lib.hid htl
        clear htl
        unfold qeq veq seq neq at he2
        simp only at he2 g0 f0 g1 f1 g2 f2 g3 f3 g4 f4
        have HE2 := Lib.hid he2
        clear he2
        cases e0 : (xname.toList == yname.toList)
        case false =>
          have hq : false = q := by have := HE2.out; rw [e0] at this; simpa using this
          subst hq
          clear HE2
          go_wp2_with fail
          go_quiet (fail)
          go_wp2_with fail
          go_ret
          exact ⟨rfl, below_drewN hB nq⟩
        cases e1 : ((xtype : Int) == (ytype : Int))
        case false =>
          have hq : false = q := by have := HE2.out; rw [e0, e1] at this; simpa using this
          subst hq
          clear HE2
          go_wp2_with fail
          go_quiet (fail)
          go_wp2_with fail
          go_ret
          exact ⟨rfl, below_drewN hB nq⟩
        cases e2 : (xk == yk)
        case false =>
          have hq : false = q := by have := HE2.out; rw [e0, e1, e2] at this; simpa using this
          subst hq
          clear HE2
          go_wp2_with fail
          go_quiet (fail)
          go_wp2_with fail
          go_ret
          exact ⟨rfl, below_drewN hB nq⟩
        cases e3 : ((xn : Int) == (yn : Int))
        case false =>
          have hq : false = q := by have := HE2.out; rw [e0, e1, e2, e3] at this; simpa using this
          subst hq
          clear HE2
          go_wp2_with fail
          go_quiet (fail)
          go_wp2_with fail
          go_ret
          exact ⟨rfl, below_drewN hB nq⟩
        cases e4 : (xs.toList == ys.toList)
        case false =>
          have hq : false = q := by have := HE2.out; rw [e0, e1, e2, e3, e4] at this; simpa using this
          subst hq
          clear HE2
          go_wp2_with fail
          go_quiet (fail)
          go_wp2_with fail
          go_ret
          exact ⟨rfl, below_drewN hB nq⟩
        have HE : Hid (alleq qeq (l.drop (j + 1)) (m.drop (j + 1)) = q) := Lib.hid (by have := HE2.out; rw [e0, e1, e2, e3, e4] at this; rw [HTL.out]; simpa using this)
        clear HE2
        go_wp2_with fail
        go_quiet (fail)
        go_wp2_with fail
        go_roundw
        case rel => exact ⟨j + 1, by go_num, by omega, HE.out, below_drewN hB nq⟩
        case measure => simp [intOf]; omega
      · rw [List.drop_eq_nil_of_le (by rw [HN.out]; omega), List.drop_eq_nil_of_le (by rw [HN2.out]; omega)] at HE
        have hq : true = q := HE.out
        subst hq
        clear HE
        go_wp2_with fail
        go_ret
        exact ⟨rfl, hB⟩
  · have hb : ((n : Int) != (n2 : Int)) = true := by simp; omega
    have hq : false = q := by rw [← HQ.out, alleq_len (by rw [HN.out, HN2.out]; exact hne)]
    subst hq
    clear hne
    go_enter Try.func63, Try.ntmps63
    go_wp2_with fail
    go_ret
    exact ⟨rfl, Below.refl _ _⟩
theorem cf_eqds_any (args : Array Value) (W : World) : (callFunc 37 args).run Try.prog W = .ok (.enter 37 args) W := by go_simp
set_option maxRecDepth 100000 in
set_option maxHeartbeats 4000000 in
theorem eqds_any (l m : List DS) (A1 A2 : Option Addr) (c1 c2 : Nat) (hl : l.length ≤ 9223372036854775807) (hm : m.length ≤ 9223372036854775807) (w : World) (hr1 : Rd w w.heap.size A1 (dscl l)) (hr2 : Rd w w.heap.size A2 (dscl m))
    (hcall : ∀ W, Below w.heap.size w W → ∀ x ∈ l, ∀ y ∈ m, Calls Try.prog 37 #[DS.agg x, DS.agg y] W fun e w' => e = .returned (.bool (dsame x y)) ∧ Below W.heap.size W w') :
    Calls Try.prog 36 #[.slice A1 l.length c1, .slice A2 m.length c2, .func (.func 37) #[] #[]] w fun e w' => e = .returned (.bool (alleq dsame l m)) ∧ Below w.heap.size w w' := by
  obtain ⟨q, hq⟩ : ∃ q, alleq dsame l m = q := ⟨_, rfl⟩
  rw [hq]
  have hcf := cf_eqds_any
  have HQ := Lib.hid hq
  have HR1 := Lib.hid hr1
  have HR2 := Lib.hid hr2
  have HCALL := Lib.hid hcall
  obtain ⟨n, hn⟩ : ∃ n, l.length = n := ⟨_, rfl⟩
  obtain ⟨n2, hn2⟩ : ∃ n, m.length = n := ⟨_, rfl⟩
  rw [hn] at hl ⊢
  rw [hn2] at hm ⊢
  have HN := Lib.hid hn
  have HN2 := Lib.hid hn2
  clear hq hr1 hr2 hn hn2 hcall
  by_cases hne : n = n2
  · subst hne
    go_enter Try.func36, Try.ntmps36
    go_wp2_with fail
    go_loopw [17] (fun i wr => ∃ j : Nat, i = .int .i64 j ∧ j ≤ n ∧ alleq dsame (l.drop j) (m.drop j) = q ∧ Below w.heap.size w wr) (fun i _ => n - (intOf i).toNat)
    case atStart => exact ⟨0, rfl, Nat.zero_le _, HQ.out, Below.refl _ _⟩
    case round =>
      obtain ⟨j, rfl, hj, he, hB⟩ := hrel
      have HE := Lib.hid he
      clear he
      by_cases hlt : j < n
      · obtain ⟨x, hx⟩ : ∃ x, l[j]? = some x := ⟨_, List.getElem?_eq_getElem (by rw [HN.out]; exact hlt)⟩
        obtain ⟨y, hy⟩ : ∃ y, m[j]? = some y := ⟨_, List.getElem?_eq_getElem (by rw [HN2.out]; exact hlt)⟩
        have he2 := HE.out
        rw [drop_cons hx, drop_cons hy, alleq] at he2
        obtain ⟨t, ht⟩ : ∃ t, dsame x y = t := ⟨_, rfl⟩
        rw [ht] at he2
        obtain ⟨b1, o1, rfl, hb1, gall⟩ := rd_elem (f := DS.cells) (n := 3) (fun _ => rfl) (by omega) (HR1.out.below hB (Nat.le_refl _)) hx
        have g0 : wr.cell? ⟨b1, o1 + j * 3, none⟩ = some (.slice x.A1 x.cols.length x.c1) := gall 0 (by omega)
        have g1 : wr.cell? ⟨b1, o1 + j * 3 + 1, none⟩ = some (.slice x.A2 x.types.length x.c2) := gall 1 (by omega)
        have g2 : wr.cell? ⟨b1, o1 + j * 3 + 2, none⟩ = some (.slice x.A3 x.rows.length x.c3) := gall 2 (by omega)
        clear gall
        obtain ⟨b2, o2, rfl, hb2, fall⟩ := rd_elem (f := DS.cells) (n := 3) (fun _ => rfl) (by omega) (HR2.out.below hB (Nat.le_refl _)) hy
        have f0 : wr.cell? ⟨b2, o2 + j * 3, none⟩ = some (.slice y.A1 y.cols.length y.c1) := fall 0 (by omega)
        have f1 : wr.cell? ⟨b2, o2 + j * 3 + 1, none⟩ = some (.slice y.A2 y.types.length y.c2) := fall 1 (by omega)
        have f2 : wr.cell? ⟨b2, o2 + j * 3 + 2, none⟩ = some (.slice y.A3 y.rows.length y.c3) := fall 2 (by omega)
        clear fall
        have hb1r := Nat.lt_of_lt_of_le hb1 hB.size
        have hb2r := Nat.lt_of_lt_of_le hb2 hB.size
        have hBx := hB.alloc hB.size (Obj.cells #[.slice x.A1 x.cols.length x.c1, .slice x.A2 x.types.length x.c2, .slice x.A3 x.rows.length x.c3] 79)
        have hBy := hBx.alloc hBx.size (Obj.cells #[.slice y.A1 y.cols.length y.c1, .slice y.A2 y.types.length y.c2, .slice y.A3 y.rows.length y.c3] 79)
        have hc := HCALL.out _ hBy x (List.mem_of_getElem? hx) y (List.mem_of_getElem? hy)
        rw [ht] at hc
        clear ht
        unfold DS.agg at hc
        generalize x.cols.length = xL0 at *
        generalize x.A1 = xA0 at *
        generalize x.c1 = xV0 at *
        generalize x.types.length = xL1 at *
        generalize x.A2 = xA1 at *
        generalize x.c2 = xV1 at *
        generalize x.rows.length = xL2 at *
        generalize x.A3 = xA2 at *
        generalize x.c3 = xV2 at *
        generalize y.cols.length = yL0 at *
        generalize y.A1 = yA0 at *
        generalize y.c1 = yV0 at *
        generalize y.types.length = yL1 at *
        generalize y.A2 = yA1 at *
        generalize y.c2 = yV1 at *
        generalize y.rows.length = yL2 at *
        generalize y.A3 = yA2 at *
        generalize y.c3 = yV2 at *
        clear hx hy HE
        go_wp2_with fail
        refine hc.mono ?_
        rintro e w1 ⟨rfl, hB1⟩
        have hB2 := bel_step hBy hB1
        clear hc hB1 hBx hBy
        cases t
        · rw [Bool.false_and] at he2
          subst he2
          go_wp2_with fail
          go_ret
          exact ⟨rfl, hB2⟩
        · rw [Bool.true_and] at he2
          have HE := Lib.hid he2
          clear he2
          go_wp2_with fail
          go_roundw
          case rel => exact ⟨j + 1, by go_num, by omega, HE.out, hB2⟩
          case measure => simp [intOf]; omega
      · rw [List.drop_eq_nil_of_le (by rw [HN.out]; omega), List.drop_eq_nil_of_le (by rw [HN2.out]; omega)] at HE
        have hq : true = q := HE.out
        subst hq
        clear HE
        go_wp2_with fail
        go_ret
        exact ⟨rfl, hB⟩
  · have hb : ((n : Int) != (n2 : Int)) = true := by simp; omega
    have hq : false = q := by rw [← HQ.out, alleq_len (by rw [HN.out, HN2.out]; exact hne)]
    subst hq
    clear hne
    go_enter Try.func36, Try.ntmps36
    go_wp2_with fail
    go_ret
    exact ⟨rfl, Below.refl _ _⟩
theorem cf_eqt_any (args : Array Value) (W : World) : (callFunc 39 args).run Try.prog W = .ok (.enter 39 args) W := by go_simp
set_option maxRecDepth 100000 in
set_option maxHeartbeats 4000000 in
theorem eqt_any (l m : List Nd) (A1 A2 : Option Addr) (c1 c2 : Nat) (hl : l.length ≤ 9223372036854775807) (hm : m.length ≤ 9223372036854775807) (w : World) (hr1 : Rd w w.heap.size A1 (ncl false l)) (hr2 : Rd w w.heap.size A2 (ncl false m))
    (hcall : ∀ W, Below w.heap.size w W → ∀ x ∈ l, ∀ y ∈ m, Calls Try.prog 39 #[Nd.tagg x, Nd.tagg y] W fun e w' => e = .returned (.bool ((nsame false) x y)) ∧ Below W.heap.size W w') :
    Calls Try.prog 38 #[.slice A1 l.length c1, .slice A2 m.length c2, .func (.func 39) #[] #[]] w fun e w' => e = .returned (.bool (alleq (nsame false) l m)) ∧ Below w.heap.size w w' := by
  obtain ⟨q, hq⟩ : ∃ q, alleq (nsame false) l m = q := ⟨_, rfl⟩
  rw [hq]
  have hcf := cf_eqt_any
  have HQ := Lib.hid hq
  have HR1 := Lib.hid hr1
  have HR2 := Lib.hid hr2
  have HCALL := Lib.hid hcall
  obtain ⟨n, hn⟩ : ∃ n, l.length = n := ⟨_, rfl⟩
  obtain ⟨n2, hn2⟩ : ∃ n, m.length = n := ⟨_, rfl⟩
  rw [hn] at hl ⊢
  rw [hn2] at hm ⊢
  have HN := Lib.hid hn
  have HN2 := Lib.hid hn2
  clear hq hr1 hr2 hn hn2 hcall
  by_cases hne : n = n2
  · subst hne
    go_enter Try.func38, Try.ntmps38
    go_wp2_with fail
    go_loopw [17] (fun i wr => ∃ j : Nat, i = .int .i64 j ∧ j ≤ n ∧ alleq (nsame false) (l.drop j) (m.drop j) = q ∧ Below w.heap.size w wr) (fun i _ => n - (intOf i).toNat)
    case atStart => exact ⟨0, rfl, Nat.zero_le _, HQ.out, Below.refl _ _⟩
    case round =>
      obtain ⟨j, rfl, hj, he, hB⟩ := hrel
      have HE := Lib.hid he
      clear he
      by_cases hlt : j < n
      · obtain ⟨x, hx⟩ : ∃ x, l[j]? = some x := ⟨_, List.getElem?_eq_getElem (by rw [HN.out]; exact hlt)⟩
        obtain ⟨y, hy⟩ : ∃ y, m[j]? = some y := ⟨_, List.getElem?_eq_getElem (by rw [HN2.out]; exact hlt)⟩
        have he2 := HE.out
        rw [drop_cons hx, drop_cons hy, alleq] at he2
        obtain ⟨t, ht⟩ : ∃ t, (nsame false) x y = t := ⟨_, rfl⟩
        rw [ht] at he2
        obtain ⟨b1, o1, rfl, hb1, gall⟩ := rd_elem (f := Nd.cells false) (n := 5) (fun _ => rfl) (by omega) (HR1.out.below hB (Nat.le_refl _)) hx
        have g0 : wr.cell? ⟨b1, o1 + j * 5, none⟩ = some (.string x.t.ver) := gall 0 (by omega)
        have g1 : wr.cell? ⟨b1, o1 + j * 5 + 1, none⟩ = some (.string x.t.ref) := gall 1 (by omega)
        have g2 : wr.cell? ⟨b1, o1 + j * 5 + 2, none⟩ = some (.bool x.t.df) := gall 2 (by omega)
        have g3 : wr.cell? ⟨b1, o1 + j * 5 + 3, none⟩ = some (.slice x.t.qa x.t.params.length x.t.qc) := gall 3 (by omega)
        have g4 : wr.cell? ⟨b1, o1 + j * 5 + 4, none⟩ = some (.slice x.adr x.sub.list.length x.cap) := gall 4 (by omega)
        clear gall
        obtain ⟨b2, o2, rfl, hb2, fall⟩ := rd_elem (f := Nd.cells false) (n := 5) (fun _ => rfl) (by omega) (HR2.out.below hB (Nat.le_refl _)) hy
        have f0 : wr.cell? ⟨b2, o2 + j * 5, none⟩ = some (.string y.t.ver) := fall 0 (by omega)
        have f1 : wr.cell? ⟨b2, o2 + j * 5 + 1, none⟩ = some (.string y.t.ref) := fall 1 (by omega)
        have f2 : wr.cell? ⟨b2, o2 + j * 5 + 2, none⟩ = some (.bool y.t.df) := fall 2 (by omega)
        have f3 : wr.cell? ⟨b2, o2 + j * 5 + 3, none⟩ = some (.slice y.t.qa y.t.params.length y.t.qc) := fall 3 (by omega)
        have f4 : wr.cell? ⟨b2, o2 + j * 5 + 4, none⟩ = some (.slice y.adr y.sub.list.length y.cap) := fall 4 (by omega)
        clear fall
        have hb1r := Nat.lt_of_lt_of_le hb1 hB.size
        have hb2r := Nat.lt_of_lt_of_le hb2 hB.size
        have hBx := hB.alloc hB.size (Obj.cells #[.string x.t.ver, .string x.t.ref, .bool x.t.df, .slice x.t.qa x.t.params.length x.t.qc, .slice x.adr x.sub.list.length x.cap] 62)
        have hBy := hBx.alloc hBx.size (Obj.cells #[.string y.t.ver, .string y.t.ref, .bool y.t.df, .slice y.t.qa y.t.params.length y.t.qc, .slice y.adr y.sub.list.length y.cap] 62)
        have hc := HCALL.out _ hBy x (List.mem_of_getElem? hx) y (List.mem_of_getElem? hy)
        rw [ht] at hc
        clear ht
        unfold Nd.tagg at hc
        generalize x.t.ver = xV0 at *
        generalize x.t.ref = xV1 at *
        generalize x.t.df = xV2 at *
        generalize x.t.params.length = xL3 at *
        generalize x.t.qa = xA3 at *
        generalize x.t.qc = xV3 at *
        generalize x.sub.list.length = xL4 at *
        generalize x.adr = xA4 at *
        generalize x.cap = xV4 at *
        generalize y.t.ver = yV0 at *
        generalize y.t.ref = yV1 at *
        generalize y.t.df = yV2 at *
        generalize y.t.params.length = yL3 at *
        generalize y.t.qa = yA3 at *
        generalize y.t.qc = yV3 at *
        generalize y.sub.list.length = yL4 at *
        generalize y.adr = yA4 at *
        generalize y.cap = yV4 at *
        clear hx hy HE
        go_wp2_with fail
        refine hc.mono ?_
        rintro e w1 ⟨rfl, hB1⟩
        have hB2 := bel_step hBy hB1
        clear hc hB1 hBx hBy
        cases t
        · rw [Bool.false_and] at he2
          subst he2
          go_wp2_with fail
          go_ret
          exact ⟨rfl, hB2⟩
        · rw [Bool.true_and] at he2
          have HE := Lib.hid he2
          clear he2
          go_wp2_with fail
          go_roundw
          case rel => exact ⟨j + 1, by go_num, by omega, HE.out, hB2⟩
          case measure => simp [intOf]; omega
      · rw [List.drop_eq_nil_of_le (by rw [HN.out]; omega), List.drop_eq_nil_of_le (by rw [HN2.out]; omega)] at HE
        have hq : true = q := HE.out
        subst hq
        clear HE
        go_wp2_with fail
        go_ret
        exact ⟨rfl, hB⟩
  · have hb : ((n : Int) != (n2 : Int)) = true := by simp; omega
    have hq : false = q := by rw [← HQ.out, alleq_len (by rw [HN.out, HN2.out]; exact hne)]
    subst hq
    clear hne
    go_enter Try.func38, Try.ntmps38
    go_wp2_with fail
    go_ret
    exact ⟨rfl, Below.refl _ _⟩
theorem cf_eqn_any (args : Array Value) (W : World) : (callFunc 18 args).run Try.prog W = .ok (.enter 18 args) W := by go_simp
set_option maxRecDepth 100000 in
set_option maxHeartbeats 4000000 in
theorem eqn_any (l m : List Nd) (A1 A2 : Option Addr) (c1 c2 : Nat) (hl : l.length ≤ 9223372036854775807) (hm : m.length ≤ 9223372036854775807) (w : World) (hr1 : Rd w w.heap.size A1 (ncl true l)) (hr2 : Rd w w.heap.size A2 (ncl true m))
    (hcall : ∀ W, Below w.heap.size w W → ∀ x ∈ l, ∀ y ∈ m, Calls Try.prog 18 #[Nd.magg x, Nd.magg y] W fun e w' => e = .returned (.bool ((nsame true) x y)) ∧ Below W.heap.size W w') :
    Calls Try.prog 46 #[.slice A1 l.length c1, .slice A2 m.length c2, .func (.func 18) #[] #[]] w fun e w' => e = .returned (.bool (alleq (nsame true) l m)) ∧ Below w.heap.size w w' := by
  obtain ⟨q, hq⟩ : ∃ q, alleq (nsame true) l m = q := ⟨_, rfl⟩
  rw [hq]
  have hcf := cf_eqn_any
  have HQ := Lib.hid hq
  have HR1 := Lib.hid hr1
  have HR2 := Lib.hid hr2
  have HCALL := Lib.hid hcall
  obtain ⟨n, hn⟩ : ∃ n, l.length = n := ⟨_, rfl⟩
  obtain ⟨n2, hn2⟩ : ∃ n, m.length = n := ⟨_, rfl⟩
  rw [hn] at hl ⊢
  rw [hn2] at hm ⊢
  have HN := Lib.hid hn
  have HN2 := Lib.hid hn2
  clear hq hr1 hr2 hn hn2 hcall
  by_cases hne : n = n2
  · subst hne
    go_enter Try.func46, Try.ntmps46
    go_wp2_with fail
    go_loopw [17] (fun i wr => ∃ j : Nat, i = .int .i64 j ∧ j ≤ n ∧ alleq (nsame true) (l.drop j) (m.drop j) = q ∧ Below w.heap.size w wr) (fun i _ => n - (intOf i).toNat)
    case atStart => exact ⟨0, rfl, Nat.zero_le _, HQ.out, Below.refl _ _⟩
    case round =>
      obtain ⟨j, rfl, hj, he, hB⟩ := hrel
      have HE := Lib.hid he
      clear he
      by_cases hlt : j < n
      · obtain ⟨x, hx⟩ : ∃ x, l[j]? = some x := ⟨_, List.getElem?_eq_getElem (by rw [HN.out]; exact hlt)⟩
        obtain ⟨y, hy⟩ : ∃ y, m[j]? = some y := ⟨_, List.getElem?_eq_getElem (by rw [HN2.out]; exact hlt)⟩
        have he2 := HE.out
        rw [drop_cons hx, drop_cons hy, alleq] at he2
        obtain ⟨t, ht⟩ : ∃ t, (nsame true) x y = t := ⟨_, rfl⟩
        rw [ht] at he2
        obtain ⟨b1, o1, rfl, hb1, gall⟩ := rd_elem (f := Nd.cells true) (n := 15) (fun _ => rfl) (by omega) (HR1.out.below hB (Nat.le_refl _)) hx
        have g0 : wr.cell? ⟨b1, o1 + j * 15, none⟩ = some (.string x.h.name) := gall 0 (by omega)
        have g1 : wr.cell? ⟨b1, o1 + j * 15 + 1, none⟩ = some (.bool x.h.has) := gall 1 (by omega)
        have g2 : wr.cell? ⟨b1, o1 + j * 15 + 2, none⟩ = some (.int .u64 x.h.al) := gall 2 (by omega)
        have g3 : wr.cell? ⟨b1, o1 + j * 15 + 3, none⟩ = some (.int .u64 x.h.time) := gall 3 (by omega)
        have g4 : wr.cell? ⟨b1, o1 + j * 15 + 4, none⟩ = some (.int .u32 x.h.type) := gall 4 (by omega)
        have g5 : wr.cell? ⟨b1, o1 + j * 15 + 5, none⟩ = some (.bool x.h.hist) := gall 5 (by omega)
        have g6 : wr.cell? ⟨b1, o1 + j * 15 + 6, none⟩ = some (.bool x.h.trans) := gall 6 (by omega)
        have g7 : wr.cell? ⟨b1, o1 + j * 15 + 7, none⟩ = some (.bool x.h.null) := gall 7 (by omega)
        have g8 : wr.cell? ⟨b1, o1 + j * 15 + 8, none⟩ = some (.slice x.h.ma x.h.metas.length x.h.mc) := gall 8 (by omega)
        have g9 : wr.cell? ⟨b1, o1 + j * 15 + 9, none⟩ = some (.slice x.h.pa x.h.props.list.length x.h.pc) := gall 9 (by omega)
        have g10 : wr.cell? ⟨b1, o1 + j * 15 + 10, none⟩ = some (.int .i64 x.h.v.k) := gall 10 (by omega)
        have g11 : wr.cell? ⟨b1, o1 + j * 15 + 11, none⟩ = some (.int .u64 x.h.v.n) := gall 11 (by omega)
        have g12 : wr.cell? ⟨b1, o1 + j * 15 + 12, none⟩ = some (.string x.h.v.s) := gall 12 (by omega)
        have g13 : wr.cell? ⟨b1, o1 + j * 15 + 13, none⟩ = some (.slice x.h.sa x.h.sets.length x.h.sc) := gall 13 (by omega)
        have g14 : wr.cell? ⟨b1, o1 + j * 15 + 14, none⟩ = some (.slice x.adr x.sub.list.length x.cap) := gall 14 (by omega)
        clear gall
        obtain ⟨b2, o2, rfl, hb2, fall⟩ := rd_elem (f := Nd.cells true) (n := 15) (fun _ => rfl) (by omega) (HR2.out.below hB (Nat.le_refl _)) hy
        have f0 : wr.cell? ⟨b2, o2 + j * 15, none⟩ = some (.string y.h.name) := fall 0 (by omega)
        have f1 : wr.cell? ⟨b2, o2 + j * 15 + 1, none⟩ = some (.bool y.h.has) := fall 1 (by omega)
        have f2 : wr.cell? ⟨b2, o2 + j * 15 + 2, none⟩ = some (.int .u64 y.h.al) := fall 2 (by omega)
        have f3 : wr.cell? ⟨b2, o2 + j * 15 + 3, none⟩ = some (.int .u64 y.h.time) := fall 3 (by omega)
        have f4 : wr.cell? ⟨b2, o2 + j * 15 + 4, none⟩ = some (.int .u32 y.h.type) := fall 4 (by omega)
        have f5 : wr.cell? ⟨b2, o2 + j * 15 + 5, none⟩ = some (.bool y.h.hist) := fall 5 (by omega)
        have f6 : wr.cell? ⟨b2, o2 + j * 15 + 6, none⟩ = some (.bool y.h.trans) := fall 6 (by omega)
        have f7 : wr.cell? ⟨b2, o2 + j * 15 + 7, none⟩ = some (.bool y.h.null) := fall 7 (by omega)
        have f8 : wr.cell? ⟨b2, o2 + j * 15 + 8, none⟩ = some (.slice y.h.ma y.h.metas.length y.h.mc) := fall 8 (by omega)
        have f9 : wr.cell? ⟨b2, o2 + j * 15 + 9, none⟩ = some (.slice y.h.pa y.h.props.list.length y.h.pc) := fall 9 (by omega)
        have f10 : wr.cell? ⟨b2, o2 + j * 15 + 10, none⟩ = some (.int .i64 y.h.v.k) := fall 10 (by omega)
        have f11 : wr.cell? ⟨b2, o2 + j * 15 + 11, none⟩ = some (.int .u64 y.h.v.n) := fall 11 (by omega)
        have f12 : wr.cell? ⟨b2, o2 + j * 15 + 12, none⟩ = some (.string y.h.v.s) := fall 12 (by omega)
        have f13 : wr.cell? ⟨b2, o2 + j * 15 + 13, none⟩ = some (.slice y.h.sa y.h.sets.length y.h.sc) := fall 13 (by omega)
        have f14 : wr.cell? ⟨b2, o2 + j * 15 + 14, none⟩ = some (.slice y.adr y.sub.list.length y.cap) := fall 14 (by omega)
        clear fall
        have hb1r := Nat.lt_of_lt_of_le hb1 hB.size
        have hb2r := Nat.lt_of_lt_of_le hb2 hB.size
        have hBx := hB.alloc hB.size (Obj.cells #[.string x.h.name, .bool x.h.has, .int .u64 x.h.al, .int .u64 x.h.time, .int .u32 x.h.type, .bool x.h.hist, .bool x.h.trans, .bool x.h.null, .slice x.h.ma x.h.metas.length x.h.mc, .slice x.h.pa x.h.props.list.length x.h.pc, .int .i64 x.h.v.k, .int .u64 x.h.v.n, .string x.h.v.s, .slice x.h.sa x.h.sets.length x.h.sc, .slice x.adr x.sub.list.length x.cap] 31)
        have hBy := hBx.alloc hBx.size (Obj.cells #[.string y.h.name, .bool y.h.has, .int .u64 y.h.al, .int .u64 y.h.time, .int .u32 y.h.type, .bool y.h.hist, .bool y.h.trans, .bool y.h.null, .slice y.h.ma y.h.metas.length y.h.mc, .slice y.h.pa y.h.props.list.length y.h.pc, .int .i64 y.h.v.k, .int .u64 y.h.v.n, .string y.h.v.s, .slice y.h.sa y.h.sets.length y.h.sc, .slice y.adr y.sub.list.length y.cap] 31)
        have hc := HCALL.out _ hBy x (List.mem_of_getElem? hx) y (List.mem_of_getElem? hy)
        rw [ht] at hc
        clear ht
        unfold Nd.magg at hc
        generalize x.h.name = xV0 at *
        generalize x.h.has = xV1 at *
        generalize x.h.al = xV2 at *
        generalize x.h.time = xV3 at *
        generalize x.h.type = xV4 at *
        generalize x.h.hist = xV5 at *
        generalize x.h.trans = xV6 at *
        generalize x.h.null = xV7 at *
        generalize x.h.metas.length = xL8 at *
        generalize x.h.ma = xA8 at *
        generalize x.h.mc = xV8 at *
        generalize x.h.props.list.length = xL9 at *
        generalize x.h.pa = xA9 at *
        generalize x.h.pc = xV9 at *
        generalize x.h.v.k = xV10 at *
        generalize x.h.v.n = xV11 at *
        generalize x.h.v.s = xV12 at *
        generalize x.h.sets.length = xL13 at *
        generalize x.h.sa = xA13 at *
        generalize x.h.sc = xV13 at *
        generalize x.sub.list.length = xL14 at *
        generalize x.adr = xA14 at *
        generalize x.cap = xV14 at *
        generalize y.h.name = yV0 at *
        generalize y.h.has = yV1 at *
        generalize y.h.al = yV2 at *
        generalize y.h.time = yV3 at *
        generalize y.h.type = yV4 at *
        generalize y.h.hist = yV5 at *
        generalize y.h.trans = yV6 at *
        generalize y.h.null = yV7 at *
        generalize y.h.metas.length = yL8 at *
        generalize y.h.ma = yA8 at *
        generalize y.h.mc = yV8 at *
        generalize y.h.props.list.length = yL9 at *
        generalize y.h.pa = yA9 at *
        generalize y.h.pc = yV9 at *
        generalize y.h.v.k = yV10 at *
        generalize y.h.v.n = yV11 at *
        generalize y.h.v.s = yV12 at *
        generalize y.h.sets.length = yL13 at *
        generalize y.h.sa = yA13 at *
        generalize y.h.sc = yV13 at *
        generalize y.sub.list.length = yL14 at *
        generalize y.adr = yA14 at *
        generalize y.cap = yV14 at *
        clear hx hy HE
        go_wp2_with fail
        refine hc.mono ?_
        rintro e w1 ⟨rfl, hB1⟩
        have hB2 := bel_step hBy hB1
        clear hc hB1 hBx hBy
        cases t
        · rw [Bool.false_and] at he2
          subst he2
          go_wp2_with fail
          go_ret
          exact ⟨rfl, hB2⟩
        · rw [Bool.true_and] at he2
          have HE := Lib.hid he2
          clear he2
          go_wp2_with fail
          go_roundw
          case rel => exact ⟨j + 1, by go_num, by omega, HE.out, hB2⟩
          case measure => simp [intOf]; omega
      · rw [List.drop_eq_nil_of_le (by rw [HN.out]; omega), List.drop_eq_nil_of_le (by rw [HN2.out]; omega)] at HE
        have hq : true = q := HE.out
        subst hq
        clear HE
        go_wp2_with fail
        go_ret
        exact ⟨rfl, hB⟩
  · have hb : ((n : Int) != (n2 : Int)) = true := by simp; omega
    have hq : false = q := by rw [← HQ.out, alleq_len (by rw [HN.out, HN2.out]; exact hne)]
    subst hq
    clear hne
    go_enter Try.func46, Try.ntmps46
    go_wp2_with fail
    go_ret
    exact ⟨rfl, Below.refl _ _⟩
end Go.Proofs.Ytaahhommfpohhaa
