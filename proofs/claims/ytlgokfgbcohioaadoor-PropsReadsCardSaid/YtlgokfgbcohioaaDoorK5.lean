/- Several texts in one: words, plain laws and walks that the statement's proof imports. -/
import Derived.Test.YtlgokfgbcohioaaDoorK4
import Derived.Test.YtlgokfgbcohioaaDoorK3
import Derived.Laws.ResultCell
import Derived.StillTailTactics
import Derived.Test.YtlgokfgbcohioaaDoorK1
/- WALKS: wire.Last, the reference's All and Last -/
namespace Go.Proofs.YtlgokfgbcohioaaDoor
open Go.RowKit Plain

/-- the last field of a number -/
def wlast (num : Int) (l : List Fld) : Fld × Bool := match (wall num l).getLast? with
  | some f => (f, true)
  | none => (⟨0, 0, 0, ⟨#[]⟩⟩, false)
def Fld.agg (f : Fld) : Value := .agg #[.int .i64 f.num, .int .i64 f.kind, .int .u64 f.val, .string f.text]
set_option maxRecDepth 100000 in
set_option maxHeartbeats 1000000 in
theorem last_any (num : Int) (l : List Fld) (A : Option Addr) (c : Nat) (hl : l.length ≤ 1000) (w : World) (hr : Rd w w.heap.size A (flc l)) :
    Calls Tryd.prog 88 #[.slice A l.length c, .int .i64 num] w fun e w' => e = .returned (.tuple #[(wlast num l).1.agg, .bool (wlast num l).2]) ∧ Below w.heap.size w w' := by
  have hcall := fun (W : World) (hB : Below w.heap.size w W) => all_any num l A c hl W ((hr.below hB (Nat.le_refl _)).more hB.size)
  obtain ⟨q, hqq⟩ : ∃ q, wlast num l = q := ⟨_, rfl⟩
  rw [hqq]
  have HQQ := Lib.hid hqq
  clear hr hqq
  go_enter Tryd.func88, Tryd.ntmps88
  go_wp2_with fail
  have hB0 := (Below.refl w.heap.size w).alloc (Nat.le_refl _) (Obj.cells #[.int .i64 0, .int .i64 0, .int .u64 0, .string ⟨#[]⟩] 73)
  have hG := BoxF.new w 0 0 0 ⟨#[]⟩
  refine (hcall _ hB0).mono ?_
  rintro e w1 ⟨A1, c1, rfl, ho, hB1⟩
  have hlen : (wall num l).length ≤ 1000 := Nat.le_trans (List.length_filter_le _ _) hl
  obtain ⟨m, hm⟩ : ∃ m, wall num l = m := ⟨_, rfl⟩
  have HQ := Lib.hid hm
  rw [hm] at ho hlen ⊢
  have hW := bel_step' hB0 (Nat.le_refl _) hB1
  have hG1 := hG.below hB1 hG.lt
  obtain ⟨y0, y1, y2, y3⟩ := hG1.cells
  have hz : ∀ i, w1.frozen? ⟨w.heap.size, i, none⟩ = false := fun i => by simp [World.frozen?, show w1.heap[w.heap.size]? = _ from hG1]
  have z0 := hz 0
  have z1 := hz 1
  have z2 := hz 2
  have z3 := hz 3
  have hr := Rd.of_own ho
  clear hcall hm hz hG hB0 hB1 hG1
  rcases List.eq_nil_or_concat m with rfl | ⟨m', x, rfl⟩
  · clear ho hr
    go_wp2_with fail
    (try simp only [Exit.inBlock, Exit.then])
    refine bodyPost_ret (v := .tuple #[.agg #[.int .i64 0, .int .i64 0, .int .u64 0, .string ⟨#[]⟩], .bool false]) ?_ rfl ⟨?_, ?_⟩
    · rw [results_cell_tmp rfl]; go_simp
    · rw [← HQQ.out]; unfold wlast; rw [HQ.out]; rfl
    · first | exact hW | exact ((((hW.setCell (p := ⟨w.heap.size, 0, none⟩) (Nat.le_refl _) _).setCell (p := ⟨w.heap.size, 1, none⟩) (Nat.le_refl _) _).setCell (p := ⟨w.heap.size, 2, none⟩) (Nat.le_refl _) _).setCell (p := ⟨w.heap.size, 3, none⟩) (Nat.le_refl _) _)
  · obtain ⟨N, hN⟩ : ∃ N, (m'.concat x).length = N := ⟨_, rfl⟩
    obtain ⟨k, hk⟩ : ∃ k, m'.length = k := ⟨_, rfl⟩
    have hNk : N = k + 1 := by rw [← hN, ← hk]; simp
    obtain ⟨b1, o1, rfl, hb1, g0, g1, g2, g3⟩ := fld_at (j := k) (f := x) hr (by rw [List.concat_eq_append, ← hk]; simp)
    rw [hN] at ho hlen ⊢
    have hcap := own_cap ho
    have hw1 : wrap64 ((N : Int) - 1) = (k : Int) := by unfold wrap64; omega
    have hw2 : IntKind.i64.wrap ((N : Int) - 1) = (k : Int) := by rw [show (N : Int) - 1 = (k : Int) by omega]; exact wrap_small k (by omega)
    have hlt1 : (k : Int) < (N : Int) := by omega
    have hlt2 : k < N := by omega
    have hne : ¬ N = 0 := by omega
    obtain ⟨xn, xk, xv, xt⟩ := x
    simp only at g0 g1 g2 g3
    clear ho hr hN hNk hcap hlen hk
    go_wp2_with fail
    (try simp only [Exit.inBlock, Exit.then])
    refine bodyPost_ret (v := .tuple #[.agg #[.int .i64 xn, .int .i64 xk, .int .u64 xv, .string xt], .bool true]) ?_ rfl ⟨?_, ?_⟩
    · rw [results_cell_tmp rfl]; go_simp
    · rw [← HQQ.out]; unfold wlast; rw [HQ.out]; simp [Fld.agg]
    · exact ((((hW.setCell (p := ⟨w.heap.size, 0, none⟩) (Nat.le_refl _) _).setCell (p := ⟨w.heap.size, 1, none⟩) (Nat.le_refl _) _).setCell (p := ⟨w.heap.size, 2, none⟩) (Nat.le_refl _) _).setCell (p := ⟨w.heap.size, 3, none⟩) (Nat.le_refl _) _)
set_option maxRecDepth 100000 in
set_option maxHeartbeats 1000000 in
theorem rall_any (num : Int) (l : List Fld) (A : Option Addr) (c : Nat) (hl : l.length ≤ 1000) (w : World) (hr : Rd w w.heap.size A (flc l)) :
    Calls Tryd.prog 64 #[.slice A l.length c, .int .i64 num] w fun e w' => ∃ A' c', e = .returned (.slice A' (wall num l).length c') ∧ w'.ownsRow w.heap.size 73 4 (.slice A' (wall num l).length c') (wall num l).length (flc (wall num l)) ∧ Below w.heap.size w w' := by
  have HR := Lib.hid hr
  clear hr
  go_enter Tryd.func64, Tryd.ntmps64
  go_wp2_with fail
  go_loopw [5, 6] (fun o i wr => ∃ (j N : Nat) (A2 : Option Addr) (c2 : Nat), i = .int .i64 j ∧ o = .slice A2 N c2 ∧ j ≤ l.length ∧ (wall num (l.take j)).length = N ∧ wr.ownsRow w.heap.size 73 4 (.slice A2 N c2) N (flc (wall num (l.take j))) ∧ Below w.heap.size w wr) (fun _ i _ => l.length - (intOf i).toNat)
  case atStart => exact ⟨0, 0, none, 0, rfl, rfl, Nat.zero_le _, rfl, World.ownsRow_nil _ _ _ _, Below.refl _ _⟩
  case round =>
    obtain ⟨j, N, A2, c2, rfl, rfl, hj, hN, hown, hB⟩ := hrel
    have hs3 := hB.size
    by_cases hlt : j < l.length
    · obtain ⟨f, hf⟩ : ∃ f, l[j]? = some f := ⟨_, List.getElem?_eq_getElem hlt⟩
      obtain ⟨b1, o1, rfl, hb1, g0, g1, g2, g3⟩ := fld_at (HR.out.below hB (Nat.le_refl _)) hf
      have HST := Lib.hid (wall_step (num := num) hf)
      have hNle : N ≤ 1000 := by rw [← hN]; unfold wall; exact Nat.le_trans (List.length_filter_le _ _) (by simp; omega)
      have HNN := Lib.hid hN
      have HNL := Lib.hid hNle
      obtain ⟨fn, fk, fv, ft⟩ := f
      simp only at g0 g1 g2 g3
      clear hf hN hNle
      cases hq : (fn == num)
      · have hst := HST.out
        simp only [hq] at hst
        have HS2 := Lib.hid hst
        clear hst
        go_wp2_with fail
        go_roundw
        case rel => exact ⟨j + 1, N, A2, c2, by go_num, rfl, by omega, by rw [HS2.out]; exact HNN.out, by rw [HS2.out]; exact hown, hB⟩
        case measure => simp [intOf]; omega
      · have hst := HST.out
        simp only [hq] at hst
        have HS2 := Lib.hid hst
        clear hst
        go_wp2_with (at_builtin; refine wpList_appF1 rfl _ _ rfl rfl hown ⟨fn, fk, fv, ft⟩ rfl (by simp) (by have := HNL.out; omega) hs3 ?_; intro A5 c5 w5 ho5 hg5)
        go_roundw
        case rel => exact ⟨j + 1, N + 1, A5, c5, by go_num, rfl, by omega, by rw [HS2.out]; simp [HNN.out], by rw [HS2.out]; exact ho5, own_grown hB hown hs3 hg5⟩
        case measure => simp [intOf]; omega
    · have e : l.take j = l := List.take_of_length_le (by omega)
      rw [e] at hN hown
      subst hN
      go_wp2_with fail
      go_ret
      exact ⟨A2, c2, rfl, hown, hB⟩
set_option maxRecDepth 100000 in
set_option maxHeartbeats 1000000 in
theorem rlast_any (num : Int) (l : List Fld) (A : Option Addr) (c : Nat) (hl : l.length ≤ 1000) (w : World) (hr : Rd w w.heap.size A (flc l)) :
    Calls Tryd.prog 65 #[.slice A l.length c, .int .i64 num] w fun e w' => e = .returned (.tuple #[(wlast num l).1.agg, .bool (wlast num l).2]) ∧ Below w.heap.size w w' := by
  have HR := Lib.hid hr
  obtain ⟨q, hqq⟩ : ∃ q, wlast num l = q := ⟨_, rfl⟩
  rw [hqq]
  have HQQ := Lib.hid hqq
  have hG := BoxF.new w 0 0 0 ⟨#[]⟩
  have hB0 := (Below.refl w.heap.size w).alloc (Nat.le_refl _) (Obj.cells #[.int .i64 0, .int .i64 0, .int .u64 0, .string ⟨#[]⟩] 73)
  have hw0 : wrap64 ((l.length : Int) - 1) = (l.length : Int) - 1 := by unfold wrap64; omega
  clear hr hqq
  go_enter Tryd.func65, Tryd.ntmps65
  go_wp2_with fail
  go_loopw [6] (fun i wr => ∃ j : Nat, i = .int .i64 ((j : Int) - 1) ∧ j ≤ l.length ∧ wall num (l.drop j) = [] ∧ BoxF wr w.heap.size 0 0 0 ⟨#[]⟩ ∧ Below w.heap.size w wr) (fun i _ => (intOf i + 1).toNat)
  case atStart => exact ⟨l.length, rfl, Nat.le_refl _, by simp [wall], hG, hB0⟩
  case round =>
    clear hG hB0
    obtain ⟨j, rfl, hj, hnone, hG, hB⟩ := hrel
    obtain ⟨y0, y1, y2, y3⟩ := hG.cells
    have hz : ∀ i, wr.frozen? ⟨w.heap.size, i, none⟩ = false := fun i => by simp [World.frozen?, show wr.heap[w.heap.size]? = _ from hG]
    have z0 := hz 0
    have z1 := hz 1
    have z2 := hz 2
    have z3 := hz 3
    have hbelow := ((((hB.setCell (p := ⟨w.heap.size, 0, none⟩) (Nat.le_refl _) (.int .i64 0)).setCell (p := ⟨w.heap.size, 1, none⟩) (Nat.le_refl _) (.int .i64 0)).setCell (p := ⟨w.heap.size, 2, none⟩) (Nat.le_refl _) (.int .u64 0)).setCell (p := ⟨w.heap.size, 3, none⟩) (Nat.le_refl _) (.string ⟨#[]⟩))
    have HNO := Lib.hid hnone
    clear hz hnone
    cases j with
    | zero =>
      have hi : ((0 : Nat) : Int) - 1 = -1 := by omega
      rw [hi]
      go_wp2_with fail
      (try simp only [Exit.inBlock, Exit.then])
      refine bodyPost_ret (v := .tuple #[.agg #[.int .i64 0, .int .i64 0, .int .u64 0, .string ⟨#[]⟩], .bool false]) ?_ rfl ⟨?_, ?_⟩
      · rw [results_cell_tmp rfl]; go_simp
      · rw [← HQQ.out]; unfold wlast; rw [show wall num l = [] from HNO.out]; rfl
      · first | exact hbelow | exact hB
    | succ k =>
      have hi : ((k + 1 : Nat) : Int) - 1 = (k : Int) := by omega
      rw [hi]
      obtain ⟨f, hf⟩ : ∃ f, l[k]? = some f := ⟨_, List.getElem?_eq_getElem (by omega)⟩
      obtain ⟨b1, o1, rfl, hb1, g0, g1, g2, g3⟩ := fld_at (HR.out.below hB (Nat.le_refl _)) hf
      have hall : wall num l = (if (f.num == num) = true then wall num (l.take k) ++ [f] else wall num (l.take k)) := by
        rw [← wall_step hf]
        have : wall num l = wall num (l.take (k + 1)) ++ wall num (l.drop (k + 1)) := by unfold wall; rw [← List.filter_append, List.take_append_drop]
        rw [this, HNO.out, List.append_nil]
      have hdr : (f.num == num) = false → wall num (l.drop k) = [] := fun hq => by
        rw [drop_cons hf]
        unfold wall
        rw [List.filter_cons, hq]
        exact HNO.out
      obtain ⟨fn, fk, fv, ft⟩ := f
      simp only at g0 g1 g2 g3 hall hdr
      have HALL := Lib.hid hall
      have HDR := Lib.hid hdr
      have hwk : wrap64 ((k : Int) - 1) = (k : Int) - 1 := by unfold wrap64; omega
      have hkl : (k : Int) < (l.length : Int) := by omega
      clear hf hall hdr hbelow
      cases hq : (fn == num)
      · go_wp2_with fail
        go_roundw
        case rel => exact ⟨k, rfl, by omega, HDR.out hq, hG, hB⟩
        case measure => simp [intOf]
      · go_wp2_with fail
        (try simp only [Exit.inBlock, Exit.then])
        refine bodyPost_ret (v := .tuple #[.agg #[.int .i64 fn, .int .i64 fk, .int .u64 fv, .string ft], .bool true]) ?_ rfl ⟨?_, ?_⟩
        · rw [results_cell_tmp rfl]; go_simp
        · rw [← HQQ.out]; unfold wlast; rw [HALL.out, if_pos hq]; simp [Fld.agg]
        · exact ((((hB.setCell (p := ⟨w.heap.size, 0, none⟩) (Nat.le_refl _) _).setCell (p := ⟨w.heap.size, 1, none⟩) (Nat.le_refl _) _).setCell (p := ⟨w.heap.size, 2, none⟩) (Nat.le_refl _) _).setCell (p := ⟨w.heap.size, 3, none⟩) (Nat.le_refl _) _)
end Go.Proofs.YtlgokfgbcohioaaDoor

/- append of a list of fields onto a row of the call's own -/
namespace Go.Proofs.YtlgokfgbcohioaaDoor
open Go.RowKit Plain

section
variable {w : World} {ops : Array Oper} {rest : List Oper} {o : Oper} {a : Act} {Q : Exit → Act → World → Prop}
theorem wp_appF {K : Act → World → Prop} (s x : Operand)
    (ho : o.op = .call { callee := .builtin .append, args := #[s, x], argTypes := #[51, 51] })
    {base n c : Nat} {A : Option Addr} {l : List Fld} (hs : a.eval s = .slice A n c)
    (hown : w.ownsRow base 73 4 (.slice A n c) n (flc l)) {B m c2 : Nat} {A2 : Option Addr} {l2 : List Fld} (hx : a.eval x = .slice A2 m c2) (hr : Rd w B A2 (flc l2)) (hl : l2.length = m)
    (N : Nat) (hN : n + m = N) (hbd : N ≤ 1000000) (hbase : base ≤ w.heap.size)
    (h : ∀ A' c' w', w'.ownsRow base 73 4 (.slice A' N c') N (flc (l ++ l2)) → w.grownBy w' (Value.slice A n c).ownBlock → K (a.put o.dst (.slice A' N c')) w') :
    Oper.wp Tryd.prog o a w K Q := by
  subst hN
  refine wp_app s x _ ho elemF hs hown hx hr (by rw [flc_len]; omega) (fld_one l2) (by unfold maxLen; omega) (by omega) hbase fun A' c' w' h1 h2 _ => h A' c' w' ?_ h2
  rw [show flc (l ++ l2) = flc l ++ flc l2 by simp [flc]]
  exact h1
theorem wpList_appF_on (hw : Region.wanted o (yielded ops a.tmps) = true) (s x : Operand)
    (ho : o.op = .call { callee := .builtin .append, args := #[s, x], argTypes := #[51, 51] })
    {base n c : Nat} {A : Option Addr} {l : List Fld} (hs : a.eval s = .slice A n c)
    (hown : w.ownsRow base 73 4 (.slice A n c) n (flc l)) {B m c2 : Nat} {A2 : Option Addr} {l2 : List Fld} (hx : a.eval x = .slice A2 m c2) (hr : Rd w B A2 (flc l2)) (hl : l2.length = m)
    (N : Nat) (hN : n + m = N) (hbd : N ≤ 1000000) (hbase : base ≤ w.heap.size)
    (h : ∀ A' c' w', w'.ownsRow base 73 4 (.slice A' N c') N (flc (l ++ l2)) → w.grownBy w' (Value.slice A n c).ownBlock → wpList Tryd.prog ops Q rest (a.put o.dst (.slice A' N c')) w') :
    wpList Tryd.prog ops Q (o :: rest) a w :=
  wpList_step fun K hK => by
    rw [if_pos hw]
    exact wp_appF s x ho hs hown hx hr hl N hN hbd hbase fun A' c' w' h1 h2 => hK _ _ (h A' c' w' h1 h2)
end
end Go.Proofs.YtlgokfgbcohioaaDoor

/- WALK: the reference's value of layer 3 -/
namespace Go.Proofs.YtlgokfgbcohioaaDoor
open Go.RowKit Plain

theorem results_cell_tmp2 {fn : Func} {p u v : Tmp} {ty : TypeId} (h : fn.results = #[.cell p ty, .tmp u, .tmp v]) (tmps : Array Value) (P : Program) (w : World) :
    (results fn tmps).run P w = ((asAddr (tmps.getD p undef)).run P w).andThen fun a w₁ => ((loadVar ty a).run P w₁).andThen fun x w₂ => .ok (.tuple #[x, tmps.getD u undef, tmps.getD v undef]) w₂ := by
  simp only [results, h]
  simp [Sem.run_bind, Result.andThen]
theorem bel2 (w : World) (x y : Obj) : Below w.heap.size w ((w.alloc x).alloc y) := ((Below.refl _ w).alloc (Nat.le_refl _) _).alloc (by simp) _
theorem rd2 {w : World} {B : Nat} {A : Option Addr} {xs : List Value} (hr : Rd w B A xs) (hB : B ≤ w.heap.size) (x y : Obj) : Rd ((w.alloc x).alloc y) B A xs := (hr.alloc hB x).alloc (by simp; omega) y
theorem sub_facts {n to v c K T bl : Nat} (hn : bl = n) (hnc : n ≤ c) (hl : bl ≤ 1000000) (t2 : to ≤ bl) (hlong : ¬ bl - to < v) (hT : to + v = T) (hK : n - to = K) :
    v ≤ 140737488355328 ∧ T ≤ 140737488355328 ∧ to ≤ T ∧ T ≤ c ∧ T - to = v ∧ (T : Int) = (to : Int) + (v : Int) ∧ (to : Int) ≤ T ∧ (T : Int) ≤ c ∧ ¬ K < v := by
  refine ⟨?_, ?_, ?_, ?_, ?_, ?_, ?_, ?_, ?_⟩ <;> omega
theorem sub_min {to v bl : Nat} (hlong : ¬ bl - to < v) : min v (bl - to) = v := by omega
set_option maxRecDepth 100000 in
set_option maxHeartbeats 2000000 in
theorem rvalue_any (b : List UInt8) (A : Option Addr) (n c : Nat) (hn : b.length = n) (hnc : n ≤ c) (hl : b.length ≤ 1000000) (p num kind : Nat) (B : Nat) (w : World) (hB : B ≤ w.heap.size) (hr : Rd w B A (bcl b)) :
    Calls Tryd.prog 92 #[.slice A n c, .int .i64 p, .int .i64 num, .int .i64 kind] w fun e w' =>
      e = .returned (.tuple #[.agg #[.int .i64 num, .int .i64 kind, .int .u64 (wval b p kind).val, .string (wval b p kind).text], .int .i64 (wval b p kind).to, .int .i64 (wval b p kind).err]) ∧ Below w.heap.size w w' := by
  by_cases hk0 : kind = 0
  · subst hk0
    have hw : wval b p 0 = ⟨(vget b p).1, emptyT, (vget b p).2.1, (vget b p).2.2⟩ := by unfold wval; rw [if_pos rfl]
    rw [hw]
    have hcall := fun (x y : Obj) => rvget_any A n c b hn (by omega) p B ((w.alloc x).alloc y) (rd2 hr hB x y)
    obtain ⟨r, hrr⟩ : ∃ r, vget b p = r := ⟨_, rfl⟩
    rw [hrr] at hcall ⊢
    obtain ⟨v, to, er⟩ := r
    simp only at hcall ⊢
    clear hrr hw hr
    go_enter Tryd.func92, Tryd.ntmps92
    go_wp2_with fail
    refine (hcall _ _).mono ?_
    rintro e w1 ⟨rfl, rfl⟩
    clear hcall
    go_wp2_with fail
    (try simp only [Exit.inBlock, Exit.then])
    refine bodyPost_ret (v := .tuple #[.agg #[.int .i64 num, .int .i64 0, .int .u64 v, .string ⟨#[]⟩], .int .i64 to, .int .i64 er]) ?_ rfl ⟨rfl, bel2 _ _ _⟩
    rw [results_cell_tmp2 rfl]
    go_simp
  by_cases hk1 : kind = 1
  · subst hk1
    have hw : wval b p 1 = ⟨(fget 8 b p).1, emptyT, (fget 8 b p).2.1, (fget 8 b p).2.2⟩ := by unfold wval; rw [if_neg (by omega), if_pos rfl]
    rw [hw]
    have hcall := fun (x y : Obj) => rget8_any A n c b hn (by omega) p B ((w.alloc x).alloc y) (rd2 hr hB x y)
    obtain ⟨r, hrr⟩ : ∃ r, fget 8 b p = r := ⟨_, rfl⟩
    rw [hrr] at hcall ⊢
    obtain ⟨v, to, er⟩ := r
    simp only at hcall ⊢
    clear hrr hw hr
    go_enter Tryd.func92, Tryd.ntmps92
    go_wp2_with fail
    refine (hcall _ _).mono ?_
    rintro e w1 ⟨rfl, rfl⟩
    clear hcall
    go_wp2_with fail
    (try simp only [Exit.inBlock, Exit.then])
    refine bodyPost_ret (v := .tuple #[.agg #[.int .i64 num, .int .i64 1, .int .u64 v, .string ⟨#[]⟩], .int .i64 to, .int .i64 er]) ?_ rfl ⟨rfl, bel2 _ _ _⟩
    rw [results_cell_tmp2 rfl]
    go_simp
  by_cases hk5 : kind = 5
  · subst hk5
    have hw : wval b p 5 = ⟨(fget 4 b p).1, emptyT, (fget 4 b p).2.1, (fget 4 b p).2.2⟩ := by unfold wval; rw [if_neg (by omega), if_neg (by omega), if_pos rfl]
    rw [hw]
    have hcall := fun (x y : Obj) => rget4_any A n c b hn (by omega) p B ((w.alloc x).alloc y) (rd2 hr hB x y)
    have hvw : IntKind.u64.wrap ((fget 4 b p).1 : Int) = ((fget 4 b p).1 : Int) := wrap_u64 _ (by have := fget_lt b p; omega)
    obtain ⟨r, hrr⟩ : ∃ r, fget 4 b p = r := ⟨_, rfl⟩
    rw [hrr] at hcall hvw ⊢
    obtain ⟨v, to, er⟩ := r
    simp only at hcall hvw ⊢
    clear hrr hw hr
    go_enter Tryd.func92, Tryd.ntmps92
    go_wp2_with fail
    refine (hcall _ _).mono ?_
    rintro e w1 ⟨rfl, rfl⟩
    clear hcall
    go_wp2_with fail
    (try simp only [Exit.inBlock, Exit.then])
    refine bodyPost_ret (v := .tuple #[.agg #[.int .i64 num, .int .i64 5, .int .u64 v, .string ⟨#[]⟩], .int .i64 to, .int .i64 er]) ?_ rfl ⟨rfl, bel2 _ _ _⟩
    rw [results_cell_tmp2 rfl]
    go_simp
  by_cases hk2 : kind = 2
  · subst hk2
    have hto := @vget_to b p
    have hvl := vget_lt b p
    rw [wval2]
    have hcall := fun (x y : Obj) => rvget_any A n c b hn (by omega) p B ((w.alloc x).alloc y) (rd2 hr hB x y)
    obtain ⟨r, hrr⟩ : ∃ r, vget b p = r := ⟨_, rfl⟩
    rw [hrr] at hcall hto hvl ⊢
    obtain ⟨v, to, er⟩ := r
    simp only at hcall hto hvl ⊢
    clear hrr
    by_cases he : er = 0
    · subst he
      obtain ⟨t1, t2, _⟩ := hto rfl
      rw [if_pos rfl]
      obtain ⟨K, hK⟩ : ∃ K, n - to = K := ⟨_, rfl⟩
      have hs1 : IntKind.i64.wrap ((n : Int) - (to : Int)) = (K : Int) := by rw [show (n : Int) - (to : Int) = ((K : Nat) : Int) by omega]; exact wrap_small _ (by omega)
      have hs2 : IntKind.u64.wrap (K : Int) = (K : Int) := wrap_u64 _ (by omega)
      by_cases hlong : b.length - to < v
      · rw [if_pos hlong]
        have hdec : decide (K < v) = true := decide_eq_true (by omega)
        clear hlong hvl hto t1 t2 hK hr
        go_enter Tryd.func92, Tryd.ntmps92
        go_wp2_with fail
        refine (hcall _ _).mono ?_
        rintro e w1 ⟨rfl, rfl⟩
        clear hcall
        go_wp2_with fail
        (try simp only [Exit.inBlock, Exit.then])
        refine bodyPost_ret (v := .tuple #[.agg #[.int .i64 num, .int .i64 2, .int .u64 0, .string ⟨#[]⟩], .int .i64 0, .int .i64 2]) ?_ rfl ⟨rfl, bel2 _ _ _⟩
        rw [results_cell_tmp2 rfl]
        go_simp
      · rw [if_neg hlong]
        simp only
        obtain ⟨T, hT⟩ : ∃ T, to + v = T := ⟨_, rfl⟩
        rw [hT]
        obtain ⟨u1, u2, hle2, hle4, hlen, u3, hle1, hle3, u4⟩ := sub_facts hn hnc hl t2 hlong hT hK
        have hdec : decide (K < v) = false := decide_eq_false u4
        have hw1 : wrap64 (v : Int) = (v : Int) := wrap_s v u1
        have hw2 : wrap64 ((to : Int) + (v : Int)) = (T : Int) := u3 ▸ wrap_s T u2
        have htl : (bcl b).length ≤ c * 1 := by simp [bcl]; rw [hn]; exact hnc
        have hvl2 : ((b.drop to).take v).length = v := by rw [List.length_take, List.length_drop]; exact sub_min hlong
        obtain ⟨W2, hW2⟩ : ∃ W2, (w.alloc (Obj.cells #[.int .i64 0, .int .i64 0, .int .u64 0, .string ⟨#[]⟩] 73)).alloc (Obj.cells #[.int .i64 num, .int .i64 2, .int .u64 0, .string ⟨#[]⟩] 73) = W2 := ⟨_, rfl⟩
        have hrr := rd2 hr hB (Obj.cells #[.int .i64 0, .int .i64 0, .int .u64 0, .string ⟨#[]⟩] 73) (Obj.cells #[.int .i64 num, .int .i64 2, .int .u64 0, .string ⟨#[]⟩] 73)
        have hbl := bel2 w (Obj.cells #[.int .i64 0, .int .i64 0, .int .u64 0, .string ⟨#[]⟩] 73) (Obj.cells #[.int .i64 num, .int .i64 2, .int .u64 0, .string ⟨#[]⟩] 73)
        have hF : W2.heap[w.heap.size + 1]? = some (.cells #[.int .i64 num, .int .i64 2, .int .u64 0, .string ⟨#[]⟩] 73 (0, 0)) := by
          rw [← hW2]
          have := World.alloc_heap_new (w.alloc (Obj.cells #[.int .i64 0, .int .i64 0, .int .u64 0, .string ⟨#[]⟩] 73)) (Obj.cells #[.int .i64 num, .int .i64 2, .int .u64 0, .string ⟨#[]⟩] 73)
          rwa [World.size_alloc] at this
        have hG : W2.heap[w.heap.size]? = some (.cells #[.int .i64 0, .int .i64 0, .int .u64 0, .string ⟨#[]⟩] 73 (0, 0)) := by
          rw [← hW2, Below.heap_alloc _ _ _ (by simp)]
          exact World.alloc_heap_new w _
        rw [hW2] at hrr hbl
        have hcall2 := hcall (Obj.cells #[.int .i64 0, .int .i64 0, .int .u64 0, .string ⟨#[]⟩] 73) (Obj.cells #[.int .i64 num, .int .i64 2, .int .u64 0, .string ⟨#[]⟩] 73)
        rw [hW2] at hcall2
        have hcv : (convert 27 9 (.slice (if c = to then A else A.map (·.add to)) v (c - to))).run Tryd.prog W2 = .ok (.string ⟨((b.drop to).take v).toArray⟩) W2 := by
          have h := (hrr.drop (k := to) (cap := c) (size := 1) htl).take v
          rw [show ((bcl b).drop (to * 1)).take v = bcl ((b.drop to).take v) by simp [bcl, List.map_drop, List.map_take]] at h
          simp only [Nat.mul_one] at h
          exact strB2 h hvl2 _
        have HW2 := Lib.hid hW2
        obtain ⟨S, hS⟩ : ∃ S : ByteArray, (⟨((b.drop to).take v).toArray⟩ : ByteArray) = S := ⟨_, rfl⟩
        rw [hS] at hcv ⊢
        clear hlong hvl hto t1 t2 hK hr hT hrr hcall hW2 hS htl hvl2 u1 u2 u3 u4
        go_enter Tryd.func92, Tryd.ntmps92
        go_wp2_with fail
        rw [HW2.out]
        refine hcall2.mono ?_
        rintro e w1 ⟨rfl, rfl⟩
        clear hcall2
        obtain ⟨f0, f1, f2, f3⟩ := BoxF.cells (show BoxF W2 (w.heap.size + 1) num 2 0 ⟨#[]⟩ from hF)
        obtain ⟨g0, g1, g2, g3⟩ := BoxF.cells (show BoxF W2 w.heap.size 0 0 0 ⟨#[]⟩ from hG)
        have z3 : W2.frozen? ⟨w.heap.size + 1, 3, none⟩ = false := by simp [World.frozen?, hF]
        have y0 : W2.frozen? ⟨w.heap.size, 0, none⟩ = false := by simp [World.frozen?, hG]
        have y1 : W2.frozen? ⟨w.heap.size, 1, none⟩ = false := by simp [World.frozen?, hG]
        have y2 : W2.frozen? ⟨w.heap.size, 2, none⟩ = false := by simp [World.frozen?, hG]
        have y3 : W2.frozen? ⟨w.heap.size, 3, none⟩ = false := by simp [World.frozen?, hG]
        clear hF hG
        go_wp2_with fail
        all_goals (try simp only [Exit.inBlock, Exit.then])
        all_goals refine bodyPost_ret (v := .tuple #[.agg #[.int .i64 num, .int .i64 2, .int .u64 0, .string S], .int .i64 T, .int .i64 0]) ?_ rfl ⟨rfl, ?_⟩
        all_goals first
          | (rw [results_cell_tmp2 rfl]; go_simp; done)
          | exact ((((hbl.setCell (p := ⟨w.heap.size + 1, 3, none⟩) (Nat.le_succ _) _).setCell (p := ⟨w.heap.size, 0, none⟩) (Nat.le_refl _) _).setCell (p := ⟨w.heap.size, 1, none⟩) (Nat.le_refl _) _).setCell (p := ⟨w.heap.size, 2, none⟩) (Nat.le_refl _) _).setCell (p := ⟨w.heap.size, 3, none⟩) (Nat.le_refl _) _
    · rw [if_neg he]
      have hbe : ((er : Int) != 0) = true := by simp; omega
      clear he hto hvl hr
      go_enter Tryd.func92, Tryd.ntmps92
      go_wp2_with fail
      refine (hcall _ _).mono ?_
      rintro e w1 ⟨rfl, rfl⟩
      clear hcall
      go_wp2_with fail
      (try simp only [Exit.inBlock, Exit.then])
      refine bodyPost_ret (v := .tuple #[.agg #[.int .i64 num, .int .i64 2, .int .u64 0, .string ⟨#[]⟩], .int .i64 0, .int .i64 er]) ?_ rfl ⟨rfl, bel2 _ _ _⟩
      rw [results_cell_tmp2 rfl]
      go_simp
  have hw : wval b p kind = ⟨0, emptyT, 0, 11⟩ := by unfold wval; rw [if_neg hk0, if_neg hk1, if_neg hk5, if_neg hk2]
  rw [hw]
  have q0 : ((kind : Int) == 0) = false := by simp; omega
  have q2 : ((kind : Int) == 2) = false := by simp; omega
  have q1 : ((kind : Int) == 1) = false := by simp; omega
  have q5 : ((kind : Int) == 5) = false := by simp; omega
  clear hk0 hk2 hk1 hk5 hw hr
  go_enter Tryd.func92, Tryd.ntmps92
  go_wp2_with fail
  (try simp only [Exit.inBlock, Exit.then])
  refine bodyPost_ret (v := .tuple #[.agg #[.int .i64 num, .int .i64 kind, .int .u64 0, .string ⟨#[]⟩], .int .i64 0, .int .i64 11]) ?_ rfl ⟨rfl, bel2 _ _ _⟩
  rw [results_cell_tmp2 rfl]
  go_simp
end Go.Proofs.YtlgokfgbcohioaaDoor

/- WALK: the reference's Of of layer 3 -/
namespace Go.Proofs.YtlgokfgbcohioaaDoor
open Go.RowKit Plain

set_option maxRecDepth 100000 in
set_option maxHeartbeats 4000000 in
theorem rof_any (b : List UInt8) (A : Option Addr) (n c : Nat) (hn : b.length = n) (hnc : n ≤ c) (w : World) (hr0 : Rd w w.heap.size A (bcl b)) (hbl : b.length ≤ 140737488355328) :
    Calls Tryd.prog 63 #[.slice A n c] w (OfPost b w) := by
  by_cases hlong : 4096 < b.length
  · have hb : decide ((4096 : Int) < (n : Int)) = true := decide_eq_true (by omega)
    have hw : wof b = ([], 3) := by unfold wof; rw [if_pos hlong]
    have HW := Lib.hid hw
    clear hlong hw hr0 hn hbl
    go_enter Tryd.func63, Tryd.ntmps63
    go_wp2_with fail
    go_ret2
    exact of_err (e := 3) HW.out (Below.refl _ _)
  · have hb : decide ((4096 : Int) < (n : Int)) = false := decide_eq_false (by omega)
    have hw : wof b = wrun b b.length ⟨0, [], []⟩ := by unfold wof; rw [if_neg hlong]
    have HW := Lib.hid hw
    have HN := Lib.hid hn
    have HR := Lib.hid hr0
    have HL : Hid (b.length ≤ 4096) := Lib.hid (by omega)
    clear hlong hw hr0 hn hbl
    go_enter Tryd.func63, Tryd.ntmps63
    go_wp2_with fail
    go_loopw [4, 5, 6] (fun o op at_ wr => ∃ (s : RSt) (f : Nat) (Ao Ax : Option Addr) (co cx N M : Nat), o = .slice Ax N cx ∧ op = .slice Ao M co ∧ at_ = .int .i64 s.at_ ∧ s.out.length = N ∧ s.opn.length = M ∧
      wr.ownsRow w.heap.size 3 1 (.slice Ao M co) M (icl s.opn) ∧ wr.ownsRow w.heap.size 73 4 (.slice Ax N cx) N (flc s.out) ∧ Below w.heap.size w wr ∧ wof b = wrun b f s ∧ b.length ≤ f + s.at_) (fun _ _ at_ _ => b.length - (intOf at_).toNat)
    case atStart => exact ⟨⟨0, [], []⟩, b.length, none, none, 0, 0, 0, 0, rfl, rfl, rfl, rfl, rfl, World.ownsRow_nil _ _ _ _, World.ownsRow_nil _ _ _ _, Below.refl _ _, HW.out, by simp⟩
    case round =>
      obtain ⟨s, f, Ao, Ax, co, cx, N, M, rfl, rfl, rfl, hNo, hMo, o1, o2, hB, hw, hf⟩ := hrel
      obtain ⟨p, opn, out⟩ := s
      (try simp only at hNo)
      (try simp only at hMo)
      (try simp only at o1)
      (try simp only at o2)
      (try simp only at hf)
      have HWW := Lib.hid hw
      have HF := Lib.hid hf
      clear hw hf
      by_cases hlt : p < b.length
      · have hlt2 : p < n := by rw [← HN.out]; exact hlt
        have hb2 : decide ((p : Int) < (n : Int)) = true := decide_eq_true (by omega)
        have hto := @wnext_to b ⟨p, opn, out⟩
        have hstep : ∃ f2, f = f2 + 1 ∧ wof b = if (wnext b ⟨p, opn, out⟩).1 = 0 then wrun b f2 (wnext b ⟨p, opn, out⟩).2 else ([], (wnext b ⟨p, opn, out⟩).1) := by
          cases f with
          | zero => have := HF.out; omega
          | succ f2 => exact ⟨f2, rfl, by rw [HWW.out, wrun, if_pos hlt]⟩
        obtain ⟨f2, rfl, hw2⟩ := hstep
        obtain ⟨E, s2, hE⟩ : ∃ E s2, wnext b ⟨p, opn, out⟩ = (E, s2) := ⟨_, _, rfl⟩
        rw [hE] at hto hw2
        have hnx := hE
        unfold wnext at hE
        have hvl := vget_lt b p
        have hcall := rvget_any A n c b HN.out (by have := HL.out; omega) p w.heap.size wr (HR.out.below hB (Nat.le_refl _))
        obtain ⟨r, hr⟩ : ∃ r, vget b p = r := ⟨_, rfl⟩
        simp only at hE hto hw2
        rw [hr] at hcall hvl hE
        obtain ⟨v, to, er⟩ := r
        simp only at hcall hvl hE
        have HW2 := Lib.hid hw2
        have HT := Lib.hid hto
        have HLT := Lib.hid hlt
        clear hto hw2 hlt hnx hr
        by_cases he : er = 0
        · subst he
          rw [if_pos rfl] at hE
          obtain ⟨num, hnm⟩ : ∃ num, v / 8 = num := ⟨_, rfl⟩
          obtain ⟨kind, hkd⟩ : ∃ kind, v % 8 = kind := ⟨_, rfl⟩
          rw [hnm, hkd] at hE
          have hnlt : num < 2305843009213693952 := by omega
          have hsh : (v : Int) / 8 = (num : Int) := by omega
          have hmd : (v : Int) % 8 = (kind : Int) := by omega
          have HM := Lib.hid hMo
          have HNO := Lib.hid hNo
          have HHE := Lib.hid hE
          clear hvl hnm hkd hE hMo hNo
          go_wp2_with fail
          refine hcall.mono ?_
          rintro e w1 ⟨rfl, rfl⟩
          clear hcall
          have hbs := hB.size
          go_wp2_with (at_builtin; refine wpList_app1 rfl _ _ _ rfl elemI rfl o1 rfl rfl (by intro u hu; simp at hu; subst hu; rfl) (by unfold maxLen; omega) (by omega) hbs ?_; intro A5 c5 w5 ho5 hg5 _)
          · have hg : (num : Int) < 1 ∨ 536870912 ≤ (num : Int) := by assumption
            have hE := HHE.out
            rw [if_pos (by omega)] at hE
            obtain ⟨rfl, rfl⟩ := Prod.mk.inj hE
            go_ret2
            exact of_err (by rw [HW2.out, if_neg (by decide)]) hB
          · have hg : 1 ≤ (num : Int) ∧ (num : Int) < 536870912 := by assumption
            have hk3 : kind = 3 := by have := eq_of_beq (by assumption : ((kind : Int) == 3) = true); omega
            have h8 : (8 : Int) ≤ (M : Int) := by assumption
            have hE := HHE.out
            rw [if_neg (by omega), if_pos hk3, if_pos (by rw [HM.out]; omega)] at hE
            obtain ⟨rfl, rfl⟩ := Prod.mk.inj hE
            go_ret2
            exact of_err (by rw [HW2.out, if_neg (by decide)]) hB
          · have hg : 1 ≤ (num : Int) ∧ (num : Int) < 536870912 := by assumption
            have hk3 : kind = 3 := by have := eq_of_beq (by assumption : ((kind : Int) == 3) = true); omega
            have h8 : (M : Int) < 8 := by assumption
            have hE := HHE.out
            rw [if_neg (by omega), if_pos hk3, if_neg (by rw [HM.out]; omega)] at hE
            obtain ⟨rfl, rfl⟩ := Prod.mk.inj hE
            have ho2 := own_other o2 hg5 (fun g cur hh => own_ne o1 (by decide) hh)
            have hBB := own_grown hB o1 hbs hg5
            refine ⟨⟨⟨to, opn ++ [num], out⟩, f2, A5, Ax, c5, cx, N, M + 1, rfl, rfl, rfl, HNO.out, by simp [HM.out], by simpa [icl] using ho5, ho2, hBB, by rw [HW2.out, if_pos rfl], ?_⟩, ?_⟩
            · have := HT.out rfl; have := HF.out; simp only at *; omega
            · have := HT.out rfl; have := HLT.out; simp only [intOf] at *; simp; omega
          · have hg : 1 ≤ (num : Int) ∧ (num : Int) < 536870912 := by assumption
            have hk3 : ¬ kind = 3 := by have a : ¬ (kind : Int) = 3 := (by simpa using (by assumption : ((kind : Int) == 3) = false)); omega
            have hk4 : kind = 4 := by have := eq_of_beq (by assumption : ((kind : Int) == 4) = true); omega
            have h0 : opn = [] := List.eq_nil_of_length_eq_zero (by rw [HM.out]; first | assumption | rfl)
            have hE := HHE.out
            rw [if_neg (by omega), if_neg hk3, if_pos hk4, if_neg (by rw [h0]; simp)] at hE
            obtain ⟨rfl, rfl⟩ := Prod.mk.inj hE
            go_ret2
            exact of_err (by rw [HW2.out, if_neg (by decide)]) hB
          · have hg : 1 ≤ (num : Int) ∧ (num : Int) < 536870912 := by assumption
            have hk3 : ¬ kind = 3 := by have a : ¬ (kind : Int) = 3 := (by simpa using (by assumption : ((kind : Int) == 3) = false)); omega
            have hk4 : kind = 4 := by have := eq_of_beq (by assumption : ((kind : Int) == 4) = true); omega
            have hM0 : ¬ M = 0 := by assumption
            have hE := HHE.out
            rw [if_neg (by omega), if_neg hk3, if_pos hk4] at hE
            rcases List.eq_nil_or_concat opn with h0 | ⟨l, x, h0⟩
            · exact absurd (by rw [← HM.out, h0]; rfl) hM0
            obtain ⟨g, rfl⟩ : ∃ g, Ao = some ⟨g, 0, none⟩ := by
              rcases o1.2 with ⟨_, h00⟩ | ⟨g, cap, cur, hv, _⟩
              · exact absurd h00 hM0
              · injection hv with hA
                exact ⟨g, hA⟩
            obtain ⟨m, hm⟩ : ∃ m, l.length = m := ⟨_, rfl⟩
            have hMm : M = m + 1 := by rw [← HM.out, h0, ← hm]; simp
            have hcap := own_cap o1
            have hx : wr.cell? ⟨g, m, none⟩ = some (.int .i64 x) := by
              have := o1.cellAt m (by omega)
              rw [this, h0]
              simp [icl, ← hm]
            have o3 : wr.ownsRow w.heap.size 3 1 (.slice (some ⟨g, 0, none⟩) m co) m (icl l) := by
              have := own_prefix o1 (m := m) (by omega)
              rwa [show (icl opn).take m = icl l by rw [h0]; simp [icl, ← hm]] at this
            have hw1 : wrap64 ((M : Int) - 1) = (m : Int) := by unfold wrap64; omega
            have hw2 : IntKind.i64.wrap ((M : Int) - 1) = (m : Int) := by rw [show (M : Int) - 1 = (m : Int) by omega]; exact wrap_small m (by omega)
            have hlt1 : (m : Int) < (M : Int) := by omega
            have hlt2' : m < M := by omega
            have hle3 : (m : Int) ≤ (co : Int) := by omega
            have hle4 : m ≤ co := by omega
            have hlast : opn.getLast? = some num ↔ x = num := by rw [h0]; simp
            have hdrop : opn.dropLast = l := by rw [h0]; simp
            rw [hdrop] at hE
            by_cases hxn : x = num
            · rw [if_pos (hlast.2 hxn)] at hE
              obtain ⟨rfl, rfl⟩ := Prod.mk.inj hE
              have hbx : ((x : Int) != (num : Int)) = false := by simp; omega
              clear hlast hdrop hcap hMm hE o1 hg hk3 hk4
              go_simp
              go_wp2_with fail
              refine ⟨⟨⟨to, l, out⟩, f2, some ⟨g, 0, none⟩, Ax, co, cx, N, m, rfl, rfl, rfl, HNO.out, hm, o3, o2, hB, by rw [HW2.out, if_pos rfl], ?_⟩, ?_⟩
              · have := HT.out rfl; have := HF.out; simp only at *; omega
              · have := HT.out rfl; have := HLT.out; simp only [intOf] at *; simp; omega
            · rw [if_neg (fun h => hxn (hlast.1 h))] at hE
              obtain ⟨rfl, rfl⟩ := Prod.mk.inj hE
              have hbx : ((x : Int) != (num : Int)) = true := by simp; omega
              clear hlast hdrop hcap hMm hE o1 hg hk3 hk4
              go_simp
              go_wp2_with fail
              go_ret2
              exact of_err (by rw [HW2.out, if_neg (by decide)]) hB
          · have hg : 1 ≤ (num : Int) ∧ (num : Int) < 536870912 := by assumption
            have hk3 : ¬ kind = 3 := by have a : ¬ (kind : Int) = 3 := (by simpa using (by assumption : ((kind : Int) == 3) = false)); omega
            have hk4 : ¬ kind = 4 := by have a : ¬ (kind : Int) = 4 := (by simpa using (by assumption : ((kind : Int) == 4) = false)); omega
            have hE := HHE.out
            rw [if_neg (by omega), if_neg hk3, if_neg hk4] at hE
            refine (rvalue_any b A n c HN.out hnc (by have := HL.out; omega) to num kind w.heap.size wr hbs (HR.out.below hB (Nat.le_refl _))).mono ?_
            rintro e w2 ⟨rfl, hB2⟩
            obtain ⟨V, hV⟩ : ∃ V, wval b to kind = V := ⟨_, rfl⟩
            rw [hV] at hE ⊢
            obtain ⟨vv, vt, vto, verr⟩ := V
            simp only at hE ⊢
            have o1' := own_kept o1 hB2 (Nat.le_refl _)
            have o2' := own_kept o2 hB2 (Nat.le_refl _)
            have hB3 := bel_step hB hB2
            have hbs3 := hB3.size
            clear o1 o2 hB hB2 hV hbs HHE hg hk3 hk4
            by_cases hve : verr = 0
            · subst hve
              rw [if_pos rfl] at hE
              rw [HM.out, HNO.out] at hE
              by_cases hM0 : M = 0
              · rw [if_pos hM0] at hE
                by_cases hfl : 256 ≤ N
                · rw [if_pos hfl] at hE
                  obtain ⟨rfl, rfl⟩ := Prod.mk.inj hE
                  have hbf : decide ((256 : Int) ≤ (N : Int)) = true := decide_eq_true (by omega)
                  clear hE
                  go_wp2_with fail
                  go_ret2
                  first | exact of_err (by rw [HW2.out, if_neg (by decide)]) hB3 | exact of_err (by rw [HW2.out, if_neg (by decide)]) (hB3.alloc hbs3 _)
                · rw [if_neg hfl] at hE
                  obtain ⟨rfl, rfl⟩ := Prod.mk.inj hE
                  have hbf : decide ((256 : Int) ≤ (N : Int)) = false := decide_eq_false (by omega)
                  clear hE
                  go_wp2_with (at_builtin; refine wpList_appF1 rfl _ _ rfl rfl (o2'.alloc (Obj.cells #[.int .i64 num, .int .i64 kind, .int .u64 vv, .string vt] 73)) ⟨num, kind, vv, vt⟩ rfl (by simp) (by omega) (by simp; omega) ?_; intro A5 c5 w5 ho5 hg5)
                  have o1'' := own_other (o1'.alloc (Obj.cells #[.int .i64 num, .int .i64 kind, .int .u64 vv, .string vt] 73)) hg5 (fun g cur hh => own_ne (o2'.alloc (Obj.cells #[.int .i64 num, .int .i64 kind, .int .u64 vv, .string vt] 73)) (by decide) hh)
                  have hBB := own_grown (hB3.alloc hbs3 (Obj.cells #[.int .i64 num, .int .i64 kind, .int .u64 vv, .string vt] 73)) (o2'.alloc (Obj.cells #[.int .i64 num, .int .i64 kind, .int .u64 vv, .string vt] 73)) (by simp; omega) hg5
                  go_roundw
                  case rel => exact ⟨⟨vto, opn, out ++ [⟨num, kind, vv, vt⟩]⟩, f2, Ao, A5, co, c5, N + 1, M, rfl, by rw [hM0], rfl, by simp [HNO.out], HM.out, o1'', ho5, hBB, by rw [HW2.out, if_pos rfl], by have := HT.out rfl; have := HF.out; simp only at *; omega⟩
                  case measure => have := HT.out rfl; have := HLT.out; simp only [intOf] at *; simp; omega
              · have hMp : 0 < M := by omega
                rw [if_neg hM0] at hE
                obtain ⟨rfl, rfl⟩ := Prod.mk.inj hE
                clear hE
                go_wp2_with fail
                go_roundw
                case rel => exact ⟨⟨vto, opn, out⟩, f2, Ao, Ax, co, cx, N, M, rfl, rfl, rfl, HNO.out, HM.out, o1'.alloc _, o2'.alloc _, hB3.alloc hbs3 _, by rw [HW2.out, if_pos rfl], by have := HT.out rfl; have := HF.out; simp only at *; omega⟩
                case measure => have := HT.out rfl; have := HLT.out; simp only [intOf] at *; simp; omega
            · rw [if_neg hve] at hE
              obtain ⟨rfl, rfl⟩ := Prod.mk.inj hE
              have hbv : ((verr : Int) != 0) = true := by simp; omega
              have HVE := Lib.hid hve
              clear hE hve
              go_wp2_with fail
              go_ret2
              first | exact of_err (by rw [HW2.out, if_neg HVE.out]) hB3 | exact of_err (by rw [HW2.out, if_neg HVE.out]) (hB3.alloc hbs3 _)
          · have hg : (num : Int) < 1 := by assumption
            have hE := HHE.out
            rw [if_pos (by omega)] at hE
            obtain ⟨rfl, rfl⟩ := Prod.mk.inj hE
            go_ret2
            exact of_err (by rw [HW2.out, if_neg (by decide)]) hB
        · rw [if_neg he] at hE
          obtain ⟨rfl, rfl⟩ := Prod.mk.inj hE
          have hbe : ((er : Int) != 0) = true := by simp; omega
          have HE := Lib.hid he
          clear he hE hvl
          go_wp2_with fail
          refine hcall.mono ?_
          rintro e w1 ⟨rfl, rfl⟩
          go_wp2_with fail
          go_ret2
          exact of_err (by rw [HW2.out, if_neg HE.out]) hB
      · have hlt2 : ¬ p < n := by rw [← HN.out]; exact hlt
        have hb2 : decide ((p : Int) < (n : Int)) = false := decide_eq_false (by omega)
        have hw2 := HWW.out
        rw [wrun_stop hlt] at hw2
        have HW2 := Lib.hid hw2
        clear hw2 hlt
        by_cases ho : M = 0
        · subst ho
          have HMO := Lib.hid hMo
          subst hNo
          clear hMo
          go_wp2_with fail
          go_ret2
          have hw3 : wof b = (out, 0) := by rw [HW2.out, if_pos HMO.out]
          exact ⟨Ax, cx, by rw [hw3]; rfl, by rw [hw3]; exact o2, hB⟩
        · have hpos : 0 < M := by omega
          have HO : Hid (¬ opn.length = 0) := Lib.hid (by rw [hMo]; exact ho)
          clear ho hMo
          go_wp2_with fail
          go_ret2
          exact of_err (e := 2) (by rw [HW2.out, if_neg HO.out]) hB
end Go.Proofs.YtlgokfgbcohioaaDoor

/- WALKS: the reference's Of -/
namespace Go.Proofs.YtlgokfgbcohioaaDoor
open Go.RowKit Plain

structure InB2 (w W : World) (acc : VV) : Prop where
  R : Box3 W w.heap.size VV.zero
  V : Box3 W (w.heap.size + 1) acc
  bel : Below w.heap.size w W
theorem InB2.drewN {w W : World} {acc : VV} (h : InB2 w W acc) (n : Nat) : InB2 w (W.drewN n) acc := ⟨h.R, h.V, below_drewN h.bel n⟩
theorem InB2.boxes {w W : World} {acc : VV} (h : InB2 w W acc) :
    (W.cell? ⟨w.heap.size, 0, none⟩ = some (.int .i64 0) ∧ W.cell? ⟨w.heap.size, 1, none⟩ = some (.int .u64 0) ∧ W.cell? ⟨w.heap.size, 2, none⟩ = some (.string ⟨#[]⟩)) ∧
    (W.cell? ⟨w.heap.size + 1, 0, none⟩ = some (.int .i64 acc.k) ∧ W.cell? ⟨w.heap.size + 1, 1, none⟩ = some (.int .u64 acc.n) ∧ W.cell? ⟨w.heap.size + 1, 2, none⟩ = some (.string acc.s)) ∧
    (W.frozen? ⟨w.heap.size, 0, none⟩ = false ∧ W.frozen? ⟨w.heap.size, 1, none⟩ = false ∧ W.frozen? ⟨w.heap.size, 2, none⟩ = false) ∧
    (W.frozen? ⟨w.heap.size + 1, 0, none⟩ = false ∧ W.frozen? ⟨w.heap.size + 1, 1, none⟩ = false ∧ W.frozen? ⟨w.heap.size + 1, 2, none⟩ = false) :=
  ⟨⟨h.R.cell 0, h.R.cell 1, h.R.cell 2⟩, ⟨h.V.cell 0, h.V.cell 1, h.V.cell 2⟩, ⟨h.R.frozen 0, h.R.frozen 1, h.R.frozen 2⟩, ⟨h.V.frozen 0, h.V.frozen 1, h.V.frozen 2⟩⟩

/-- a field stands at o -/
def InF (W : World) (b o : Nat) (f : Fld) : Prop :=
  W.cell? ⟨b, o, none⟩ = some (.int .i64 f.num) ∧ W.cell? ⟨b, o + 1, none⟩ = some (.int .i64 f.kind) ∧ W.cell? ⟨b, o + 2, none⟩ = some (.int .u64 f.val) ∧ W.cell? ⟨b, o + 3, none⟩ = some (.string f.text)
theorem InF.drewN {W : World} {b o : Nat} {f : Fld} (h : InF W b o f) (n : Nat) : InF (W.drewN n) b o f := h

set_option maxRecDepth 100000 in
set_option maxHeartbeats 2000000 in
theorem rvof_any (l : List Fld) (A : Option Addr) (c : Nat) (base : Int) (raw : Bool) (hl : l.length ≤ 9223372036854775807) (hwf : ∀ f ∈ l, -9223372036854775808 ≤ f.num ∧ f.num ≤ 9223372036854775807 ∧ f.val < 18446744073709551616) (w : World) (hr : Rd w w.heap.size A (flc l)) :
    Calls Tryd.prog 93 #[.slice A l.length c, .int .i64 base, .bool raw] w fun e w' => e = .returned (.tuple #[.agg (vof base raw l).1.cells, .int .i64 (vof base raw l).2]) ∧ Below w.heap.size w w' := by
  by_cases hb : 1 ≤ base ∧ base ≤ 1000
  · have hv : vof base raw l = vofs base raw l VV.zero := by unfold vof; rw [if_pos hb]
    rw [hv]
    have HR := Lib.hid hr
    have HWF := Lib.hid hwf
    obtain ⟨hb10, hb11⟩ := hb
    clear hr hv hwf
    generalize hres : vofs base raw l VV.zero = res at *
    have HRES := Lib.hid hres
    clear hres
    obtain ⟨M, hM⟩ : ∃ M : Int, M = if raw = true then 7 else 6 := ⟨_, rfl⟩
    have HM := Lib.hid hM
    have hcase : raw = true ∧ M = 7 ∨ raw = false ∧ M = 6 := by cases raw <;> simp [hM]
    have hi0 : (w.alloc (Obj.cells #[Value.int IntKind.i64 0, Value.int IntKind.u64 0, Value.string ⟨#[]⟩] 42)).heap.size = w.heap.size + 1 := by simp
    clear hM
    rcases hcase with ⟨rfl, rfl⟩ | ⟨rfl, rfl⟩
    · go_enter Tryd.func93, Tryd.ntmps93
      go_wp2_with fail
      go_loopw [10] (fun i wr => ∃ (j : Nat) (acc : VV), i = .int .i64 j ∧ j ≤ l.length ∧ vofs base true (l.drop j) acc = res ∧ InB2 w wr acc) (fun i _ => l.length - (intOf i).toNat)
      case atStart =>
        refine ⟨0, VV.zero, rfl, Nat.zero_le _, HRES.out, ?_, ?_, ((Below.refl _ w).alloc (Nat.le_refl _) _).alloc (by simp) _⟩
        · exact (Below.heap_alloc _ _ _ (by simp)).trans (Box3.new w VV.zero)
        · have := Box3.new (w.alloc (.cells VV.zero.cells 42)) VV.zero
          rw [World.size_alloc] at this
          exact this
      case round =>
        obtain ⟨j, acc, rfl, hj, he, hin⟩ := hrel
        obtain ⟨⟨r0, r1, r2⟩, ⟨v0, v1, v2⟩, ⟨f0, f1, f2⟩, f3, f4, f5⟩ := hin.boxes
        have HE := Lib.hid he
        clear he
        by_cases hlt : j < l.length
        · obtain ⟨f, hf⟩ : ∃ f, l[j]? = some f := ⟨_, List.getElem?_eq_getElem hlt⟩
          have hdrop : l.drop j = f :: l.drop (j + 1) := by
            obtain ⟨h1, h2⟩ := List.getElem?_eq_some_iff.1 hf
            rw [List.drop_eq_getElem_cons h1, h2]
          obtain ⟨hn0, hn1, hn2⟩ := HWF.out f (List.mem_of_getElem? hf)
          have hlen := flc_len l
          obtain ⟨b1, o1, rfl, hb1, hc1⟩ := (HR.out.below hin.bel (by omega)).some_ (by omega)
          have g1 : ∀ i, i < 4 → wr.cell? ⟨b1, o1 + j * 4 + i, none⟩ = f.cells[i]? := fun i hi => by
            rw [show o1 + j * 4 + i = o1 + (4 * j + i) by omega]; exact (hc1 _ (by omega)).trans (flc_at hf i hi)
          have g10 : wr.cell? ⟨b1, o1 + j * 4, none⟩ = some (.int .i64 f.num) := g1 0 (by omega)
          have g11 : wr.cell? ⟨b1, o1 + j * 4 + 1, none⟩ = some (.int .i64 f.kind) := g1 1 (by omega)
          have g12 : wr.cell? ⟨b1, o1 + j * 4 + 2, none⟩ = some (.int .u64 f.val) := g1 2 (by omega)
          have g13 : wr.cell? ⟨b1, o1 + j * 4 + 3, none⟩ = some (.string f.text) := g1 3 (by omega)
          have hstep : vofs base true (f :: l.drop (j + 1)) acc = res := hdrop ▸ HE.out
          have HS := Lib.hid hstep
          clear hstep hdrop hc1 g1 hlen hf HWF HR HE
          by_cases hlo : f.num < base
          · have hk0 : vkof f.num base true = 0 := by unfold vkof; rw [if_neg (by omega)]
            have HK0 := Lib.hid hk0
            clear hk0
            go_wp2_with fail
            go_roundw
            case rel => exact ⟨j + 1, acc, by go_num, by omega, by have e := HS.out; rwa [vofs, if_pos HK0.out] at e, hin⟩
            case measure => simp [intOf]; omega
          by_cases hhi : base + 7 ≤ f.num
          · have hk0 : vkof f.num base true = 0 := by unfold vkof; rw [if_neg (by omega)]
            have HK0 := Lib.hid hk0
            clear hk0
            go_wp2_with fail
            go_roundw
            case rel => exact ⟨j + 1, acc, by go_num, by omega, by have e := HS.out; rwa [vofs, if_pos HK0.out] at e, hin⟩
            case measure => simp [intOf]; omega
          have hkv : vkof f.num base true = f.num - base + 1 := by unfold vkof; rw [if_pos ⟨by omega, by omega, fun _ => rfl⟩]
          have hs2 : res = if ¬ f.kind = vkind (f.num - base + 1) then (VV.zero, 4) else if vgreat (f.num - base + 1) f.val = true then (VV.zero, 5) else vofs base true (l.drop (j + 1)) ⟨f.num - base + 1, f.val, f.text⟩ := by
            have e := HS.out
            rw [vofs, if_neg (by rw [hkv]; omega), hkv] at e
            exact e.symm
          have HS2 := Lib.hid hs2
          clear hs2 hkv HS
          have hF : InF wr b1 (o1 + j * 4) f := ⟨g10, g11, g12, g13⟩
          by_cases hkd : f.kind = vkind (f.num - base + 1)
          · have hkb : (f.kind != vkind (f.num - base + 1)) = false := by simpa using hkd
            have HKD := Lib.hid hkd
            clear hkd
            go_wp2_with fail
            go_quiet (first | (go_at_call 98; exact Calls.quiet_of_same ((kind_any _ _).mono fun _ _ h => ⟨h.1, h.2.symm⟩)) | (go_at_call 114; exact Calls.quiet_of_same ((great_any _ _ _).mono fun _ _ h => ⟨h.1, h.2.symm⟩)))
            go_wp2_with fail
            have hin3 := hin.drewN nq
            have hF3 := hF.drewN nq
            clear hin hF r0 r1 r2 v0 v1 v2 f0 f1 f2 f3 f4 f5 g10 g11 g12 g13
            generalize wr.drewN nq = W3 at *
            obtain ⟨⟨r0, r1, r2⟩, ⟨v0, v1, v2⟩, ⟨f0, f1, f2⟩, f3, f4, f5⟩ := hin3.boxes
            obtain ⟨g10, g11, g12, g13⟩ := id hF3
            refine (great_any _ _ _).mono ?_
            rintro e w4 ⟨rfl, rfl⟩
            cases hgr : vgreat (f.num - base + 1) f.val
            · go_wp2_with fail
              go_still_tail 12, (by kernel_rfl)
              change wpList _ _ _ _ _ W3.drew
              have hin4 : InB2 w W3.drew acc := ⟨hin3.R, hin3.V, hin3.bel.drew⟩
              clear hin3 hF3 r0 r1 r2 v0 v1 v2 f0 f1 f2 f3 f4 f5 g10 g11 g12 g13
              generalize W3.drew = W4 at *
              obtain ⟨⟨r0, r1, r2⟩, ⟨v0, v1, v2⟩, ⟨f0, f1, f2⟩, f3, f4, f5⟩ := hin4.boxes
              go_wp2_with fail
              go_roundw
              case rel => exact ⟨j + 1, ⟨f.num - base + 1, f.val, f.text⟩, by go_num, by omega, by rw [HS2.out, if_neg (fun h => h HKD.out), if_neg (by rw [hgr]; simp)], hin4.R.other3 (by omega) _ _ _, hin4.V.set3 ⟨f.num - base + 1, f.val, f.text⟩, below_set3 hin4.bel (by omega) _ _ _⟩
              case measure => simp [intOf]; omega
            · go_wp2_with fail
              (try simp only [Exit.inBlock, Exit.then])
              refine bodyPost_ret (v := .tuple #[.agg VV.zero.cells, .int .i64 5]) ?_ rfl ⟨?_, below_set3 hin3.bel (Nat.le_refl _) _ _ _⟩
              · rw [results_cell_tmp rfl]; go_simp; rfl
              · rw [HS2.out, if_neg (fun h => h HKD.out), if_pos hgr]
          · have hkb : (f.kind != vkind (f.num - base + 1)) = true := by simpa using hkd
            have HKD := Lib.hid hkd
            clear hkd
            go_wp2_with fail
            go_quiet (first | (go_at_call 98; exact Calls.quiet_of_same ((kind_any _ _).mono fun _ _ h => ⟨h.1, h.2.symm⟩)) | (go_at_call 114; exact Calls.quiet_of_same ((great_any _ _ _).mono fun _ _ h => ⟨h.1, h.2.symm⟩)))
            go_wp2_with fail
            (try simp only [Exit.inBlock, Exit.then])
            refine bodyPost_ret (v := .tuple #[.agg VV.zero.cells, .int .i64 4]) ?_ rfl ⟨?_, below_set3 (below_drewN hin.bel _) (Nat.le_refl _) _ _ _⟩
            · rw [results_cell_tmp rfl]; go_simp; rfl
            · rw [HS2.out, if_pos HKD.out]
        · go_wp2_with fail
          (try simp only [Exit.inBlock, Exit.then])
          refine bodyPost_ret (v := .tuple #[.agg acc.cells, .int .i64 0]) ?_ rfl ⟨?_, below_set3 hin.bel (Nat.le_refl _) _ _ _⟩
          · rw [results_cell_tmp rfl]; go_simp; rfl
          · have e := HE.out
            rw [List.drop_eq_nil_of_le (by omega)] at e
            rw [← e]; rfl
    · go_enter Tryd.func93, Tryd.ntmps93
      go_wp2_with fail
      go_loopw [10] (fun i wr => ∃ (j : Nat) (acc : VV), i = .int .i64 j ∧ j ≤ l.length ∧ vofs base false (l.drop j) acc = res ∧ InB2 w wr acc) (fun i _ => l.length - (intOf i).toNat)
      case atStart =>
        refine ⟨0, VV.zero, rfl, Nat.zero_le _, HRES.out, ?_, ?_, ((Below.refl _ w).alloc (Nat.le_refl _) _).alloc (by simp) _⟩
        · exact (Below.heap_alloc _ _ _ (by simp)).trans (Box3.new w VV.zero)
        · have := Box3.new (w.alloc (.cells VV.zero.cells 42)) VV.zero
          rw [World.size_alloc] at this
          exact this
      case round =>
        obtain ⟨j, acc, rfl, hj, he, hin⟩ := hrel
        obtain ⟨⟨r0, r1, r2⟩, ⟨v0, v1, v2⟩, ⟨f0, f1, f2⟩, f3, f4, f5⟩ := hin.boxes
        have HE := Lib.hid he
        clear he
        by_cases hlt : j < l.length
        · obtain ⟨f, hf⟩ : ∃ f, l[j]? = some f := ⟨_, List.getElem?_eq_getElem hlt⟩
          have hdrop : l.drop j = f :: l.drop (j + 1) := by
            obtain ⟨h1, h2⟩ := List.getElem?_eq_some_iff.1 hf
            rw [List.drop_eq_getElem_cons h1, h2]
          obtain ⟨hn0, hn1, hn2⟩ := HWF.out f (List.mem_of_getElem? hf)
          have hlen := flc_len l
          obtain ⟨b1, o1, rfl, hb1, hc1⟩ := (HR.out.below hin.bel (by omega)).some_ (by omega)
          have g1 : ∀ i, i < 4 → wr.cell? ⟨b1, o1 + j * 4 + i, none⟩ = f.cells[i]? := fun i hi => by
            rw [show o1 + j * 4 + i = o1 + (4 * j + i) by omega]; exact (hc1 _ (by omega)).trans (flc_at hf i hi)
          have g10 : wr.cell? ⟨b1, o1 + j * 4, none⟩ = some (.int .i64 f.num) := g1 0 (by omega)
          have g11 : wr.cell? ⟨b1, o1 + j * 4 + 1, none⟩ = some (.int .i64 f.kind) := g1 1 (by omega)
          have g12 : wr.cell? ⟨b1, o1 + j * 4 + 2, none⟩ = some (.int .u64 f.val) := g1 2 (by omega)
          have g13 : wr.cell? ⟨b1, o1 + j * 4 + 3, none⟩ = some (.string f.text) := g1 3 (by omega)
          have hstep : vofs base false (f :: l.drop (j + 1)) acc = res := hdrop ▸ HE.out
          have HS := Lib.hid hstep
          clear hstep hdrop hc1 g1 hlen hf HWF HR HE
          by_cases hlo : f.num < base
          · have hk0 : vkof f.num base false = 0 := by unfold vkof; rw [if_neg (by omega)]
            have HK0 := Lib.hid hk0
            clear hk0
            go_wp2_with fail
            go_roundw
            case rel => exact ⟨j + 1, acc, by go_num, by omega, by have e := HS.out; rwa [vofs, if_pos HK0.out] at e, hin⟩
            case measure => simp [intOf]; omega
          by_cases hhi : base + 6 ≤ f.num
          · have hk0 : vkof f.num base false = 0 := by unfold vkof; rw [if_neg (by rintro ⟨a, b, c⟩; have := c (by omega); simp at this)]
            have HK0 := Lib.hid hk0
            clear hk0
            go_wp2_with fail
            go_roundw
            case rel => exact ⟨j + 1, acc, by go_num, by omega, by have e := HS.out; rwa [vofs, if_pos HK0.out] at e, hin⟩
            case measure => simp [intOf]; omega
          have hkv : vkof f.num base false = f.num - base + 1 := by unfold vkof; rw [if_pos ⟨by omega, by omega, fun h => by omega⟩]
          have hs2 : res = if ¬ f.kind = vkind (f.num - base + 1) then (VV.zero, 4) else if vgreat (f.num - base + 1) f.val = true then (VV.zero, 5) else vofs base false (l.drop (j + 1)) ⟨f.num - base + 1, f.val, f.text⟩ := by
            have e := HS.out
            rw [vofs, if_neg (by rw [hkv]; omega), hkv] at e
            exact e.symm
          have HS2 := Lib.hid hs2
          clear hs2 hkv HS
          have hF : InF wr b1 (o1 + j * 4) f := ⟨g10, g11, g12, g13⟩
          by_cases hkd : f.kind = vkind (f.num - base + 1)
          · have hkb : (f.kind != vkind (f.num - base + 1)) = false := by simpa using hkd
            have HKD := Lib.hid hkd
            clear hkd
            go_wp2_with fail
            go_quiet (first | (go_at_call 98; exact Calls.quiet_of_same ((kind_any _ _).mono fun _ _ h => ⟨h.1, h.2.symm⟩)) | (go_at_call 114; exact Calls.quiet_of_same ((great_any _ _ _).mono fun _ _ h => ⟨h.1, h.2.symm⟩)))
            go_wp2_with fail
            have hin3 := hin.drewN nq
            have hF3 := hF.drewN nq
            clear hin hF r0 r1 r2 v0 v1 v2 f0 f1 f2 f3 f4 f5 g10 g11 g12 g13
            generalize wr.drewN nq = W3 at *
            obtain ⟨⟨r0, r1, r2⟩, ⟨v0, v1, v2⟩, ⟨f0, f1, f2⟩, f3, f4, f5⟩ := hin3.boxes
            obtain ⟨g10, g11, g12, g13⟩ := id hF3
            refine (great_any _ _ _).mono ?_
            rintro e w4 ⟨rfl, rfl⟩
            cases hgr : vgreat (f.num - base + 1) f.val
            · go_wp2_with fail
              go_still_tail 12, (by kernel_rfl)
              change wpList _ _ _ _ _ W3.drew
              have hin4 : InB2 w W3.drew acc := ⟨hin3.R, hin3.V, hin3.bel.drew⟩
              clear hin3 hF3 r0 r1 r2 v0 v1 v2 f0 f1 f2 f3 f4 f5 g10 g11 g12 g13
              generalize W3.drew = W4 at *
              obtain ⟨⟨r0, r1, r2⟩, ⟨v0, v1, v2⟩, ⟨f0, f1, f2⟩, f3, f4, f5⟩ := hin4.boxes
              go_wp2_with fail
              go_roundw
              case rel => exact ⟨j + 1, ⟨f.num - base + 1, f.val, f.text⟩, by go_num, by omega, by rw [HS2.out, if_neg (fun h => h HKD.out), if_neg (by rw [hgr]; simp)], hin4.R.other3 (by omega) _ _ _, hin4.V.set3 ⟨f.num - base + 1, f.val, f.text⟩, below_set3 hin4.bel (by omega) _ _ _⟩
              case measure => simp [intOf]; omega
            · go_wp2_with fail
              (try simp only [Exit.inBlock, Exit.then])
              refine bodyPost_ret (v := .tuple #[.agg VV.zero.cells, .int .i64 5]) ?_ rfl ⟨?_, below_set3 hin3.bel (Nat.le_refl _) _ _ _⟩
              · rw [results_cell_tmp rfl]; go_simp; rfl
              · rw [HS2.out, if_neg (fun h => h HKD.out), if_pos hgr]
          · have hkb : (f.kind != vkind (f.num - base + 1)) = true := by simpa using hkd
            have HKD := Lib.hid hkd
            clear hkd
            go_wp2_with fail
            go_quiet (first | (go_at_call 98; exact Calls.quiet_of_same ((kind_any _ _).mono fun _ _ h => ⟨h.1, h.2.symm⟩)) | (go_at_call 114; exact Calls.quiet_of_same ((great_any _ _ _).mono fun _ _ h => ⟨h.1, h.2.symm⟩)))
            go_wp2_with fail
            (try simp only [Exit.inBlock, Exit.then])
            refine bodyPost_ret (v := .tuple #[.agg VV.zero.cells, .int .i64 4]) ?_ rfl ⟨?_, below_set3 (below_drewN hin.bel _) (Nat.le_refl _) _ _ _⟩
            · rw [results_cell_tmp rfl]; go_simp; rfl
            · rw [HS2.out, if_pos HKD.out]
        · go_wp2_with fail
          (try simp only [Exit.inBlock, Exit.then])
          refine bodyPost_ret (v := .tuple #[.agg acc.cells, .int .i64 0]) ?_ rfl ⟨?_, below_set3 hin.bel (Nat.le_refl _) _ _ _⟩
          · rw [results_cell_tmp rfl]; go_simp; rfl
          · have e := HE.out
            rw [List.drop_eq_nil_of_le (by omega)] at e
            rw [← e]; rfl
  · have hv : vof base raw l = (VV.zero, 1) := by unfold vof; rw [if_neg hb]
    rw [hv]
    clear hv hr hwf
    have hBB : ∀ o1 o2, Below w.heap.size w ((w.alloc o1).alloc o2) := fun _ _ => ((Below.refl _ w).alloc (Nat.le_refl _) _).alloc (by simp) _
    by_cases h1 : base < 1
    · clear hb
      go_enter Tryd.func93, Tryd.ntmps93
      go_wp2_with fail
      (try simp only [Exit.inBlock, Exit.then])
      refine bodyPost_ret (v := .tuple #[.agg VV.zero.cells, .int .i64 1]) ?_ rfl ⟨rfl, ?_⟩
      · rw [results_cell_tmp rfl]; go_simp; rfl
      · first | exact (Below.refl _ w).alloc (Nat.le_refl _) _ | exact hBB _ _
    · have h2 : 1000 < base := by omega
      clear hb
      go_enter Tryd.func93, Tryd.ntmps93
      go_wp2_with fail
      (try simp only [Exit.inBlock, Exit.then])
      refine bodyPost_ret (v := .tuple #[.agg VV.zero.cells, .int .i64 1]) ?_ rfl ⟨rfl, ?_⟩
      · rw [results_cell_tmp rfl]; go_simp; rfl
      · first | exact (Below.refl _ w).alloc (Nat.le_refl _) _ | exact hBB _ _
end Go.Proofs.YtlgokfgbcohioaaDoor

/- LAW WALK: awake of layer 5. -/
namespace Go.Proofs.YtlgokfgbcohioaaDoor
open Go.RowKit Plain

theorem put5 (w : World) (hK : Kinds w) : Calls Tryd.prog 28 #[.agg #[.int .i64 5, .int .u64 1, .string ⟨#[]⟩], .int .i64 10, .bool true] w fun e w' =>
    ∃ b o c, e = .returned (.tuple #[.slice (some ⟨b, o, none⟩) 1 c, .int .i64 0]) ∧ w'.cell? ⟨b, o, none⟩ = some (.int .i64 14) ∧ w'.cell? ⟨b, o + 1, none⟩ = some (.int .i64 0) ∧ w'.cell? ⟨b, o + 2, none⟩ = some (.int .u64 1) ∧ w'.cell? ⟨b, o + 3, none⟩ = some (.string ⟨#[]⟩) ∧ Below w.heap.size w w' := by
  refine (vput_any 5 1 ⟨#[]⟩ 10 true (by omega) (by omega) w hK).mono ?_
  rintro e w1 ⟨A, c, rfl, hc1, hc2, hr, hB⟩
  have e2 : verr 5 ((1 : Nat) : Int) (ByteArray.mk #[]).toList.isEmpty 10 true = 0 := by decide +kernel
  have e1 : vfls 5 1 ⟨#[]⟩ 10 true = [⟨14, 0, 1, ⟨#[]⟩⟩] := by
    unfold vfls
    rw [e2]
    rfl
  rw [e1] at hr
  obtain ⟨b, o, rfl, _, hc⟩ := hr.some_ (by decide)
  exact ⟨b, o, c, by rw [e1, e2]; rfl, hc 0 (by decide), hc 1 (by decide), hc 2 (by decide), hc 3 (by decide), hB⟩
theorem awake5_any (w : World) (hK : Kinds w) : Calls Tryd.prog 30 #[] w fun e w' => e = .returned (.bool true) ∧ Below w.heap.size w w' := by
  go_enter Tryd.func30, Tryd.ntmps30
  go_wp2_with fail
  refine (put5 w hK).mono ?_
  rintro e w1 ⟨b, o, c, rfl, g0, g1, g2, g3, hB⟩
  go_wp2_with fail
  go_ret
  exact ⟨rfl, hB⟩

end Go.Proofs.YtlgokfgbcohioaaDoor
