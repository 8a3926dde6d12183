/- Several texts in one: words, plain laws and walks that the statement's proof imports. -/
import Derived.Test.YtanfnjlndckhkaaDoorK8
import Derived.Test.YtanfnjlndckhkaaDoorK10
import Derived.Test.YtanfnjlndckhkaaDoorK7
/- WALKS: crierref07.bytesOf, put -/
namespace Go.Proofs.YtanfnjlndckhkaaDoor
open Go.RowKit Plain

/-- two rows do not share a block -/
def Sep (v1 v2 : Value) : Prop := ∀ g, v1.ownBlock = some g → v2.ownBlock ≠ some g
theorem Sep.symm {v1 v2 : Value} (h : Sep v1 v2) : Sep v2 v1 := fun g h1 h2 => h g h2 h1
theorem Sep.nil (v : Value) : Sep (.slice none 0 0) v := fun g h => by simp [Value.ownBlock] at h
theorem own_sep {w w' : World} {base : Nat} {e : TypeId} {size n : Nat} {v v2 : Value} {xs : List Value} (h : w.ownsRow base e size v n xs) (hs : Sep v v2) (hgr : w.grownBy w' v2.ownBlock) : w'.ownsRow base e size v n xs := by
  refine ⟨h.1, ?_⟩
  rcases h.2 with h2 | ⟨g3, cap, cur, hv, hgb, hh, r⟩
  · exact .inl h2
  · have hlt := (Array.getElem?_eq_some_iff.1 hh).1
    refine .inr ⟨g3, cap, cur, hv, hgb, ?_, r⟩
    rw [hgr.block g3 hlt ?_]
    · exact hh
    · intro e
      exact hs g3 (by rw [hv]; rfl) e.symm
theorem own_apart2 {w w' : World} {b1 b2 : Nat} {e1 e2 : TypeId} {s1 s2 n1 n2 : Nat} {v1 v2 : Value} {xs1 xs2 : List Value} (h1 : w.ownsRow b1 e1 s1 v1 n1 xs1) (h2 : w.ownsRow b2 e2 s2 v2 n2 xs2) (hne : e1 ≠ e2) (hg : w.grownBy w' v2.ownBlock) : w'.ownsRow b1 e1 s1 v1 n1 xs1 :=
  own_sep h1 (fun g ha hb => by
    obtain ⟨c1, g1⟩ := own_obj h1 ha
    obtain ⟨c2, g2⟩ := own_obj h2 hb
    rw [g1] at g2
    simp at g2
    exact hne g2.2) hg
theorem Sep.grow {w : World} {base : Nat} {e : TypeId} {size n k : Nat} {v v' v2 : Value} {xs : List Value} (hs : Sep v v2) (h2 : w.ownsRow base e size v2 n xs) (hk : w.heap.size ≤ k) (hv : v'.ownBlock = v.ownBlock ∨ v'.ownBlock = some k) : Sep v' v2 := by
  intro g h1 h3
  rcases hv with hv | hv
  · exact hs g (hv ▸ h1) h3
  · rw [hv] at h1
    obtain rfl : k = g := by simpa using h1
    have := (h2.lt k h3).2
    omega
section
variable {w : World} {ops : Array Oper} {rest : List Oper} {o : Oper} {a : Act} {Q : Exit → Act → World → Prop}
theorem wpList_appF1x (hgd : o.guard = none) (s x : Operand)
    (ho : o.op = .call { callee := .builtin .append, args := #[s, x], argTypes := #[65, 65] })
    {base n c : Nat} {A : Option Addr} {l : List Fld} (hs : a.eval s = .slice A n c)
    (hown : w.ownsRow base 64 4 (.slice A n c) n (flc l)) {c2 : Nat} (f : Fld) {k : Nat} (hx : a.eval x = .slice (some ⟨k, 0, none⟩) 1 c2) (hk : k = w.heap.size)
    (hbd : n ≤ 1000000) (hbase : base ≤ w.heap.size)
    (h : ∀ A' c' w', w'.ownsRow base 64 4 (.slice A' (n + 1) c') (n + 1) (flc (l ++ [f])) → w.grownBy w' (Value.slice A n c).ownBlock →
      ((Value.slice A' (n + 1) c').ownBlock = (Value.slice A n c).ownBlock ∨ (Value.slice A' (n + 1) c').ownBlock = some (w.heap.size + 1)) → wpList Tryd.prog ops Q rest (a.put o.dst (.slice A' (n + 1) c')) w') :
    wpList Tryd.prog ops Q (o :: rest) a (w.alloc (.cells #[.int .i64 f.num, .int .i64 f.kind, .int .u64 f.val, .string f.text] 64)) := by
  subst hk
  refine wpList_app1 hgd s x _ ho elemF hs hown hx rfl (by intro u hu; simp at hu; rcases hu with rfl | rfl | rfl | rfl <;> rfl) (by unfold maxLen; omega) (by omega) hbase fun A' c' w' h1 h2 h3 => h A' c' w' ?_ h2 h3
  rw [show flc (l ++ [f]) = flc l ++ f.cells by simp [flc]]
  exact h1
end
set_option maxRecDepth 100000 in
set_option maxHeartbeats 1000000 in
theorem rtell_any (p : Pn) (deep : Nat) (hdeep : deep ≤ 8) (ht32 : p.type < 4294967296) (hv : VVOk p.v) (w : World)
    (hput : ∀ W, Below w.heap.size w W → Calls Tryd.prog 39 #[.slice p.adr p.sub.list.length p.cap, .int .i64 (deep + 1)] W (BPost (p.sub.put (deep + 1)) W)) :
    Calls Tryd.prog 64 #[p.agg, .int .i64 deep] w (BPost (p.tell deep) w) := by
  obtain ⟨q, hq⟩ : ∃ q, p.tell deep = q := ⟨_, rfl⟩
  rw [hq]
  unfold Pn.tell ptell at hq
  obtain ⟨key, type, null, ⟨k, n, s⟩, adr, cap, sub⟩ := p
  have hvn := hv.2.2
  unfold Pn.agg pbad at *
  simp only at *
  generalize sub.list.length = L at *
  have hE0 := (Below.refl w.heap.size w).alloc (Nat.le_refl _) (Obj.cells #[.string key, .int .u32 type, .bool null, .int .i64 k, .int .u64 n, .string s, .slice adr L cap] 75)
  by_cases hk : k = 8
  · subst hk
    rw [if_pos rfl, if_pos rfl] at hq
    by_cases hn : n = 0
    · subst hn
      by_cases hs : s.toList.isEmpty = true
      · rw [if_neg (by rw [hs]; decide)] at hq
        obtain ⟨sb, hsb⟩ : ∃ s, sub.put (deep + 1) = s := ⟨_, rfl⟩
        rw [hsb] at hq hput
        obtain ⟨sb, se⟩ := sb
        exact rtell_set key type null 8 0 s adr cap L deep hdeep ht32 w q sb se rfl rfl hs hput hq
      · have hse : s.toList.isEmpty = false := by simpa using hs
        rw [if_pos (by rw [hse]; decide)] at hq
        have HQ := Lib.hid hq.symm
        clear hq hput hs hv hvn
        go_enter Tryd.func64, Tryd.ntmps64
        go_wp2_with fail
        go_ret2
        exact bpost_err HQ.out hE0
    · have hb : ((n : Int) != 0) = true := by simp; omega
      rw [if_pos (by simp [hn])] at hq
      have HQ := Lib.hid hq.symm
      clear hq hput hn hv hvn
      go_enter Tryd.func64, Tryd.ntmps64
      go_wp2_with fail
      go_ret2
      exact bpost_err HQ.out hE0
  · rw [if_neg hk, if_neg hk] at hq
    by_cases hL : L = 0
    · rw [if_neg (by simp [hL])] at hq
      exact rtell_val key type null k n s adr cap L deep hdeep ht32 w q hvn hk hL hq
    · have hb : (k != 8) = true := by simpa using hk
      have hLp : 0 < L := by omega
      rw [if_pos (by simp; omega)] at hq
      have HQ := Lib.hid hq.symm
      clear hq hput hv hvn hk hL
      go_enter Tryd.func64, Tryd.ntmps64
      go_wp2_with fail
      go_ret2
      exact bpost_err HQ.out hE0
set_option maxRecDepth 100000 in
set_option maxHeartbeats 4000000 in
theorem rpput_step (l : Ps) (ih : ∀ p ∈ l.list, ∀ (deep : Nat) (A : Option Addr) (c : Nat) (w : World), deep ≤ 9 → p.sub.Ok → p.sub.list.length ≤ 9223372036854775807 → p.sub.At w w.heap.size A →
      Calls Tryd.prog 39 #[.slice A p.sub.list.length c, .int .i64 deep] w (BPost (p.sub.put deep) w))
    (deep : Nat) (A : Option Addr) (c : Nat) (w : World) (hdeep : deep ≤ 9) (hok : l.Ok) (hlen : l.list.length ≤ 9223372036854775807) (hat : l.At w w.heap.size A) :
    Calls Tryd.prog 39 #[.slice A l.list.length c, .int .i64 deep] w (BPost (l.put deep) w) := by
  obtain ⟨q, hq⟩ : ∃ q, l.put deep = q := ⟨_, rfl⟩
  rw [hq]
  rw [Ps.put_list] at hq
  by_cases hd8 : 8 < deep
  · have hd : decide ((8 : Int) < (deep : Int)) = true := decide_eq_true (by omega)
    rw [if_pos hd8] at hq
    have HQ := Lib.hid hq.symm
    clear ih hok hat hq hd8 hdeep
    generalize l.list.length = n at *
    go_enter Tryd.func39, Tryd.ntmps39
    go_wp2_with fail
    go_ret2
    exact bpost_err HQ.out (Below.refl _ _)
  rw [if_neg hd8] at hq
  have hd : decide ((8 : Int) < (deep : Int)) = false := decide_eq_false (by omega)
  have htell : ∀ p ∈ l.list, ∀ W, Below w.heap.size w W → Calls Tryd.prog 64 #[p.agg, .int .i64 deep] W (BPost (p.tell deep) W) := by
    intro p hp W hB
    obtain ⟨h1, h2, h3, h4⟩ := Ps.ok_mem hok p hp
    refine rtell_any p deep (by omega) h1 h2 W fun W2 hB2 => ?_
    have hB3 := bel_step hB hB2
    have := ih p hp (deep + 1) p.adr p.cap W2 (by omega) h4 h3 (((hat.sub hp).below hB3 (Nat.le_refl _)).more hB3.size)
    exact this
  have HTELL := Lib.hid htell
  have HR := Lib.hid hat.rd
  clear ih hok hat htell
  generalize l.list = ps at *
  obtain ⟨n, hn⟩ : ∃ n, ps.length = n := ⟨_, rfl⟩
  rw [hn] at hlen hq ⊢
  have HN := Lib.hid hn
  by_cases h32 : 32 < n
  · have h32d : decide ((32 : Int) < (n : Int)) = true := decide_eq_true (by omega)
    rw [if_pos h32] at hq
    have HQ := Lib.hid hq.symm
    clear hq h32 hd8 hdeep hn
    go_enter Tryd.func39, Tryd.ntmps39
    go_wp2_with fail
    go_ret2
    exact bpost_err HQ.out (Below.refl _ _)
  rw [if_neg h32] at hq
  have h32d : decide ((32 : Int) < (n : Int)) = false := decide_eq_false (by omega)
  have hn32 : n ≤ 32 := by omega
  have HQ : Hid ((if perrs (ps.map fun p => p.tell deep) = 0 then wput (pkl ps ++ pvl ps deep) else ([], perrs (ps.map fun p => p.tell deep))) = q) := Lib.hid hq
  clear hq h32 hd8 hn hdeep
  go_enter Tryd.func39, Tryd.ntmps39
  go_wp2_with fail
  have hE1 := World.ownsRow_nil w w.heap.size 64 4
  go_loopw [6, 7, 8] (fun ks vs i wr => ∃ (j : Nat) (A1 : Option Addr) (c1 : Nat) (A2 : Option Addr) (c2 : Nat), i = .int .i64 j ∧ ks = .slice A1 j c1 ∧ vs = .slice A2 j c2 ∧ j ≤ n ∧ perrs (ps.map fun p => p.tell deep) = perrs ((ps.drop j).map fun p => p.tell deep) ∧
    wr.ownsRow w.heap.size 64 4 (.slice A1 j c1) j (flc (pkl (ps.take j))) ∧ wr.ownsRow w.heap.size 64 4 (.slice A2 j c2) j (flc (pvl (ps.take j) deep)) ∧ Sep (.slice A1 j c1) (.slice A2 j c2) ∧ Below w.heap.size w wr) (fun _ _ i _ => n - (intOf i).toNat)
  case atStart => exact ⟨0, none, 0, none, 0, rfl, rfl, rfl, Nat.zero_le _, rfl, hE1, hE1, Sep.nil _, Below.refl _ _⟩
  case round =>
    clear hE1
    obtain ⟨j, A1, c1, A2, c2, rfl, rfl, rfl, hj, he, ho1, ho2, hsep, hB⟩ := hrel
    have hs := hB.size
    have HE := Lib.hid he
    have HSEP := Lib.hid hsep
    clear he hsep
    by_cases hlt : j < n
    · obtain ⟨p, hp⟩ : ∃ p, ps[j]? = some p := ⟨_, List.getElem?_eq_getElem (by rw [HN.out]; exact hlt)⟩
      have hcell := HTELL.out p (List.mem_of_getElem? hp)
      obtain ⟨b1, o1, rfl, hb1, hpa⟩ := prop_at (HR.out.below hB (Nat.le_refl _)) hp
      obtain ⟨g0, g1, g2, g3, g4, g5, g6⟩ := hpa
      have HT1 : Hid (pkl (ps.take (j + 1)) = pkl (ps.take j) ++ [⟨1, 2, 0, p.key⟩]) := Lib.hid (by rw [List.take_add_one, hp]; simp [pkl, pkfl])
      have HT2 : Hid (pvl (ps.take (j + 1)) deep = pvl (ps.take j) deep ++ [⟨2, 2, 0, ⟨(p.tell deep).1.toArray⟩⟩]) := Lib.hid (by rw [List.take_add_one, hp]; simp [pvl, pvfl])
      have HD : Hid (perrs (ps.map fun p => p.tell deep) = if (p.tell deep).2 = 0 then perrs ((ps.drop (j + 1)).map fun p => p.tell deep) else (p.tell deep).2) := Lib.hid (by rw [HE.out, drop_cons hp]; rfl)
      clear hp HE
      unfold Pn.agg BPost at hcell
      obtain ⟨tq, htq⟩ : ∃ t, p.tell deep = t := ⟨_, rfl⟩
      rw [htq] at hcell HT2 HD
      obtain ⟨cb, ce⟩ := tq
      simp only at hcell HT2 HD
      clear htq
      obtain ⟨key, type, null, ⟨pk, pn, pss⟩, adr, cap, sub⟩ := p
      simp only at hcell g0 g1 g2 g3 g4 g5 g6 HT1
      generalize sub.list.length = SL at *
      go_wp2_with fail
      refine (hcell _ hB).mono ?_
      rintro e w1 ⟨A3, c3, rfl, ho3, hB1⟩
      have ho1b := own_kept ho1 hB1 (Nat.le_refl _)
      have ho2b := own_kept ho2 hB1 (Nat.le_refl _)
      have hB2 := bel_step hB hB1
      have hs1 := hB2.size
      have g0b := (hB2.cell (p := ⟨b1, o1 + j * 7, none⟩) hb1).symm
      clear hcell ho1 ho2
      by_cases h0 : ce = 0
      · subst h0
        have HD2 : Hid (perrs (ps.map fun p => p.tell deep) = perrs ((ps.drop (j + 1)).map fun p => p.tell deep)) := Lib.hid (by have := HD.out; rwa [if_pos rfl] at this)
        have g0c : w1.cell? ⟨b1, o1 + j * 7, none⟩ = some (.string key) := by rw [← g0b, ← g0]; exact (hB.cell (p := ⟨b1, o1 + j * 7, none⟩) hb1).symm
        have ho3b := own_base ho3 hs
        have hcl : cb.length = cb.length := rfl
        clear HD g0b g0 g1 g2 g3 g4 g5 g6 hB1 hB hs ho3 hcl
        go_wp2_with (at_builtin; first
          | (refine wpList_appF1x rfl _ _ rfl rfl ho1b ⟨1, 2, 0, key⟩ rfl rfl (by omega) hs1 ?_; intro A5 c5 w5 ho5 hg5 hv5; have hB5 := own_grown hB2 ho1b hs1 hg5; have ho2c := own_sep ho2b HSEP.out.symm hg5; have hsep5 := Lib.hid (HSEP.out.grow ho2b (Nat.le_succ _) hv5); have hst := strB (Rd.of_own (own_apart2 ho3b ho1b (by decide) hg5)) rfl c3; have hs5 := hB5.size; clear hv5 hg5)
          | (refine wpList_appF1x rfl _ _ rfl rfl ho2c ⟨2, 2, 0, ⟨cb.toArray⟩⟩ rfl rfl (by omega) hs5 ?_; intro A6 c6 w6 ho6 hg6 hv6; have hB6 := own_grown hB5 ho2c hs5 hg6; have ho5c := own_sep ho5 hsep5.out hg6; have hsep6 := Lib.hid (hsep5.out.symm.grow ho5 (Nat.le_succ _) hv6); clear hv6 hg6))
        go_roundw
        case rel => exact ⟨j + 1, A5, c5, A6, c6, by go_num, rfl, rfl, by omega, HD2.out, by rw [HT1.out]; exact ho5c, by rw [HT2.out]; exact ho6, hsep6.out.symm, hB6⟩
        case measure => simp [intOf]; omega
      · have hbe : (ce != 0) = true := by simpa using h0
        have hq : q = ([], ce) := by
          have h1 := HD.out
          rw [if_neg h0] at h1
          rw [← HQ.out, h1, if_neg h0]
        have HQ2 := Lib.hid hq
        clear ho3 h0 hq HD g0b
        go_wp2_with fail
        go_ret2
        exact bpost_err HQ2.out hB2
    · obtain rfl : j = n := by omega
      have hz : perrs (ps.map fun p => p.tell deep) = 0 := by rw [HE.out, List.drop_eq_nil_of_le (by rw [HN.out]; exact Nat.le_refl _)]; rfl
      rw [List.take_of_length_le (by rw [HN.out]; exact Nat.le_refl _)] at ho1 ho2
      have hq : wput (pkl ps ++ pvl ps deep) = q := by rw [← HQ.out, if_pos hz]
      have HQ2 := Lib.hid hq
      have hvl : (pvl ps deep).length = j := by simp [pvl, HN.out]
      have HVL := Lib.hid hvl
      obtain ⟨T, hT⟩ : ∃ T, j + j = T := ⟨_, rfl⟩
      have hTb : T ≤ 100 := by omega
      have HTT := Lib.hid hT
      clear hq hz HE hlt hT hvl
      go_wp2_with (at_builtin; refine wpList_appF rfl _ _ rfl rfl ho1 rfl (Rd.of_own ho2) HVL.out T HTT.out (by omega) hs ?_; intro A9 c9 w9 ho9 hg9; have hW9 := own_grown hB ho1 hs hg9; clear hg9 ho1)
      have hpl := rplayd_any (pkl ps ++ pvl ps deep) A9 c9 (by rw [List.length_append, HVL.out]; simp [pkl, HN.out]; omega) (pput_flds ps deep) w9 (Rd.of_own ho9)
      rw [HQ2.out, show (pkl ps ++ pvl ps deep).length = T by rw [List.length_append, HVL.out, ← HTT.out]; simp [pkl, HN.out]] at hpl
      refine hpl.mono ?_
      rintro e w6 ⟨A6, c6, rfl, ho6, hB6⟩
      clear hpl
      go_wp2_with fail
      go_ret2
      exact ⟨A6, c6, rfl, own_base ho6 hW9.size, bel_step hW9 hB6⟩
theorem rpput_any : ∀ (l : Ps) (deep : Nat) (A : Option Addr) (c : Nat) (w : World), deep ≤ 9 → l.Ok → l.list.length ≤ 9223372036854775807 → l.At w w.heap.size A →
    Calls Tryd.prog 39 #[.slice A l.list.length c, .int .i64 deep] w (BPost (l.put deep) w) :=
  Ps.ind fun l ih deep A c w h1 h2 h3 h4 => rpput_step l ih deep A c w h1 h2 h3 h4
set_option maxRecDepth 100000 in
theorem rpPut_any (l : Ps) (A : Option Addr) (c : Nat) (w : World) (hok : l.Ok) (hlen : l.list.length ≤ 9223372036854775807) (hat : l.At w w.heap.size A) :
    Calls Tryd.prog 17 #[.slice A l.list.length c] w (BPost (l.put 1) w) := by
  have h : Calls Tryd.prog 39 #[.slice A l.list.length c, .int .i64 1] w (BPost (l.put 1) w) := rpput_any l 1 A c w (by omega) hok hlen hat
  generalize l.put 1 = q at *
  generalize l.list.length = n at *
  clear hok hat
  go_enter Tryd.func17, Tryd.ntmps17
  go_wp2_with fail
  refine h.mono ?_
  rintro e w1 ⟨A1, c1, rfl, ho, hB⟩
  go_wp2_with fail
  go_ret2
  exact ⟨A1, c1, rfl, ho, hB⟩
end Go.Proofs.YtanfnjlndckhkaaDoor

/- WALKS: props.Depth, crierref07.Depth -/
namespace Go.Proofs.YtanfnjlndckhkaaDoor
open Go.RowKit Plain

theorem drop_cons7 {α : Type} {l : List α} {j : Nat} {f : α} (h : l[j]? = some f) : l.drop j = f :: l.drop (j + 1) := by
  obtain ⟨hlt, rfl⟩ := List.getElem?_eq_some_iff.1 h
  rw [List.drop_eq_getElem_cons hlt]
theorem mx3 (d s : Nat) : Value.int .i64 (if (if (d : Int) < 2 then 2 else (d : Int)) < 1 + (s : Int) then 1 + (s : Int) else if (d : Int) < 2 then 2 else (d : Int)) = Value.int .i64 ((max d (max 2 (1 + s)) : Nat) : Int) := by
  congr 1
  split <;> split at * <;> omega
theorem mx2 (d s : Nat) : Value.int .i64 (if (d : Int) < 1 + (if 1 < (s : Int) then (s : Int) else 1) then 1 + (if 1 < (s : Int) then (s : Int) else 1) else (d : Int)) = Value.int .i64 ((max d (max 2 (1 + s)) : Nat) : Int) := by
  congr 1
  split <;> split at * <;> omega
theorem pdepth_pos {ps : List Pn} (h : ¬ ps.length = 0) : 1 ≤ pdeep ps := by
  cases ps with
  | nil => exact absurd rfl h
  | cons p ps => have := pdeep_mem (l := p :: ps) p (by simp); unfold pone at this; split at this <;> omega
set_option maxRecDepth 100000 in
set_option maxHeartbeats 2000000 in
theorem depth_step (l : Ps) (ih : ∀ p ∈ l.list, ∀ (A : Option Addr) (c : Nat) (w : World), p.sub.depth ≤ 4000000 → p.sub.Ok → p.sub.list.length ≤ 9223372036854775807 → p.sub.At w w.heap.size A →
      Calls Tryd.prog 18 #[.slice A p.sub.list.length c] w fun e w' => e = .returned (.int .i64 p.sub.depth) ∧ Below w.heap.size w w')
    (A : Option Addr) (c : Nat) (w : World) (hd : l.depth ≤ 4000000) (hok : l.Ok) (hlen : l.list.length ≤ 9223372036854775807) (hat : l.At w w.heap.size A) :
    Calls Tryd.prog 18 #[.slice A l.list.length c] w fun e w' => e = .returned (.int .i64 l.depth) ∧ Below w.heap.size w w' := by
  rw [Ps.depth_list] at hd ⊢
  have hrec : ∀ p ∈ l.list, p.v.k = 8 → ∀ W, Below w.heap.size w W → p.sub.depth ≤ 4000000 ∧ Calls Tryd.prog 18 #[.slice p.adr p.sub.list.length p.cap] W fun e w' => e = .returned (.int .i64 p.sub.depth) ∧ Below W.heap.size W w' := by
    intro p hp hk W hB
    obtain ⟨h1, h2, h3, h4⟩ := Ps.ok_mem hok p hp
    have hm := pdeep_mem p hp
    unfold pone at hm
    rw [if_pos hk] at hm
    exact ⟨by omega, ih p hp p.adr p.cap W (by omega) h4 h3 (((hat.sub hp).below hB (Nat.le_refl _)).more hB.size)⟩
  have HREC := Lib.hid hrec
  have HR := Lib.hid hat.rd
  clear ih hok hat hrec
  generalize l.list = ps at *
  obtain ⟨n, hn⟩ : ∃ n, ps.length = n := ⟨_, rfl⟩
  obtain ⟨D, hD⟩ : ∃ D, pdeep ps = D := ⟨_, rfl⟩
  rw [hn] at hlen ⊢
  rw [hD] at hd ⊢
  have HN := Lib.hid hn
  have HD := Lib.hid hD
  by_cases h0 : n = 0
  · subst h0
    have hps : ps = [] := List.eq_nil_of_length_eq_zero hn
    have hD0 : D = 0 := by rw [← hD, hps]; rfl
    subst hD0
    clear hn hD hps
    go_enter Tryd.func18, Tryd.ntmps18
    go_wp2_with fail
    go_ret
    exact ⟨rfl, Below.refl _ _⟩
  · have hb0 : ((n : Int) == 0) = false := by simp; omega
    have hD1 : 1 ≤ D := by
      rw [← hD]
      cases ps with
      | nil => exact absurd hn.symm h0
      | cons p ps => have := pdeep_mem (l := p :: ps) p (by simp); unfold pone at this; split at this <;> omega
    clear hn hD h0
    go_enter Tryd.func18, Tryd.ntmps18
    go_wp2_with fail
    go_loopw [3, 11] (fun m i wr => ∃ (j d : Nat), i = .int .i64 j ∧ m = .int .i64 d ∧ j ≤ n ∧ 1 ≤ d ∧ d ≤ D ∧ max d (pdeep (ps.drop j)) = D ∧ Below w.heap.size w wr) (fun _ i _ => n - (intOf i).toNat)
    case atStart => exact ⟨0, 1, rfl, rfl, Nat.zero_le _, Nat.le_refl _, hD1, by have := HD.out; rw [List.drop_zero]; omega, Below.refl _ _⟩
    case round =>
      obtain ⟨j, d, rfl, rfl, hj, hd1, hdD, hmx, hB⟩ := hrel
      have hs := hB.size
      have HMX := Lib.hid hmx
      clear hmx
      by_cases hlt : j < n
      · obtain ⟨p, hp⟩ : ∃ p, ps[j]? = some p := ⟨_, List.getElem?_eq_getElem (by rw [HN.out]; exact hlt)⟩
        have hrec := HREC.out p (List.mem_of_getElem? hp)
        obtain ⟨b1, o1, rfl, hb1, hpa⟩ := prop_at (HR.out.below hB (Nat.le_refl _)) hp
        obtain ⟨g0, g1, g2, g3, g4, g5, g6⟩ := hpa
        have HS : Hid (max d (max (pone p.v p.sub.depth) (pdeep (ps.drop (j + 1)))) = D) := Lib.hid (by have := HMX.out; rw [drop_cons7 hp, pdeep] at this; exact this)
        clear hp HMX
        obtain ⟨key, type, null, ⟨pk, pn, pss⟩, adr, cap, sub⟩ := p
        simp only at hrec g0 g1 g2 g3 g4 g5 g6 HS
        unfold pone at HS
        simp only at HS
        have hBa := hB.alloc hs (Obj.cells #[.string key, .int .u32 type, .bool null, .int .i64 pk, .int .u64 pn, .string pss, .slice adr sub.list.length cap] 75)
        by_cases hk : pk = 8
        · subst hk
          obtain ⟨hsd, hcall⟩ := hrec rfl _ hBa
          have HS2 : Hid (max d (max (1 + max 1 sub.depth) (pdeep (ps.drop (j + 1)))) = D) := Lib.hid (by have := HS.out; rwa [if_pos rfl] at this)
          clear HS hrec
          generalize sub.list.length = SL at *
          generalize sub.depth = sd at *
          go_wp2_with fail
          refine hcall.mono ?_
          rintro e w1 ⟨rfl, hB1⟩
          have hB2 := bel_step hB (((Below.refl _ wr).alloc (Nat.le_refl _) _).trans (hB1.mono (by simp)))
          clear hcall hB1 hBa g0 g1 g2 g3 g4 g5 g6
          go_wp2_with fail
          go_roundw
          case rel => exact ⟨j + 1, max d (max 2 (1 + sd)), by go_num, mx3 d sd, by omega, by omega, by have := HS2.out; omega, by have := HS2.out; omega, hB2⟩
          case measure => simp [intOf]; omega
        · have hbk : (pk == 8) = false := by simpa using hk
          have HS2 : Hid (max d (max 1 (pdeep (ps.drop (j + 1)))) = D) := Lib.hid (by have := HS.out; rwa [if_neg hk] at this)
          clear HS hrec hk
          generalize sub.list.length = SL at *
          go_wp2_with fail
          go_roundw
          case rel => exact ⟨j + 1, d, by go_num, rfl, by omega, hd1, hdD, by have := HS2.out; omega, hBa⟩
          case measure => simp [intOf]; omega
      · obtain rfl : j = n := by omega
        have hdd : d = D := by
          have := HMX.out
          rw [List.drop_eq_nil_of_le (by rw [HN.out]; exact Nat.le_refl _), pdeep] at this
          omega
        subst hdd
        clear hlt HMX
        go_wp2_with fail
        go_ret
        exact ⟨rfl, hB⟩
theorem depth_any : ∀ (l : Ps) (A : Option Addr) (c : Nat) (w : World), l.depth ≤ 4000000 → l.Ok → l.list.length ≤ 9223372036854775807 → l.At w w.heap.size A →
    Calls Tryd.prog 18 #[.slice A l.list.length c] w fun e w' => e = .returned (.int .i64 l.depth) ∧ Below w.heap.size w w' :=
  Ps.ind fun l ih A c w h1 h2 h3 h4 => depth_step l ih A c w h1 h2 h3 h4
set_option maxRecDepth 100000 in
set_option maxHeartbeats 2000000 in
theorem rdepth_step (l : Ps) (ih : ∀ p ∈ l.list, ∀ (A : Option Addr) (c : Nat) (w : World), p.sub.depth ≤ 4000000 → p.sub.Ok → p.sub.list.length ≤ 9223372036854775807 → p.sub.At w w.heap.size A →
      Calls Tryd.prog 19 #[.slice A p.sub.list.length c] w fun e w' => e = .returned (.int .i64 p.sub.depth) ∧ Below w.heap.size w w')
    (A : Option Addr) (c : Nat) (w : World) (hd : l.depth ≤ 4000000) (hok : l.Ok) (hlen : l.list.length ≤ 9223372036854775807) (hat : l.At w w.heap.size A) :
    Calls Tryd.prog 19 #[.slice A l.list.length c] w fun e w' => e = .returned (.int .i64 l.depth) ∧ Below w.heap.size w w' := by
  rw [Ps.depth_list] at hd ⊢
  have hrec : ∀ p ∈ l.list, p.v.k = 8 → ∀ W, Below w.heap.size w W → p.sub.depth ≤ 4000000 ∧ Calls Tryd.prog 19 #[.slice p.adr p.sub.list.length p.cap] W fun e w' => e = .returned (.int .i64 p.sub.depth) ∧ Below W.heap.size W w' := by
    intro p hp hk W hB
    obtain ⟨h1, h2, h3, h4⟩ := Ps.ok_mem hok p hp
    have hm := pdeep_mem p hp
    unfold pone at hm
    rw [if_pos hk] at hm
    exact ⟨by omega, ih p hp p.adr p.cap W (by omega) h4 h3 (((hat.sub hp).below hB (Nat.le_refl _)).more hB.size)⟩
  have HREC := Lib.hid hrec
  have HR := Lib.hid hat.rd
  clear ih hok hat hrec
  generalize l.list = ps at *
  obtain ⟨n, hn⟩ : ∃ n, ps.length = n := ⟨_, rfl⟩
  obtain ⟨D, hD⟩ : ∃ D, pdeep ps = D := ⟨_, rfl⟩
  rw [hn] at hlen ⊢
  rw [hD] at hd ⊢
  have HN := Lib.hid hn
  have HD := Lib.hid hD
  by_cases h0 : n = 0
  · subst h0
    have hps : ps = [] := List.eq_nil_of_length_eq_zero hn
    have hD0 : D = 0 := by rw [← hD, hps]; rfl
    subst hD0
    clear hn hD hps
    go_enter Tryd.func19, Tryd.ntmps19
    go_wp2_with fail
    go_ret
    exact ⟨rfl, Below.refl _ _⟩
  · have hb0 : ((n : Int) == 0) = false := by simp; omega
    have hD1 : 1 ≤ D := by
      rw [← hD]
      cases ps with
      | nil => exact absurd hn.symm h0
      | cons p ps => have := pdeep_mem (l := p :: ps) p (by simp); unfold pone at this; split at this <;> omega
    clear hn hD h0
    go_enter Tryd.func19, Tryd.ntmps19
    go_wp2_with fail
    go_loopw [3, 4] (fun m i wr => ∃ (j d : Nat), i = .int .i64 j ∧ m = .int .i64 d ∧ j ≤ n ∧ 1 ≤ d ∧ d ≤ D ∧ max d (pdeep (ps.drop j)) = D ∧ Below w.heap.size w wr) (fun _ i _ => n - (intOf i).toNat)
    case atStart => exact ⟨0, 1, rfl, rfl, Nat.zero_le _, Nat.le_refl _, hD1, by have := HD.out; rw [List.drop_zero]; omega, Below.refl _ _⟩
    case round =>
      obtain ⟨j, d, rfl, rfl, hj, hd1, hdD, hmx, hB⟩ := hrel
      have hs := hB.size
      have HMX := Lib.hid hmx
      clear hmx
      by_cases hlt : j < n
      · obtain ⟨p, hp⟩ : ∃ p, ps[j]? = some p := ⟨_, List.getElem?_eq_getElem (by rw [HN.out]; exact hlt)⟩
        have hrec := HREC.out p (List.mem_of_getElem? hp)
        obtain ⟨b1, o1, rfl, hb1, hpa⟩ := prop_at (HR.out.below hB (Nat.le_refl _)) hp
        obtain ⟨g0, g1, g2, g3, g4, g5, g6⟩ := hpa
        have HS : Hid (max d (max (pone p.v p.sub.depth) (pdeep (ps.drop (j + 1)))) = D) := Lib.hid (by have := HMX.out; rw [drop_cons7 hp, pdeep] at this; exact this)
        clear hp HMX
        obtain ⟨key, type, null, ⟨pk, pn, pss⟩, adr, cap, sub⟩ := p
        simp only at hrec g0 g1 g2 g3 g4 g5 g6 HS
        unfold pone at HS
        simp only at HS
        by_cases hk : pk = 8
        · subst hk
          obtain ⟨hsd, hcall⟩ := hrec rfl _ hB
          have HS2 : Hid (max d (max (1 + max 1 sub.depth) (pdeep (ps.drop (j + 1)))) = D) := Lib.hid (by have := HS.out; rwa [if_pos rfl] at this)
          clear HS hrec
          generalize sub.list.length = SL at *
          generalize sub.depth = sd at *
          go_wp2_with fail
          refine hcall.mono ?_
          rintro e w1 ⟨rfl, hB1⟩
          have hB2 := bel_step hB hB1
          clear hcall hB1 g0 g1 g2 g3 g4 g5 g6
          go_wp2_with fail
          go_roundw
          case rel => exact ⟨j + 1, max d (max 2 (1 + sd)), by go_num, mx2 d sd, by omega, by omega, by have := HS2.out; omega, by have := HS2.out; omega, hB2⟩
          case measure => simp [intOf]; omega
        · have hbk : (pk == 8) = false := by simpa using hk
          have HS2 : Hid (max d (max 1 (pdeep (ps.drop (j + 1)))) = D) := Lib.hid (by have := HS.out; rwa [if_neg hk] at this)
          clear HS hrec hk
          generalize sub.list.length = SL at *
          go_wp2_with fail
          go_roundw
          case rel => exact ⟨j + 1, d, by go_num, rfl, by omega, hd1, hdD, by have := HS2.out; omega, hB⟩
          case measure => simp [intOf]; omega
      · obtain rfl : j = n := by omega
        have hdd : d = D := by
          have := HMX.out
          rw [List.drop_eq_nil_of_le (by rw [HN.out]; exact Nat.le_refl _), pdeep] at this
          omega
        subst hdd
        clear hlt HMX
        go_wp2_with fail
        go_ret
        exact ⟨rfl, hB⟩
theorem rdepth_any : ∀ (l : Ps) (A : Option Addr) (c : Nat) (w : World), l.depth ≤ 4000000 → l.Ok → l.list.length ≤ 9223372036854775807 → l.At w w.heap.size A →
    Calls Tryd.prog 19 #[.slice A l.list.length c] w fun e w' => e = .returned (.int .i64 l.depth) ∧ Below w.heap.size w w' :=
  Ps.ind fun l ih A c w h1 h2 h3 h4 => rdepth_step l ih A c w h1 h2 h3 h4
end Go.Proofs.YtanfnjlndckhkaaDoor

/- LAW WALK: awake; PropsPuts -/
namespace Go.Proofs.YtanfnjlndckhkaaDoor
open Go.RowKit Plain

def psx : Ps := .cons ⟨#[97]⟩ 0 false ⟨1, 5, ⟨#[]⟩⟩ none 0 .nil .nil
theorem psx_ok : psx.Ok := ⟨by omega, ⟨by simp, by simp, by simp⟩, by simp [Ps.list], trivial, trivial⟩
theorem psx_put : psx.put 1 = ([10, 1, 97, 18, 2, 24, 5], 0) := by decide +kernel
set_option maxRecDepth 100000 in
set_option maxHeartbeats 2000000 in
theorem awake7_any (w : World) (hK : Kinds w) : Calls Tryd.prog 20 #[] w fun e w' => e = .returned (.bool true) ∧ Below w.heap.size w w' := by
  go_enter Tryd.func20, Tryd.ntmps20
  go_wp2_with fail
  have hE : Below w.heap.size w (w.alloc (.cells #[.string ⟨#[97]⟩, .int .u32 0, .bool false, .int .i64 1, .int .u64 5, .string ⟨#[]⟩, .slice none 0 0] 75)) := (Below.refl _ w).alloc (Nat.le_refl _) _
  have hA : psx.At (w.alloc (.cells #[.string ⟨#[97]⟩, .int .u32 0, .bool false, .int .i64 1, .int .u64 5, .string ⟨#[]⟩, .slice none 0 0] 75)) (w.alloc (.cells #[.string ⟨#[97]⟩, .int .u32 0, .bool false, .int .i64 1, .int .u64 5, .string ⟨#[]⟩, .slice none 0 0] 75)).heap.size (some ⟨w.heap.size, 0, none⟩) :=
    ⟨by have := Rd.cells w #[.string ⟨#[97]⟩, .int .u32 0, .bool false, .int .i64 1, .int .u64 5, .string ⟨#[]⟩, .slice none 0 0] 75; rw [World.size_alloc]; exact this, Rd.nil, trivial, trivial⟩
  have hput := pPut_any psx _ 1 _ psx_ok (by simp [psx, Ps.list]) hA (hK.below hE hK.pos)
  rw [psx_put] at hput
  unfold BPost at hput
  simp only [List.length_cons, List.length_nil] at hput
  clear hA
  refine Calls.mono (show Calls Tryd.prog 16 #[.slice (some ⟨w.heap.size, 0, none⟩) 1 1] _ _ from hput) ?_
  rintro e w1 ⟨A, c, rfl, ho, hB⟩
  have hst := strB (Rd.of_own ho) rfl c
  simp only [List.length_cons, List.length_nil] at hst
  clear hput ho
  go_wp2_with fail
  go_ret
  exact ⟨rfl, bel_step hE hB⟩
set_option maxRecDepth 100000 in
set_option maxHeartbeats 2000000 in
theorem pputs_any (l : Ps) (A : Option Addr) (c : Nat) (w : World) (hd : l.depth ≤ 4000000) (hok : l.Ok) (hlen : l.list.length ≤ 9223372036854775807) (hat : l.At w w.heap.size A) (hK : Kinds w) :
    Calls Tryd.prog 4 #[.slice A l.list.length c] w fun e w' => e = .returned (.bool true) ∧ Below w.heap.size w w' := by
  have h1 := fun W (hB : Below w.heap.size w W) => pPut_any l A c W hok hlen ((hat.below hB (Nat.le_refl _)).more hB.size) (hK.below hB hK.pos)
  have h2 := fun W (hB : Below w.heap.size w W) => rpPut_any l A c W hok hlen ((hat.below hB (Nat.le_refl _)).more hB.size)
  have h3 := fun W (hB : Below w.heap.size w W) => depth_any l A c W hd hok hlen ((hat.below hB (Nat.le_refl _)).more hB.size)
  have h4 := fun W (hB : Below w.heap.size w W) => rdepth_any l A c W hd hok hlen ((hat.below hB (Nat.le_refl _)).more hB.size)
  obtain ⟨q, hq⟩ : ∃ q, l.put 1 = q := ⟨_, rfl⟩
  rw [hq] at h1 h2
  obtain ⟨L, er⟩ := q
  unfold BPost at h1 h2
  simp only at h1 h2 ⊢
  generalize l.list.length = n at *
  generalize l.depth = d at *
  have HK := Lib.hid hK
  obtain ⟨N, hN⟩ : ∃ N, L.length = N := ⟨_, rfl⟩
  rw [hN] at h1 h2
  have HN := Lib.hid hN
  clear hd hok hq hK hN hat
  go_enter Tryd.func4, Tryd.ntmps4
  go_wp2_with fail
  refine (h1 w (Below.refl _ _)).mono ?_
  rintro e w1 ⟨B1, d1, rfl, ho1, hW1⟩
  clear h1
  go_wp2_with fail
  refine (h2 w1 hW1).mono ?_
  rintro e w2 ⟨B2, d2, rfl, ho2, hB2⟩
  have hW2 := bel_step hW1 hB2
  have hs1 := strB ((Rd.of_own ho1).below hB2 (Nat.le_refl _)) HN.out d1
  have hs2 := strB (Rd.of_own ho2) HN.out d2
  clear h2 ho1 ho2 hB2 hW1
  go_wp2_with fail
  refine (h3 w2 hW2).mono ?_
  rintro e w3 ⟨rfl, hB3⟩
  have hW3 := bel_step hW2 hB3
  clear h3 hs1 hs2 hB3
  go_wp2_with fail
  refine (h4 w3 hW3).mono ?_
  rintro e w4 ⟨rfl, hB4⟩
  have hW4 := bel_step hW3 hB4
  clear h4 hB4
  go_wp2_with fail
  refine (awake7_any w4 (HK.out.below hW4 HK.out.pos)).mono ?_
  rintro e w5 ⟨rfl, hB5⟩
  go_wp2_with fail
  go_ret
  exact ⟨rfl, bel_step hW4 hB5⟩
end Go.Proofs.YtanfnjlndckhkaaDoor

/- LAW WALK: PropsReads -/
namespace Go.Proofs.YtanfnjlndckhkaaDoor
open Go.RowKit Plain

theorem pOf_any (b : List UInt8) (A : Option Addr) (n c : Nat) (hn : b.length = n) (hnc : n ≤ c) (hcm : c ≤ 9223372036854775807) (w : World) (hr : Rd w w.heap.size A (bcl b)) (hK : Kinds w) :
    Calls Tryd.prog 27 #[.slice A n c] w (POPost (pofn 8 b) w) := by
  have h := pof_any 8 1 rfl b A n c w hn hnc hcm hr hK
  unfold POPost at h ⊢
  obtain ⟨q, hq⟩ : ∃ q, pofn 8 b = q := ⟨_, rfl⟩
  rw [hq] at h ⊢
  clear hq hn hr hK
  go_enter Tryd.func27, Tryd.ntmps27
  go_wp2_with fail
  refine h.mono ?_
  rintro e w1 ⟨l1, A1, c1, rfl, h2⟩
  go_wp2_with fail
  go_ret2
  exact ⟨l1, A1, c1, rfl, h2⟩
theorem rOf_any (b : List UInt8) (A : Option Addr) (n c : Nat) (hn : b.length = n) (hnc : n ≤ c) (hbl : b.length ≤ 140737488355328) (w : World) (hr : Rd w w.heap.size A (bcl b)) :
    Calls Tryd.prog 28 #[.slice A n c] w (POPost (pofn 8 b) w) := by
  have h := rpof_any 8 1 rfl b A n c w hn hnc hbl hr
  unfold POPost at h ⊢
  obtain ⟨q, hq⟩ : ∃ q, pofn 8 b = q := ⟨_, rfl⟩
  rw [hq] at h ⊢
  clear hq hn hr hbl
  go_enter Tryd.func28, Tryd.ntmps28
  go_wp2_with fail
  refine h.mono ?_
  rintro e w1 ⟨l1, A1, c1, rfl, h2⟩
  go_wp2_with fail
  go_ret2
  exact ⟨l1, A1, c1, rfl, h2⟩
set_option maxRecDepth 100000 in
set_option maxHeartbeats 2000000 in
theorem preads_any (b : List UInt8) (A : Option Addr) (n c : Nat) (hn : b.length = n) (hnc : n ≤ c) (hcm : c ≤ 9223372036854775807) (hbl : b.length ≤ 140737488355328) (w : World) (hr : Rd w w.heap.size A (bcl b)) (hK : Kinds w) :
    Calls Tryd.prog 8 #[.slice A n c] w fun e w' => e = .returned (.bool true) ∧ Below w.heap.size w w' := by
  have h1 := pOf_any b A n c hn hnc hcm w hr hK
  have h2 := fun W (hB : Below w.heap.size w W) => rOf_any b A n c hn hnc hbl W ((hr.below hB (Nat.le_refl _)).more hB.size)
  obtain ⟨q, hq⟩ : ∃ q, pofn 8 b = q := ⟨_, rfl⟩
  rw [hq] at h1 h2
  unfold POPost at h1 h2
  have HK := Lib.hid hK
  obtain ⟨ql, qe⟩ := q
  simp only at h1 h2
  clear hq hr hK hn hbl
  go_enter Tryd.func8, Tryd.ntmps8
  go_wp2_with fail
  refine h1.mono ?_
  rintro e w1 ⟨l1, A1, c1, rfl, hat1, hok1, hlen1, hst1, hW1⟩
  go_wp2_with fail
  refine (h2 _ hW1).mono ?_
  rintro e w2 ⟨l2, A2, c2, rfl, hat2, hok2, hlen2, hst2, hB2⟩
  have hW2 := bel_step hW1 hB2
  have hs := rsame_any l1 l2 A1 A2 c1 c2 w2 (by omega) (by omega) hok1 hok2 ((hat1.at_).below hB2 (Nat.le_refl _) |>.more hB2.size) hat2.at_
  rw [Ps.same_of_strip (hst1.trans hst2.symm)] at hs
  clear h1 h2 hat1 hat2 hok1 hok2 hst1 hst2 hB2 hW1
  generalize l1.list.length = n1 at *
  generalize l2.list.length = n2 at *
  go_wp2_with fail
  refine hs.mono ?_
  rintro e w3 ⟨rfl, hd3⟩
  have hd4 : Below w2.heap.size w2 w3 := (by obtain ⟨k, rfl⟩ := hd3; exact below_drewN (Below.refl _ _) k)
  have hW3 := bel_step hW2 hd4
  clear hs hd3 hd4
  go_wp2_with fail
  refine (awake7_any w3 (HK.out.below hW3 HK.out.pos)).mono ?_
  rintro e w4 ⟨rfl, hB4⟩
  go_wp2_with fail
  go_ret
  exact ⟨rfl, bel_step hW3 hB4⟩
end Go.Proofs.YtanfnjlndckhkaaDoor
