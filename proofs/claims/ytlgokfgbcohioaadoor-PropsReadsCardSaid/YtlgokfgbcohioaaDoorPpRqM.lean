/- WALKS: crierref07.bytesOf, put -/
import Derived.Test.YtlgokfgbcohioaaDoorPpRtM
import Derived.Test.YtlgokfgbcohioaaDoorPpQM
namespace Go.Proofs.YtlgokfgbcohioaaDoor
open Go.RowKit Plain

/-- two rows do not share a block -/
def Sep (v1 v2 : Value) : Prop := ∀ g, v1.ownBlock = some g → v2.ownBlock ≠ some g
theorem Sep.symm {v1 v2 : Value} (h : Sep v1 v2) : Sep v2 v1 := fun g h1 h2 => h g h2 h1
theorem Sep.nil (v : Value) : Sep (.slice none 0 0) v := fun g h => by simp [Value.ownBlock] at h
theorem own_sep {w w' : World} {base : Nat} {e : TypeId} {size n : Nat} {v v2 : Value} {xs : List Value} (h : w.ownsRow base e size v n xs) (hs : Sep v v2) (hgr : w.grownBy w' v2.ownBlock) : w'.ownsRow base e size v n xs := by
  refine ⟨h.1, ?_⟩
  rcases h.2 with h2 | ⟨g3, cap, cur, hv, hgb, hh, r⟩
  · exact .inl h2
  · have hlt := (Array.getElem?_eq_some_iff.1 hh).1
    refine .inr ⟨g3, cap, cur, hv, hgb, ?_, r⟩
    rw [hgr.block g3 hlt ?_]
    · exact hh
    · intro e
      exact hs g3 (by rw [hv]; rfl) e.symm
theorem own_apart2 {w w' : World} {b1 b2 : Nat} {e1 e2 : TypeId} {s1 s2 n1 n2 : Nat} {v1 v2 : Value} {xs1 xs2 : List Value} (h1 : w.ownsRow b1 e1 s1 v1 n1 xs1) (h2 : w.ownsRow b2 e2 s2 v2 n2 xs2) (hne : e1 ≠ e2) (hg : w.grownBy w' v2.ownBlock) : w'.ownsRow b1 e1 s1 v1 n1 xs1 :=
  own_sep h1 (fun g ha hb => by
    obtain ⟨c1, g1⟩ := own_obj h1 ha
    obtain ⟨c2, g2⟩ := own_obj h2 hb
    rw [g1] at g2
    simp at g2
    exact hne g2.2) hg
theorem Sep.grow {w : World} {base : Nat} {e : TypeId} {size n k : Nat} {v v' v2 : Value} {xs : List Value} (hs : Sep v v2) (h2 : w.ownsRow base e size v2 n xs) (hk : w.heap.size ≤ k) (hv : v'.ownBlock = v.ownBlock ∨ v'.ownBlock = some k) : Sep v' v2 := by
  intro g h1 h3
  rcases hv with hv | hv
  · exact hs g (hv ▸ h1) h3
  · rw [hv] at h1
    obtain rfl : k = g := by simpa using h1
    have := (h2.lt k h3).2
    omega
section
variable {w : World} {ops : Array Oper} {rest : List Oper} {o : Oper} {a : Act} {Q : Exit → Act → World → Prop}
theorem wpList_appF1x (hgd : o.guard = none) (s x : Operand)
    (ho : o.op = .call { callee := .builtin .append, args := #[s, x], argTypes := #[51, 51] })
    {base n c : Nat} {A : Option Addr} {l : List Fld} (hs : a.eval s = .slice A n c)
    (hown : w.ownsRow base 73 4 (.slice A n c) n (flc l)) {c2 : Nat} (f : Fld) {k : Nat} (hx : a.eval x = .slice (some ⟨k, 0, none⟩) 1 c2) (hk : k = w.heap.size)
    (hbd : n ≤ 1000000) (hbase : base ≤ w.heap.size)
    (h : ∀ A' c' w', w'.ownsRow base 73 4 (.slice A' (n + 1) c') (n + 1) (flc (l ++ [f])) → w.grownBy w' (Value.slice A n c).ownBlock →
      ((Value.slice A' (n + 1) c').ownBlock = (Value.slice A n c).ownBlock ∨ (Value.slice A' (n + 1) c').ownBlock = some (w.heap.size + 1)) → wpList Tryd.prog ops Q rest (a.put o.dst (.slice A' (n + 1) c')) w') :
    wpList Tryd.prog ops Q (o :: rest) a (w.alloc (.cells #[.int .i64 f.num, .int .i64 f.kind, .int .u64 f.val, .string f.text] 73)) := by
  subst hk
  refine wpList_app1 hgd s x _ ho elemF hs hown hx rfl (by intro u hu; simp at hu; rcases hu with rfl | rfl | rfl | rfl <;> rfl) (by unfold maxLen; omega) (by omega) hbase fun A' c' w' h1 h2 h3 => h A' c' w' ?_ h2 h3
  rw [show flc (l ++ [f]) = flc l ++ f.cells by simp [flc]]
  exact h1
end
set_option maxRecDepth 100000 in
set_option maxHeartbeats 1000000 in
theorem rtell_any (p : Pn) (deep : Nat) (hdeep : deep ≤ 8) (ht32 : p.type < 4294967296) (hv : VVOk p.v) (w : World)
    (hput : ∀ W, Below w.heap.size w W → Calls Tryd.prog 45 #[.slice p.adr p.sub.list.length p.cap, .int .i64 (deep + 1)] W (BPost (p.sub.put (deep + 1)) W)) :
    Calls Tryd.prog 74 #[p.agg, .int .i64 deep] w (BPost (p.tell deep) w) := by
  obtain ⟨q, hq⟩ : ∃ q, p.tell deep = q := ⟨_, rfl⟩
  rw [hq]
  unfold Pn.tell ptell at hq
  obtain ⟨key, type, null, ⟨k, n, s⟩, adr, cap, sub⟩ := p
  have hvn := hv.2.2
  unfold Pn.agg pbad at *
  simp only at *
  generalize sub.list.length = L at *
  have hE0 := (Below.refl w.heap.size w).alloc (Nat.le_refl _) (Obj.cells #[.string key, .int .u32 type, .bool null, .int .i64 k, .int .u64 n, .string s, .slice adr L cap] 82)
  by_cases hk : k = 8
  · subst hk
    rw [if_pos rfl, if_pos rfl] at hq
    by_cases hn : n = 0
    · subst hn
      by_cases hs : s.toList.isEmpty = true
      · rw [if_neg (by rw [hs]; decide)] at hq
        obtain ⟨sb, hsb⟩ : ∃ s, sub.put (deep + 1) = s := ⟨_, rfl⟩
        rw [hsb] at hq hput
        obtain ⟨sb, se⟩ := sb
        exact rtell_set key type null 8 0 s adr cap L deep hdeep ht32 w q sb se rfl rfl hs hput hq
      · have hse : s.toList.isEmpty = false := by simpa using hs
        rw [if_pos (by rw [hse]; decide)] at hq
        have HQ := Lib.hid hq.symm
        clear hq hput hs hv hvn
        go_enter Tryd.func74, Tryd.ntmps74
        go_wp2_with fail
        go_ret2
        exact bpost_err HQ.out hE0
    · have hb : ((n : Int) != 0) = true := by simp; omega
      rw [if_pos (by simp [hn])] at hq
      have HQ := Lib.hid hq.symm
      clear hq hput hn hv hvn
      go_enter Tryd.func74, Tryd.ntmps74
      go_wp2_with fail
      go_ret2
      exact bpost_err HQ.out hE0
  · rw [if_neg hk, if_neg hk] at hq
    by_cases hL : L = 0
    · rw [if_neg (by simp [hL])] at hq
      exact rtell_val key type null k n s adr cap L deep hdeep ht32 w q hvn hk hL hq
    · have hb : (k != 8) = true := by simpa using hk
      have hLp : 0 < L := by omega
      rw [if_pos (by simp; omega)] at hq
      have HQ := Lib.hid hq.symm
      clear hq hput hv hvn hk hL
      go_enter Tryd.func74, Tryd.ntmps74
      go_wp2_with fail
      go_ret2
      exact bpost_err HQ.out hE0
set_option maxRecDepth 100000 in
set_option maxHeartbeats 4000000 in
theorem rpput_step (l : Ps) (ih : ∀ p ∈ l.list, ∀ (deep : Nat) (A : Option Addr) (c : Nat) (w : World), deep ≤ 9 → p.sub.Ok → p.sub.list.length ≤ 9223372036854775807 → p.sub.At w w.heap.size A →
      Calls Tryd.prog 45 #[.slice A p.sub.list.length c, .int .i64 deep] w (BPost (p.sub.put deep) w))
    (deep : Nat) (A : Option Addr) (c : Nat) (w : World) (hdeep : deep ≤ 9) (hok : l.Ok) (hlen : l.list.length ≤ 9223372036854775807) (hat : l.At w w.heap.size A) :
    Calls Tryd.prog 45 #[.slice A l.list.length c, .int .i64 deep] w (BPost (l.put deep) w) := by
  obtain ⟨q, hq⟩ : ∃ q, l.put deep = q := ⟨_, rfl⟩
  rw [hq]
  rw [Ps.put_list] at hq
  by_cases hd8 : 8 < deep
  · have hd : decide ((8 : Int) < (deep : Int)) = true := decide_eq_true (by omega)
    rw [if_pos hd8] at hq
    have HQ := Lib.hid hq.symm
    clear ih hok hat hq hd8 hdeep
    generalize l.list.length = n at *
    go_enter Tryd.func45, Tryd.ntmps45
    go_wp2_with fail
    go_ret2
    exact bpost_err HQ.out (Below.refl _ _)
  rw [if_neg hd8] at hq
  have hd : decide ((8 : Int) < (deep : Int)) = false := decide_eq_false (by omega)
  have htell : ∀ p ∈ l.list, ∀ W, Below w.heap.size w W → Calls Tryd.prog 74 #[p.agg, .int .i64 deep] W (BPost (p.tell deep) W) := by
    intro p hp W hB
    obtain ⟨h1, h2, h3, h4⟩ := Ps.ok_mem hok p hp
    refine rtell_any p deep (by omega) h1 h2 W fun W2 hB2 => ?_
    have hB3 := bel_step hB hB2
    have := ih p hp (deep + 1) p.adr p.cap W2 (by omega) h4 h3 (((hat.sub hp).below hB3 (Nat.le_refl _)).more hB3.size)
    exact this
  have HTELL := Lib.hid htell
  have HR := Lib.hid hat.rd
  clear ih hok hat htell
  generalize l.list = ps at *
  obtain ⟨n, hn⟩ : ∃ n, ps.length = n := ⟨_, rfl⟩
  rw [hn] at hlen hq ⊢
  have HN := Lib.hid hn
  by_cases h32 : 32 < n
  · have h32d : decide ((32 : Int) < (n : Int)) = true := decide_eq_true (by omega)
    rw [if_pos h32] at hq
    have HQ := Lib.hid hq.symm
    clear hq h32 hd8 hdeep hn
    go_enter Tryd.func45, Tryd.ntmps45
    go_wp2_with fail
    go_ret2
    exact bpost_err HQ.out (Below.refl _ _)
  rw [if_neg h32] at hq
  have h32d : decide ((32 : Int) < (n : Int)) = false := decide_eq_false (by omega)
  have hn32 : n ≤ 32 := by omega
  have HQ : Hid ((if perrs (ps.map fun p => p.tell deep) = 0 then wput (pkl ps ++ pvl ps deep) else ([], perrs (ps.map fun p => p.tell deep))) = q) := Lib.hid hq
  clear hq h32 hd8 hn hdeep
  go_enter Tryd.func45, Tryd.ntmps45
  go_wp2_with fail
  have hE1 := World.ownsRow_nil w w.heap.size 73 4
  go_loopw [6, 7, 8] (fun ks vs i wr => ∃ (j : Nat) (A1 : Option Addr) (c1 : Nat) (A2 : Option Addr) (c2 : Nat), i = .int .i64 j ∧ ks = .slice A1 j c1 ∧ vs = .slice A2 j c2 ∧ j ≤ n ∧ perrs (ps.map fun p => p.tell deep) = perrs ((ps.drop j).map fun p => p.tell deep) ∧
    wr.ownsRow w.heap.size 73 4 (.slice A1 j c1) j (flc (pkl (ps.take j))) ∧ wr.ownsRow w.heap.size 73 4 (.slice A2 j c2) j (flc (pvl (ps.take j) deep)) ∧ Sep (.slice A1 j c1) (.slice A2 j c2) ∧ Below w.heap.size w wr) (fun _ _ i _ => n - (intOf i).toNat)
  case atStart => exact ⟨0, none, 0, none, 0, rfl, rfl, rfl, Nat.zero_le _, rfl, hE1, hE1, Sep.nil _, Below.refl _ _⟩
  case round =>
    clear hE1
    obtain ⟨j, A1, c1, A2, c2, rfl, rfl, rfl, hj, he, ho1, ho2, hsep, hB⟩ := hrel
    have hs := hB.size
    have HE := Lib.hid he
    have HSEP := Lib.hid hsep
    clear he hsep
    by_cases hlt : j < n
    · obtain ⟨p, hp⟩ : ∃ p, ps[j]? = some p := ⟨_, List.getElem?_eq_getElem (by rw [HN.out]; exact hlt)⟩
      have hcell := HTELL.out p (List.mem_of_getElem? hp)
      obtain ⟨b1, o1, rfl, hb1, hpa⟩ := prop_at (HR.out.below hB (Nat.le_refl _)) hp
      obtain ⟨g0, g1, g2, g3, g4, g5, g6⟩ := hpa
      have HT1 : Hid (pkl (ps.take (j + 1)) = pkl (ps.take j) ++ [⟨1, 2, 0, p.key⟩]) := Lib.hid (by rw [List.take_add_one, hp]; simp [pkl, pkfl])
      have HT2 : Hid (pvl (ps.take (j + 1)) deep = pvl (ps.take j) deep ++ [⟨2, 2, 0, ⟨(p.tell deep).1.toArray⟩⟩]) := Lib.hid (by rw [List.take_add_one, hp]; simp [pvl, pvfl])
      have HD : Hid (perrs (ps.map fun p => p.tell deep) = if (p.tell deep).2 = 0 then perrs ((ps.drop (j + 1)).map fun p => p.tell deep) else (p.tell deep).2) := Lib.hid (by rw [HE.out, drop_cons hp]; rfl)
      clear hp HE
      unfold Pn.agg BPost at hcell
      obtain ⟨tq, htq⟩ : ∃ t, p.tell deep = t := ⟨_, rfl⟩
      rw [htq] at hcell HT2 HD
      obtain ⟨cb, ce⟩ := tq
      simp only at hcell HT2 HD
      clear htq
      obtain ⟨key, type, null, ⟨pk, pn, pss⟩, adr, cap, sub⟩ := p
      simp only at hcell g0 g1 g2 g3 g4 g5 g6 HT1
      generalize sub.list.length = SL at *
      go_wp2_with fail
      refine (hcell _ hB).mono ?_
      rintro e w1 ⟨A3, c3, rfl, ho3, hB1⟩
      have ho1b := own_kept ho1 hB1 (Nat.le_refl _)
      have ho2b := own_kept ho2 hB1 (Nat.le_refl _)
      have hB2 := bel_step hB hB1
      have hs1 := hB2.size
      have g0b := (hB2.cell (p := ⟨b1, o1 + j * 7, none⟩) hb1).symm
      clear hcell ho1 ho2
      by_cases h0 : ce = 0
      · subst h0
        have HD2 : Hid (perrs (ps.map fun p => p.tell deep) = perrs ((ps.drop (j + 1)).map fun p => p.tell deep)) := Lib.hid (by have := HD.out; rwa [if_pos rfl] at this)
        have g0c : w1.cell? ⟨b1, o1 + j * 7, none⟩ = some (.string key) := by rw [← g0b, ← g0]; exact (hB.cell (p := ⟨b1, o1 + j * 7, none⟩) hb1).symm
        have ho3b := own_base ho3 hs
        have hcl : cb.length = cb.length := rfl
        clear HD g0b g0 g1 g2 g3 g4 g5 g6 hB1 hB hs ho3 hcl
        go_wp2_with (at_builtin; first
          | (refine wpList_appF1x rfl _ _ rfl rfl ho1b ⟨1, 2, 0, key⟩ rfl rfl (by omega) hs1 ?_; intro A5 c5 w5 ho5 hg5 hv5; have hB5 := own_grown hB2 ho1b hs1 hg5; have ho2c := own_sep ho2b HSEP.out.symm hg5; have hsep5 := Lib.hid (HSEP.out.grow ho2b (Nat.le_succ _) hv5); have hst := strB (Rd.of_own (own_apart2 ho3b ho1b (by decide) hg5)) rfl c3; have hs5 := hB5.size; clear hv5 hg5)
          | (refine wpList_appF1x rfl _ _ rfl rfl ho2c ⟨2, 2, 0, ⟨cb.toArray⟩⟩ rfl rfl (by omega) hs5 ?_; intro A6 c6 w6 ho6 hg6 hv6; have hB6 := own_grown hB5 ho2c hs5 hg6; have ho5c := own_sep ho5 hsep5.out hg6; have hsep6 := Lib.hid (hsep5.out.symm.grow ho5 (Nat.le_succ _) hv6); clear hv6 hg6))
        go_roundw
        case rel => exact ⟨j + 1, A5, c5, A6, c6, by go_num, rfl, rfl, by omega, HD2.out, by rw [HT1.out]; exact ho5c, by rw [HT2.out]; exact ho6, hsep6.out.symm, hB6⟩
        case measure => simp [intOf]; omega
      · have hbe : (ce != 0) = true := by simpa using h0
        have hq : q = ([], ce) := by
          have h1 := HD.out
          rw [if_neg h0] at h1
          rw [← HQ.out, h1, if_neg h0]
        have HQ2 := Lib.hid hq
        clear ho3 h0 hq HD g0b
        go_wp2_with fail
        go_ret2
        exact bpost_err HQ2.out hB2
    · obtain rfl : j = n := by omega
      have hz : perrs (ps.map fun p => p.tell deep) = 0 := by rw [HE.out, List.drop_eq_nil_of_le (by rw [HN.out]; exact Nat.le_refl _)]; rfl
      rw [List.take_of_length_le (by rw [HN.out]; exact Nat.le_refl _)] at ho1 ho2
      have hq : wput (pkl ps ++ pvl ps deep) = q := by rw [← HQ.out, if_pos hz]
      have HQ2 := Lib.hid hq
      have hvl : (pvl ps deep).length = j := by simp [pvl, HN.out]
      have HVL := Lib.hid hvl
      obtain ⟨T, hT⟩ : ∃ T, j + j = T := ⟨_, rfl⟩
      have hTb : T ≤ 100 := by omega
      have HTT := Lib.hid hT
      clear hq hz HE hlt hT hvl
      go_wp2_with (at_builtin; refine wpList_appF rfl _ _ rfl rfl ho1 rfl (Rd.of_own ho2) HVL.out T HTT.out (by omega) hs ?_; intro A9 c9 w9 ho9 hg9; have hW9 := own_grown hB ho1 hs hg9; clear hg9 ho1)
      have hpl := rplayd_any (pkl ps ++ pvl ps deep) A9 c9 (by rw [List.length_append, HVL.out]; simp [pkl, HN.out]; omega) (pput_flds ps deep) w9 (Rd.of_own ho9)
      rw [HQ2.out, show (pkl ps ++ pvl ps deep).length = T by rw [List.length_append, HVL.out, ← HTT.out]; simp [pkl, HN.out]] at hpl
      refine hpl.mono ?_
      rintro e w6 ⟨A6, c6, rfl, ho6, hB6⟩
      clear hpl
      go_wp2_with fail
      go_ret2
      exact ⟨A6, c6, rfl, own_base ho6 hW9.size, bel_step hW9 hB6⟩
theorem rpput_any : ∀ (l : Ps) (deep : Nat) (A : Option Addr) (c : Nat) (w : World), deep ≤ 9 → l.Ok → l.list.length ≤ 9223372036854775807 → l.At w w.heap.size A →
    Calls Tryd.prog 45 #[.slice A l.list.length c, .int .i64 deep] w (BPost (l.put deep) w) :=
  Ps.ind fun l ih deep A c w h1 h2 h3 h4 => rpput_step l ih deep A c w h1 h2 h3 h4
set_option maxRecDepth 100000 in
theorem rpPut_any (l : Ps) (A : Option Addr) (c : Nat) (w : World) (hok : l.Ok) (hlen : l.list.length ≤ 9223372036854775807) (hat : l.At w w.heap.size A) :
    Calls Tryd.prog 18 #[.slice A l.list.length c] w (BPost (l.put 1) w) := by
  have h : Calls Tryd.prog 45 #[.slice A l.list.length c, .int .i64 1] w (BPost (l.put 1) w) := rpput_any l 1 A c w (by omega) hok hlen hat
  generalize l.put 1 = q at *
  generalize l.list.length = n at *
  clear hok hat
  go_enter Tryd.func18, Tryd.ntmps18
  go_wp2_with fail
  refine h.mono ?_
  rintro e w1 ⟨A1, c1, rfl, ho, hB⟩
  go_wp2_with fail
  go_ret2
  exact ⟨A1, c1, rfl, ho, hB⟩
end Go.Proofs.YtlgokfgbcohioaaDoor
