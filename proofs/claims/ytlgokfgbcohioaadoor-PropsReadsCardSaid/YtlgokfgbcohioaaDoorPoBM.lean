/- WALK: props.read -/
import Derived.Test.YtlgokfgbcohioaaDoorPoAM
import Derived.Test.YtlgokfgbcohioaaDoorPpRtM
import Derived.Test.YtlgokfgbcohioaaDoorDsCM
import Derived.Test.YtlgokfgbcohioaaDoorK4
namespace Go.Proofs.YtlgokfgbcohioaaDoor
open Go.RowKit Plain

/-- what the reading of a list answers -/
def POPost (q : Ps × Int) (w : World) (e : Ending) (w' : World) : Prop :=
  ∃ (l : Ps) (A : Option Addr) (c : Nat), e = .returned (.tuple #[.slice A l.list.length c, .int .i64 q.2]) ∧ l.AtS w' (fun k => w.heap.size ≤ k) A ∧ l.Ok ∧ l.list.length ≤ 1000 ∧ l.strip = q.1 ∧ Below w.heap.size w w'
theorem popost_err {q : Ps × Int} {w w' : World} {e : Int} (h : q = (.nil, e)) (hB : Below w.heap.size w w') : POPost q w (.returned (.tuple #[.slice none 0 0, .int .i64 e])) w' :=
  ⟨.nil, none, 0, by rw [h]; rfl, Ps.nil_atS _ _, trivial, Nat.zero_le _, by rw [h]; rfl, hB⟩
/-- what the reading of one property answers -/
def PRPost (q : Pn × Int) (w : World) (e : Ending) (w' : World) : Prop :=
  ∃ p : Pn, e = .returned (.tuple #[p.agg, .int .i64 q.2]) ∧ p.strip = q.1 ∧ p.Ok ∧ p.sub.list.length ≤ 1000 ∧ p.sub.AtS w' (fun k => w.heap.size ≤ k) p.adr ∧ Below w.heap.size w w'
theorem zero_okP : Pn.zero.Ok := ⟨by simp [Pn.zero], zero_rd.ok, by simp [Pn.zero, Ps.list], trivial⟩
theorem prpost_err {q : Pn × Int} {w w' : World} {e : Int} (h : q = (Pn.zero, e)) (hB : Below w.heap.size w w') : PRPost q w (.returned (.tuple #[.agg #[.string ⟨#[]⟩, .int .u32 0, .bool false, .int .i64 0, .int .u64 0, .string ⟨#[]⟩, .slice none 0 0], .int .i64 e])) w' :=
  ⟨Pn.zero, by rw [h]; rfl, by rw [h]; rfl, zero_okP, Nat.zero_le _, Ps.nil_atS _ _, hB⟩
theorem below_set7 {B R a b c d e f g : Nat} {w W : World} (h : Below B w W) (hB : B ≤ R) (v0 v1 v2 v3 v4 v5 v6 : Value) : Below B w (((((((W.setCell ⟨R, a, none⟩ v0).setCell ⟨R, b, none⟩ v1).setCell ⟨R, c, none⟩ v2).setCell ⟨R, d, none⟩ v3).setCell ⟨R, e, none⟩ v4).setCell ⟨R, f, none⟩ v5).setCell ⟨R, g, none⟩ v6) :=
  ((((((h.setCell (p := ⟨R, a, none⟩) hB _).setCell (p := ⟨R, b, none⟩) hB _).setCell (p := ⟨R, c, none⟩) hB _).setCell (p := ⟨R, d, none⟩) hB _).setCell (p := ⟨R, e, none⟩) hB _).setCell (p := ⟨R, f, none⟩) hB _).setCell (p := ⟨R, g, none⟩) hB _
theorem Ps.AtS.low {l : Ps} {W : World} {S : Nat → Prop} {A : Option Addr} {B i : Nat} (h : l.AtS W S A) (hne : ∀ b, S b → b ≠ B) (v : Value) : l.AtS (W.setCell ⟨B, i, none⟩ v) S A :=
  h.keep (fun b _ hb => heap_setCell_other W ⟨B, i, none⟩ b v (hne b hb)) (by simp) (fun _ _ h => h)
theorem Ps.AtS.to {l : Ps} {W : World} {S S' : Nat → Prop} {A : Option Addr} (h : l.AtS W S A) (hS : ∀ b, S b → S' b) : l.AtS W S' A := h.keep (fun _ _ _ => rfl) (Nat.le_refl _) (fun b _ hb => hS b hb)
theorem FoundAt.setS {W : World} {B : Nat} {key : ByteArray} {s : PSt} (h : FoundAt W B key s) (v : Value) : (W.setCell ⟨B, 6, none⟩ v).heap[B]? = some (.cells #[.string key, .int .u32 s.type, .bool s.null, .int .i64 s.v.k, .int .u64 s.v.n, .string s.v.s, v, .string s.set] 158 (0, 0)) := heap_setCell_same W B 6 _ _ _ h
set_option maxRecDepth 100000 in
set_option maxHeartbeats 8000000 in
theorem pread_any (key s : ByteArray) (hs : s.size ≤ 4096) (deep n : Nat) (hdeep : deep ≤ 8) (w : World) (hK : Kinds w)
    (hrec : ∀ (b : List UInt8) (A : Option Addr) (bn c : Nat) (W : World), b.length = bn → bn ≤ c → c ≤ 9223372036854775807 → Below w.heap.size w W → Rd W W.heap.size A (bcl b) → Calls Tryd.prog 59 #[.slice A bn c, .int .i64 (deep + 1)] W (POPost (pofn n b) W)) :
    Calls Tryd.prog 84 #[.string key, .string s, .int .i64 deep] w (PRPost (pitem (pofn n) key s) w) := by
  obtain ⟨q, hq⟩ : ∃ q, pitem (pofn n) key s = q := ⟨_, rfl⟩
  rw [hq]
  unfold pitem at hq
  have hX0 : InP (w.alloc (.cells #[.string ⟨#[]⟩, .int .u32 0, .bool false, .int .i64 0, .int .u64 0, .string ⟨#[]⟩, .slice none 0 0] 82)) w.heap.size ⟨#[]⟩ 0 false 0 0 ⟨#[]⟩ none 0 0 := World.alloc_heap_new w _
  have hE0 : Below w.heap.size w (w.alloc (.cells #[.string ⟨#[]⟩, .int .u32 0, .bool false, .int .i64 0, .int .u64 0, .string ⟨#[]⟩, .slice none 0 0] 82)) := (Below.refl _ w).alloc (Nat.le_refl _) _
  obtain ⟨c0, W0, hcv, hr0, hB0, hc0, hc1⟩ := run_bytes (w.alloc (.cells #[.string ⟨#[]⟩, .int .u32 0, .bool false, .int .i64 0, .int .u64 0, .string ⟨#[]⟩, .slice none 0 0] 82)) s
  have hof := of_any s.data.toList _ s.size c0 (by simp) hc0 (by have := hc1 (by unfold maxLen; omega); unfold maxLen at this; exact this) W0 hr0
  unfold OfPost at hof
  have hX00 := hX0.below hB0
  have hW0 := bel_step hE0 hB0
  have HRD := Lib.hid (wof_rd s.data.toList)
  have h256 := wof_256R s.data.toList
  obtain ⟨o, ho⟩ : ∃ o, wof s.data.toList = o := ⟨_, rfl⟩
  rw [ho] at hof hq HRD h256
  obtain ⟨l, er⟩ := o
  simp only at hof hq HRD h256
  have HQ := Lib.hid hq
  obtain ⟨m, hm⟩ : ∃ m, l.length = m := ⟨_, rfl⟩
  rw [hm] at hof h256
  have HM := Lib.hid hm
  have HREC := Lib.hid hrec
  clear ho hq hm hr0 hc0 hc1 hB0 hE0 hX0 hrec
  go_enter Tryd.func84, Tryd.ntmps84
  go_wp2_with fail
  rw [World.size_alloc] at hof
  refine hof.mono ?_
  rintro e w1 ⟨A1, c1, rfl, ho1, hB1⟩
  have hX1 := hX00.below hB1
  have hW1 := bel_step hW0 hB1
  clear hof hcv hB1 hX00 hW0
  by_cases he : er = 0
  rotate_left
  · have hbe : ((er : Int) != 0) = true := by simp; omega
    have HQ2 : Hid (q = (Pn.zero, (er : Int))) := Lib.hid (by have := HQ.out; rw [if_neg he] at this; exact this.symm)
    obtain ⟨x0, x1, x2, x3, x4, x5, x6⟩ := hX1.cells
    have hfz : ∀ i, w1.frozen? ⟨w.heap.size, i, none⟩ = false := fun i => by simp [World.frozen?, show w1.heap[w.heap.size]? = _ from hX1]
    have y0 := hfz 0
    have y1 := hfz 1
    have y2 := hfz 2
    have y3 := hfz 3
    have y4 := hfz 4
    have y5 := hfz 5
    have y6 := hfz 6
    clear he HQ ho1 hX1 hfz
    go_wp2_with fail
    refine bodyPost_ret (v := .tuple #[.agg #[.string ⟨#[]⟩, .int .u32 0, .bool false, .int .i64 0, .int .u64 0, .string ⟨#[]⟩, .slice none 0 0], .int .i64 (er : Int)]) ?_ rfl (prpost_err HQ2.out (below_set7 hW1 (Nat.le_refl _) _ _ _ _ _ _ _))
    rw [results_cell_tmp rfl]; go_simp
  subst he
  obtain ⟨t, ht⟩ : ∃ t, ptakes l PSt.zero = t := ⟨_, rfl⟩
  have htok := ptakes_ok l PSt.zero PSt.zero_ok HRD.out
  have HQ2 : Hid ((if t.2 = 0 then (if t.1.v.k = 8 then (if (pofn n t.1.set.data.toList).2 = 0 then ((⟨key, t.1.type, t.1.null, t.1.v, none, 0, (pofn n t.1.set.data.toList).1⟩ : Pn), 0) else (Pn.zero, (pofn n t.1.set.data.toList).2)) else (⟨key, t.1.type, t.1.null, t.1.v, none, 0, .nil⟩, 0)) else (Pn.zero, t.2)) = q) := Lib.hid (by
    have := HQ.out
    rwa [if_pos rfl, ht] at this)
  rw [ht] at htok
  have HT := Lib.hid ht
  have HTOK := Lib.hid htok
  have hr1 := Rd.of_own ho1
  have hF0 : FoundAt (w1.alloc (Obj.cells #[.string key, .int .u32 0, .bool false, .int .i64 0, .int .u64 0, .string ⟨#[]⟩, .slice none 0 0, .string ⟨#[]⟩] 158)) w1.heap.size key PSt.zero := World.alloc_heap_new w1 _
  have hE1 : Below w1.heap.size w1 (w1.alloc (Obj.cells #[.string key, .int .u32 0, .bool false, .int .i64 0, .int .u64 0, .string ⟨#[]⟩, .slice none 0 0, .string ⟨#[]⟩] 158)) := (Below.refl _ w1).alloc (Nat.le_refl _) _
  have hK1 := hK.below hW1 hK.pos
  have hwl := hX1.lt
  clear HQ ht htok ho1 hK
  go_wp2_with fail
  go_loopw [30] (fun i wr => ∃ (j : Nat) (st : PSt), i = .int .i64 j ∧ j ≤ m ∧ FoundAt wr w1.heap.size key st ∧ ptakes (l.drop j) st = t ∧ Below w1.heap.size w1 wr) (fun i _ => m - (intOf i).toNat)
  case atStart => exact ⟨0, PSt.zero, rfl, Nat.zero_le _, hF0, HT.out, hE1⟩
  case round =>
    clear hF0 hE1
    obtain ⟨j, st, rfl, hj, hF, hpt, hB⟩ := hrel
    have hsz := hB.size
    have HPT := Lib.hid hpt
    have hX := (hB.block _ hwl).trans hX1
    clear hpt
    by_cases hlt : j < m
    · obtain ⟨f, hf⟩ : ∃ f, l[j]? = some f := ⟨_, List.getElem?_eq_getElem (by rw [HM.out]; exact hlt)⟩
      obtain ⟨b1, o1, rfl, hb1, g0, g1, g2, g3⟩ := fld_at (hr1.below hB (Nat.le_refl _)) hf
      have hfrd := HRD.out f (List.mem_of_getElem? hf)
      have hbw := hB.alloc hsz (Obj.cells #[.int .i64 f.num, .int .i64 f.kind, .int .u64 f.val, .string f.text] 73)
      have htk := take_any f w1.heap.size key st hfrd (wr.alloc (Obj.cells #[.int .i64 f.num, .int .i64 f.kind, .int .u64 f.val, .string f.text] 73)) (hF.alloc _) (hK1.below hbw hK1.pos)
      have HSTEP : Hid ((if (ptake f st).2 = 0 then ptakes (l.drop (j + 1)) (ptake f st).1 else (PSt.zero, (ptake f st).2)) = t) := Lib.hid (by have := HPT.out; rwa [drop_cons hf, ptakes] at this)
      obtain ⟨tq, htq⟩ : ∃ d, ptake f st = d := ⟨_, rfl⟩
      rw [htq] at htk HSTEP
      obtain ⟨st2, te⟩ := tq
      obtain ⟨num, kind, val, text⟩ := f
      unfold Fld.agg at htk
      simp only at g0 g1 g2 g3 htk hbw HSTEP
      clear hf hfrd htq HPT
      go_wp2_with fail
      refine htk.mono ?_
      rintro e w2 ⟨rfl, hF2, hB2⟩
      have hB3 := hbw.trans hB2
      have HF2 := Lib.hid hF2
      clear htk hbw hB2 hF2 g0 g1 g2 g3
      by_cases h0 : te = 0
      · subst h0
        have HS2 : Hid (ptakes (l.drop (j + 1)) st2 = t) := Lib.hid (by have := HSTEP.out; rwa [if_pos rfl] at this)
        clear HSTEP
        go_wp2_with fail
        go_roundw
        case rel => exact ⟨j + 1, st2, by go_num, by omega, HF2.out (by first | rfl | trivial), HS2.out, hB3⟩
        case measure => simp [intOf]; omega
      · have hbe : (te != 0) = true := by simpa using h0
        have HQ3 : Hid (q = (Pn.zero, te)) := Lib.hid (by
          have h1 := HSTEP.out
          rw [if_neg h0] at h1
          rw [← HQ2.out, ← h1, if_neg h0])
        have hX2 : InP w2 w.heap.size ⟨#[]⟩ 0 false 0 0 ⟨#[]⟩ none 0 0 := (hB3.block _ hwl).trans hX1
        obtain ⟨x0, x1, x2, x3, x4, x5, x6⟩ := hX2.cells
        have hfz : ∀ i, w2.frozen? ⟨w.heap.size, i, none⟩ = false := fun i => by simp [World.frozen?, show w2.heap[w.heap.size]? = _ from hX2]
        have y0 := hfz 0
        have y1 := hfz 1
        have y2 := hfz 2
        have y3 := hfz 3
        have y4 := hfz 4
        have y5 := hfz 5
        have y6 := hfz 6
        have hW2 := bel_step hW1 hB3
        clear h0 HSTEP HF2 hX2 hfz hX hF
        go_wp2_with fail
        refine bodyPost_ret (v := .tuple #[.agg #[.string ⟨#[]⟩, .int .u32 0, .bool false, .int .i64 0, .int .u64 0, .string ⟨#[]⟩, .slice none 0 0], .int .i64 te]) ?_ rfl (prpost_err HQ3.out (below_set7 hW2 (Nat.le_refl _) _ _ _ _ _ _ _))
        rw [results_cell_tmp rfl]; go_simp
    · obtain rfl : j = m := by omega
      have hst : t = (st, 0) := by rw [← HPT.out, List.drop_eq_nil_of_le (by rw [HM.out]; exact Nat.le_refl _)]; rfl
      have hstok := HTOK.out
      rw [hst] at hstok
      have HQ3 : Hid ((if st.v.k = 8 then (if (pofn n st.set.data.toList).2 = 0 then ((⟨key, st.type, st.null, st.v, none, 0, (pofn n st.set.data.toList).1⟩ : Pn), 0) else (Pn.zero, (pofn n st.set.data.toList).2)) else (⟨key, st.type, st.null, st.v, none, 0, .nil⟩, 0)) = q) := Lib.hid (by
        have := HQ2.out
        rwa [hst, if_pos rfl] at this)
      obtain ⟨sty, snu, ⟨sk, sn, ss⟩, sset⟩ := st
      simp only at HQ3
      have HSOK := Lib.hid hstok
      have hWr := bel_step hW1 hB
      have hX' : InP wr w.heap.size ⟨#[]⟩ 0 false 0 0 ⟨#[]⟩ none 0 0 := hX
      obtain ⟨c0', c1', c2', c3', c4', c5', c6', c7'⟩ := hF.cells
      simp only at c1' c2' c3' c4' c5' c7'
      clear hst hstok HQ2 HPT hlt hX HTOK HT
      by_cases hk8 : sk = 8
      · subst hk8
        obtain ⟨cb, W5, hcv, hr5, hB5, hcb0, hcb1⟩ := run_bytes wr sset
        have hss := HSOK.out.set
        simp only at hss
        have hW5 := bel_step hWr hB5
        have hcall := HREC.out sset.data.toList (some ⟨wr.heap.size, 0, none⟩) sset.size cb W5 (by simp) hcb0 (by have := hcb1 (by unfold maxLen; omega); unfold maxLen at this; exact this) hW5 hr5
        unfold POPost at hcall
        have HQ4 : Hid ((if (pofn n sset.data.toList).2 = 0 then ((⟨key, sty, snu, ⟨8, sn, ss⟩, none, 0, (pofn n sset.data.toList).1⟩ : Pn), 0) else (Pn.zero, (pofn n sset.data.toList).2)) = q) := Lib.hid (by have := HQ3.out; rwa [if_pos rfl] at this)
        obtain ⟨⟨rl, re⟩, hrq⟩ : ∃ d, pofn n sset.data.toList = d := ⟨_, rfl⟩
        rw [hrq] at hcall HQ4
        simp only at hcall HQ4
        have hF5 := hF.below hB5
        have hX5 := hX'.below hB5
        have hwB : w.heap.size ≠ w1.heap.size := Nat.ne_of_lt hwl
        have hs5 := Nat.le_trans hsz hB5.size
        have hdi : (deep : Int) ≤ 8 := by omega
        have hw5l := hX5.lt
        have hF5l := hF5.lt
        clear hrq hr5 hcb0 hcb1 hB5 HQ3 hF hX' hss
        go_wp2_with fail
        refine hcall.mono ?_
        rintro e w6 ⟨l6, A6, c6, rfl, hat6, hok6, hlen6, hstr6, hB6⟩
        have hF6 := hF5.below hB6
        have hX6 := hX5.below hB6
        have hW6 := bel_step hW5 hB6
        have hS6 := hF6.setS (.slice A6 l6.list.length c6)
        obtain ⟨d0, d1, d2, d3, d4, d5, d6, d7⟩ := hF6.cells
        have z6 := hF6.frozen 6
        obtain ⟨x0, x1, x2, x3, x4, x5, x6⟩ := hX6.cells
        have hfz : ∀ i, w6.frozen? ⟨w.heap.size, i, none⟩ = false := fun i => by simp [World.frozen?, show w6.heap[w.heap.size]? = _ from hX6]
        have y0 := hfz 0
        have y1 := hfz 1
        have y2 := hfz 2
        have y3 := hfz 3
        have y4 := hfz 4
        have y5 := hfz 5
        have y6 := hfz 6
        clear hfz
        simp only at d1 d2 d3 d4 d5 d7 hS6
        have hX7 : InP (w6.setCell ⟨w1.heap.size, 6, none⟩ (.slice A6 l6.list.length c6)) w.heap.size ⟨#[]⟩ 0 false 0 0 ⟨#[]⟩ none 0 0 := (heap_setCell_other w6 ⟨w1.heap.size, 6, none⟩ w.heap.size _ hwB).trans hX6
        have hW7 := hW6.setCell (p := ⟨w1.heap.size, 6, none⟩) (Nat.le_of_lt hwl) (.slice A6 l6.list.length c6)
        have hat7 := (hat6.low (B := w1.heap.size) (i := 6) (fun b hb => by omega) (.slice A6 l6.list.length c6))
        obtain ⟨L6, hL6⟩ : ∃ k, l6.list.length = k := ⟨_, rfl⟩
        rw [hL6] at hS6 hX7 hW7 hat7 ⊢
        have HAT := Lib.hid hat7
        have HO6 := Lib.hid (And.intro hok6 (And.intro hlen6 (And.intro hstr6 hL6)))
        have HX7 := Lib.hid hX7
        have HS6 := Lib.hid hS6
        have HW7 := Lib.hid hW7
        clear hcall hcv hF5 hX5 hat6 hok6 hlen6 hstr6 hB6 hF6 hX6 hL6 hX7 hS6 hW7 hat7
        by_cases h0 : re = 0
        rotate_left
        · have hbe : (re != 0) = true := by simpa using h0
          have HQ5 : Hid (q = (Pn.zero, re)) := Lib.hid (by have := HQ4.out; rw [if_neg h0] at this; exact this.symm)
          clear h0
          go_wp2_with fail
          refine bodyPost_ret (v := .tuple #[.agg #[.string ⟨#[]⟩, .int .u32 0, .bool false, .int .i64 0, .int .u64 0, .string ⟨#[]⟩, .slice none 0 0], .int .i64 re]) ?_ rfl (prpost_err HQ5.out (below_set7 HW7.out (Nat.le_refl _) _ _ _ _ _ _ _))
          rw [results_cell_tmp rfl]; go_simp
        subst h0
        have HQ5 : Hid (((⟨key, sty, snu, ⟨8, sn, ss⟩, none, 0, rl⟩ : Pn), (0 : Int)) = q) := Lib.hid (by have := HQ4.out; rwa [if_pos rfl] at this)
        go_wp2_with fail
        refine bodyPost_ret (v := .tuple #[.agg #[.string key, .int .u32 sty, .bool snu, .int .i64 8, .int .u64 sn, .string ss, .slice A6 L6 c6], .int .i64 0]) ?_ rfl ?_
        · rw [results_cell_tmp rfl]; go_simp
        · obtain ⟨o1, o2, o3, o4⟩ := HO6.out
          have hlow : ∀ b, W5.heap.size ≤ b → b ≠ w.heap.size := fun b hb => by omega
          refine ⟨⟨key, sty, snu, ⟨8, sn, ss⟩, A6, c6, l6⟩, ?_, ?_, ⟨HSOK.out.ty, HSOK.out.v, by simp only; omega, o1⟩, o2, ?_, below_set7 HW7.out (Nat.le_refl _) _ _ _ _ _ _ _⟩
          · rw [← HQ5.out]; unfold Pn.agg; simp only [o4]
          · rw [← HQ5.out]; unfold Pn.strip; simp only [o3]
          · exact (((((((HAT.out.low hlow _).low hlow _).low hlow _).low hlow _).low hlow _).low hlow _).low hlow _).to (fun b hb => by omega)
      · have hbk : (sk != 8) = true := by simpa using hk8
        have HQ4 : Hid (((⟨key, sty, snu, ⟨sk, sn, ss⟩, none, 0, .nil⟩ : Pn), (0 : Int)) = q) := Lib.hid (by have := HQ3.out; rwa [if_neg hk8] at this)
        obtain ⟨x0, x1, x2, x3, x4, x5, x6⟩ := hX'.cells
        have hfz : ∀ i, wr.frozen? ⟨w.heap.size, i, none⟩ = false := fun i => by simp [World.frozen?, show wr.heap[w.heap.size]? = _ from hX']
        have y0 := hfz 0
        have y1 := hfz 1
        have y2 := hfz 2
        have y3 := hfz 3
        have y4 := hfz 4
        have y5 := hfz 5
        have y6 := hfz 6
        clear hk8 HQ3 hX' hfz hF
        go_wp2_with fail
        refine bodyPost_ret (v := .tuple #[.agg #[.string key, .int .u32 sty, .bool snu, .int .i64 sk, .int .u64 sn, .string ss, .slice none 0 0], .int .i64 0]) ?_ rfl ?_
        · rw [results_cell_tmp rfl]; go_simp
        · exact ⟨⟨key, sty, snu, ⟨sk, sn, ss⟩, none, 0, .nil⟩, by rw [← HQ4.out]; rfl, by rw [← HQ4.out]; rfl, ⟨HSOK.out.ty, HSOK.out.v, Nat.zero_le _, trivial⟩, Nat.zero_le _, Ps.nil_atS _ _, below_set7 hWr (Nat.le_refl _) _ _ _ _ _ _ _⟩
end Go.Proofs.YtlgokfgbcohioaaDoor
