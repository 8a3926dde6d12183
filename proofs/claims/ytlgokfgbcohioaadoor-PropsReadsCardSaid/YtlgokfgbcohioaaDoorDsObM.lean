/- WALK: dataset.read -/
import Derived.Test.YtlgokfgbcohioaaDoorDsOaM
import Derived.Test.YtlgokfgbcohioaaDoorDsCM
import Derived.Test.YtlgokfgbcohioaaDoorPpOM
import Derived.Test.YtlgokfgbcohioaaDoorK3
import Derived.Test.YtlgokfgbcohioaaDoorK4
import Derived.Laws.MakeOwn
namespace Go.Proofs.YtlgokfgbcohioaaDoor
open Go.RowKit Plain

theorem pad_set {α : Type} {z f : α} {n : Nat} {a : List α} (h : a.length < n) : (a ++ List.replicate (n - a.length) z).set a.length f = (a ++ [f]) ++ List.replicate (n - (a ++ [f]).length) z := by
  obtain ⟨m, hm⟩ : ∃ m, n - a.length = m + 1 := ⟨n - a.length - 1, by omega⟩
  rw [hm, show n - (a ++ [f]).length = m by simp; omega, List.replicate_succ, List.set_append_right _ _ (Nat.le_refl _), Nat.sub_self]
  simp
theorem vvl_set : ∀ {L : List VV} {i : Nat} {f : VV}, i < L.length → (((vvl L).set (i * 3) (.int .i64 f.k)).set (i * 3 + 1) (.int .u64 f.n)).set (i * 3 + 2) (.string f.s) = vvl (L.set i f) := by
  intro L
  induction L with
  | nil => intro i f h; simp at h
  | cons x L ih =>
    intro i f h
    cases i with
    | zero => rfl
    | succ i =>
      have h2 := ih (i := i) (f := f) (by simpa using h)
      rw [List.set_cons_succ]
      show (((x.cells.toList ++ vvl L).set ((i + 1) * 3) _).set ((i + 1) * 3 + 1) _).set ((i + 1) * 3 + 2) _ = x.cells.toList ++ vvl (L.set i f)
      have hx : x.cells.toList.length = 3 := rfl
      rw [List.set_append_right _ _ (by omega), List.set_append_right _ _ (by omega), List.set_append_right _ _ (by omega), ← h2, hx]
      rw [show (i + 1) * 3 - 3 = i * 3 by omega, show (i + 1) * 3 + 1 - 3 = i * 3 + 1 by omega, show (i + 1) * 3 + 2 - 3 = i * 3 + 2 by omega]
/-- block B is the row of these values -/
def VOutAt (W : World) (B : Nat) (L : List VV) : Prop := W.heap[B]? = some (.cells (vvl L).toArray 42 (0, 0))
theorem VOutAt.lt {W : World} {B : Nat} {L : List VV} (h : VOutAt W B L) : B < W.heap.size := (Array.getElem?_eq_some_iff.1 h).1
theorem VOutAt.below {W W' : World} {B : Nat} {L : List VV} (h : VOutAt W B L) (hb : Below W.heap.size W W') : VOutAt W' B L := (hb.block B h.lt).trans h
theorem VOutAt.room {W : World} {B : Nat} {L : List VV} {i : Nat} (h : VOutAt W B L) (hi : i < L.length) : ∃ f : VV,
    (W.cell? ⟨B, i * 3, none⟩ = some (.int .i64 f.k) ∧ W.cell? ⟨B, i * 3 + 1, none⟩ = some (.int .u64 f.n) ∧ W.cell? ⟨B, i * 3 + 2, none⟩ = some (.string f.s)) ∧
    W.frozen? ⟨B, i * 3, none⟩ = false ∧ W.frozen? ⟨B, i * 3 + 1, none⟩ = false ∧ W.frozen? ⟨B, i * 3 + 2, none⟩ = false := by
  have hz : ∀ i, W.frozen? ⟨B, i, none⟩ = false := fun i => by simp [World.frozen?, show W.heap[B]? = _ from h]
  have hc : ∀ i, W.cell? ⟨B, i, none⟩ = (vvl L)[i]? := fun i => by simp [World.cell?, show W.heap[B]? = _ from h]
  have hf : L[i]? = some L[i] := List.getElem?_eq_getElem hi
  have hw : ∀ j, j < 3 → W.cell? ⟨B, i * 3 + j, none⟩ = L[i].cells[j]? := fun j hj => by
    rw [hc, Nat.mul_comm]; exact vvl_at hf j hj
  exact ⟨L[i], ⟨hw 0 (by omega), hw 1 (by omega), hw 2 (by omega)⟩, hz _, hz _, hz _⟩
theorem VOutAt.set {W : World} {B : Nat} {L : List VV} {i : Nat} (h : VOutAt W B L) (hi : i < L.length) (f : VV) :
    VOutAt (((W.setCell ⟨B, i * 3, none⟩ (.int .i64 f.k)).setCell ⟨B, i * 3 + 1, none⟩ (.int .u64 f.n)).setCell ⟨B, i * 3 + 2, none⟩ (.string f.s)) B (L.set i f) := by
  unfold VOutAt
  rw [← vvl_set hi, ← List.setIfInBounds_toArray, ← List.setIfInBounds_toArray, ← List.setIfInBounds_toArray]
  exact heap_setCell_same _ B _ _ _ _ (heap_setCell_same _ B _ _ _ _ (heap_setCell_same W B _ _ _ _ h))
theorem VOutAt.own {W : World} {B base n : Nat} {L : List VV} (h : VOutAt W B L) (hl : L.length = n) (hn : n ≤ 1000) (hb : base ≤ B) : W.ownsRow base 42 3 (.slice (some ⟨B, 0, none⟩) n n) n (vvl L) := by
  have h3 := vvl_len L
  refine ⟨by omega, .inr ⟨B, n, (vvl L).toArray, rfl, hb, h, Nat.le_refl _, by unfold maxLen; omega, by simp; omega, ?_⟩⟩
  rw [show (vvl L).toArray.toList = vvl L from rfl, List.take_of_length_le (by omega)]
theorem made_vals (k : Nat) : madeCells (Value.agg #[.int .i64 0, .int .u64 0, .string ⟨#[]⟩]).cells (k * 3) = (vvl (List.replicate k VV.zero)).toArray := by
  have hl : (vvl (List.replicate k VV.zero)).length = 3 * k := by rw [vvl_len, List.length_replicate]
  apply Array.ext
  · rw [size_madeCells]; simp [hl]; omega
  · intro i h1 h2
    rw [size_madeCells] at h1
    have hq : i / 3 < k := by omega
    have := vvl_at (l := List.replicate k VV.zero) (i := i / 3) (f := VV.zero) (by simp [hq]) (i % 3) (Nat.mod_lt _ (by omega))
    rw [Nat.div_add_mod] at this
    have e2 : (vvl (List.replicate k VV.zero)).toArray[i] = (vvl (List.replicate k VV.zero))[i]'(by simpa using h2) := by simp
    rw [e2]
    apply Option.some.inj
    rw [← List.getElem?_eq_getElem, this]
    simp only [madeCells, Value.cells, Array.getElem_map, Array.getElem_range]
    have hm : i % 3 = 0 ∨ i % 3 = 1 ∨ i % 3 = 2 := by omega
    rcases hm with h | h | h <;> simp [h, VV.zero, VV.cells]
theorem elemVV : Elem Tryd.prog 45 42 (.agg #[.int .i64 0, .int .u64 0, .string ⟨#[]⟩]) 3 32 :=
  ⟨Tryd.underlying45, info_parts (show (Tryd.prog.info? 42).map (fun i => (i.zero, i.size, i.bytes)) = some (some (.agg #[.int .i64 0, .int .u64 0, .string ⟨#[]⟩]), 3, 32) by kernel_rfl), rfl, by omega⟩
theorem run_mkvals (W : World) (n : Nat) (hn : n ≤ 1000) : (Instr.makeSlice 45 (.int .i64 (n : Int)) (.int .i64 (n : Int))).run Tryd.prog W = .ok (.slice (some ⟨W.heap.size, 0, none⟩) n n) (W.alloc (.cells (vvl (List.replicate n VV.zero)).toArray 42)) := by
  obtain ⟨i, hi, hz, hs, hb⟩ := elemVV.info
  have h := run_make (P := Tryd.prog) W _ _ i _ elemVV.ht hi hz .i64 .i64 (n : Int) (n : Int) (by omega) (Int.le_refl _) (by rw [hb]; omega) (by omega)
  rw [h, hs, Int.toNat_natCast, made_vals]
/-- values and an error, the values in a row of the call's own -/
def RPost (q : List VV × Int) (w : World) (e : Ending) (w' : World) : Prop :=
  ∃ A c, e = .returned (.tuple #[.slice A q.1.length c, .int .i64 q.2]) ∧ w'.ownsRow w.heap.size 42 3 (.slice A q.1.length c) q.1.length (vvl q.1) ∧ Below w.heap.size w w'
theorem rpost_err {q : List VV × Int} {w w' : World} {e : Int} (h : q = ([], e)) (hB : Below w.heap.size w w') : RPost q w (.returned (.tuple #[.slice none 0 0, .int .i64 e])) w' :=
  ⟨none, 0, by rw [h]; rfl, by rw [h]; exact World.ownsRow_nil w' _ _ _, hB⟩
theorem below_set3v {B R a b c : Nat} {w W : World} (h : Below B w W) (hB : B ≤ R) (v0 v1 v2 : Value) : Below B w (((W.setCell ⟨R, a, none⟩ v0).setCell ⟨R, b, none⟩ v1).setCell ⟨R, c, none⟩ v2) :=
  ((h.setCell (p := ⟨R, a, none⟩) hB _).setCell (p := ⟨R, b, none⟩) hB _).setCell (p := ⟨R, c, none⟩) hB _
theorem wof_flds {b : List UInt8} {num : Int} : ∀ f ∈ wall num (wof b).1, -9223372036854775808 ≤ f.num ∧ f.num ≤ 9223372036854775807 ∧ f.val < 18446744073709551616 := fun _ hf => wrd_ok (wall_mem hf).1
set_option maxRecDepth 100000 in
set_option maxHeartbeats 4000000 in
theorem dread_any (s : ByteArray) (n : Nat) (hs : s.size ≤ 4096) (hn : n ≤ 1000) (w : World) (hK : Kinds w) :
    Calls Tryd.prog 62 #[.string s, .int .i64 n] w (RPost (drd s.data.toList n) w) := by
  obtain ⟨q, hq⟩ : ∃ q, drd s.data.toList n = q := ⟨_, rfl⟩
  rw [hq]
  unfold drd at hq
  obtain ⟨c0, W0, hcv, hr0, hB0, hc0, hc1⟩ := run_bytes w s
  have hof := of_any s.data.toList (some ⟨w.heap.size, 0, none⟩) s.size c0 (by simp) hc0 (by have := hc1 (by unfold maxLen; omega); unfold maxLen at this; exact this) W0 hr0
  unfold OfPost at hof
  have HRD := Lib.hid (wof_rd s.data.toList)
  have hl256 := wof_256R s.data.toList
  obtain ⟨o, ho⟩ : ∃ o, wof s.data.toList = o := ⟨_, rfl⟩
  rw [ho] at hof hq HRD hl256
  obtain ⟨l, er⟩ := o
  simp only at hof hq HRD hl256
  clear ho hr0 hc0 hc1
  obtain ⟨m, hm⟩ : ∃ m, l.length = m := ⟨_, rfl⟩
  rw [hm] at hof hl256
  have HM := Lib.hid hm
  have HQ := Lib.hid hq
  clear hm hq
  go_enter Tryd.func62, Tryd.ntmps62
  go_wp2_with fail
  refine hof.mono ?_
  rintro e w1 ⟨A1, c1, rfl, ho1, hB1⟩
  have hW1 := bel_step hB0 hB1
  clear hof hcv hB0 hB1
  by_cases he : er = 0
  · subst he
    have hall := all_any 1 l A1 c1 (by rw [HM.out]; omega) w1 (Rd.of_own ho1)
    have HQ2 : Hid ((if (wall 1 l).length = n ∧ dtexts (wall 1 l) = true then (if ferr ((wall 1 l).map fun f => (dcv f).2) = 0 then ((wall 1 l).map fun f => (dcv f).1, 0) else ([], ferr ((wall 1 l).map fun f => (dcv f).2))) else ([], 4)) = q) := Lib.hid (by have := HQ.out; rwa [if_pos rfl] at this)
    have HT : Hid (∀ f ∈ wall 1 l, f.text.size ≤ 4096) := Lib.hid fun f hf => by
      obtain ⟨_, _, _, _, _, h⟩ := HRD.out f (wall_mem hf).1
      exact h
    have hwl := wall_len 1 l
    rw [HM.out] at hall hwl
    generalize wall 1 l = cl at *
    obtain ⟨k, hk⟩ : ∃ k, cl.length = k := ⟨_, rfl⟩
    rw [hk] at hall hwl
    have HKL := Lib.hid hk
    clear hk HQ ho1
    go_wp2_with fail
    refine hall.mono ?_
    rintro e w2 ⟨A2, c2, rfl, ho2, hB2⟩
    have hW2 := bel_step hW1 hB2
    clear hall hB2
    by_cases hkn : k = n
    · subst hkn
      have hcon := dcontains_any cl A2 c2 (by rw [HKL.out]; exact hn) w2 (by have := Rd.of_own ho2; exact this)
      rw [HKL.out] at hcon
      have HQ3 : Hid ((if dtexts cl = true then (if ferr (cl.map fun f => (dcv f).2) = 0 then (cl.map fun f => (dcv f).1, 0) else ([], ferr (cl.map fun f => (dcv f).2))) else ([], 4)) = q) := Lib.hid (by
        have := HQ2.out
        rw [HKL.out] at this
        by_cases hd : dtexts cl = true
        · rwa [if_pos ⟨rfl, hd⟩, ← if_pos (c := dtexts cl = true) (t := (if ferr (cl.map fun f => (dcv f).2) = 0 then (cl.map fun f => (dcv f).1, 0) else ([], ferr (cl.map fun f => (dcv f).2)))) (e := (([] : List VV), (4 : Int))) hd] at this
        · rw [if_neg (fun h => hd h.2)] at this
          rw [if_neg hd]; exact this)
      obtain ⟨tx, htx⟩ : ∃ t, dtexts cl = t := ⟨_, rfl⟩
      rw [htx] at hcon HQ3
      clear htx HQ2
      have hmk := fun W => run_mkvals W k hn
      go_wp2_with fail
      refine hcon.mono ?_
      rintro e w3 ⟨rfl, hB3⟩
      have hW3 := bel_step hW2 hB3
      have hr3 := (Rd.of_own ho2).below hB3 (Nat.le_refl _)
      have hs3 := hB3.size
      clear hcon
      cases tx
      case false =>
        have HQ4 : Hid (q = ([], 4)) := Lib.hid (by have := HQ3.out; rw [if_neg (by decide)] at this; exact this.symm)
        clear HQ3 hmk
        go_wp2_with fail
        go_ret2
        exact rpost_err HQ4.out hW3
      have HQ4 : Hid ((if ferr (cl.map fun f => (dcv f).2) = 0 then (cl.map fun f => (dcv f).1, 0) else ([], ferr (cl.map fun f => (dcv f).2))) = q) := Lib.hid (by have := HQ3.out; rwa [if_pos rfl] at this)
      have HR := Lib.hid (hr3.more hs3)
      clear HQ3 ho2 hr3 hB3 hs3
      go_wp2_with fail
      have hO0 : VOutAt (w3.alloc (.cells (vvl (List.replicate k VV.zero)).toArray 42)) w3.heap.size (List.replicate k VV.zero) := World.alloc_heap_new w3 _
      have hE0 : Below w3.heap.size w3 (w3.alloc (.cells (vvl (List.replicate k VV.zero)).toArray 42)) := (Below.refl _ w3).alloc (Nat.le_refl _) _
      clear hmk
      go_loopw [34] (fun i wr => ∃ (j : Nat) (L : List VV), i = .int .i64 j ∧ j ≤ k ∧ L = (cl.take j).map (fun f => (dcv f).1) ++ List.replicate (k - j) VV.zero ∧ ferr (cl.map fun f => (dcv f).2) = ferr ((cl.drop j).map fun f => (dcv f).2) ∧ VOutAt wr w3.heap.size L ∧ Below w3.heap.size w3 wr) (fun i _ => k - (intOf i).toNat)
      case atStart => exact ⟨0, _, rfl, Nat.zero_le _, by simp, rfl, hO0, hE0⟩
      case round =>
        clear hO0 hE0
        obtain ⟨j, L, rfl, hj, hL, he, hO, hB⟩ := hrel
        have hs := hB.size
        have HL := Lib.hid hL
        have HE := Lib.hid he
        clear hL he
        by_cases hlt : j < k
        · obtain ⟨f, hf⟩ : ∃ f, cl[j]? = some f := ⟨_, List.getElem?_eq_getElem (by rw [HKL.out]; exact hlt)⟩
          obtain ⟨b1, o1, rfl, hb1, g0, g1, g2, g3⟩ := fld_at (HR.out.below hB (Nat.le_refl _)) hf
          have hft := HT.out f (List.mem_of_getElem? hf)
          have HEC : Hid (ferr (cl.map fun f => (dcv f).2) = if (dcv f).2 = 0 then ferr ((cl.drop (j + 1)).map fun f => (dcv f).2) else (dcv f).2) := Lib.hid (by rw [HE.out, ferr_cons (f := fun f => (dcv f).2) hf])
          have hLl : L.length = k := by rw [HL.out]; simp [HKL.out]; omega
          have HLN : Hid (L.set j (dcv f).1 = (cl.take (j + 1)).map (fun f => (dcv f).1) ++ List.replicate (k - (j + 1)) VV.zero) := Lib.hid (by
            have h := pad_set (z := VV.zero) (f := (dcv f).1) (n := k) (a := (cl.take j).map fun f => (dcv f).1) (by simp [HKL.out]; omega)
            have e : ((cl.take j).map fun f => (dcv f).1).length = j := by simp [HKL.out]; omega
            rw [List.length_append, e] at h
            rw [HL.out, h, List.take_add_one, hf]
            simp)
          have HLL := Lib.hid hLl
          obtain ⟨num, kind, val, text⟩ := f
          simp only at g0 g1 g2 g3 hft
          obtain ⟨c5, W5, hcv, hr5, hB5, hc5, hc6⟩ := run_bytes wr text
          have hof := of_any text.data.toList (some ⟨wr.heap.size, 0, none⟩) text.size c5 (by simp) hc5 (by have := hc6 (by unfold maxLen; omega); unfold maxLen at this; exact this) W5 hr5
          unfold OfPost at hof
          have hrd := fun f (h : f ∈ (wof text.data.toList).1) => wrd_ok h
          have h256 := wof_256R text.data.toList
          have HDC : Hid (dcv ⟨num, kind, val, text⟩ = if (wof text.data.toList).2 = 0 then vof 1 false (wof text.data.toList).1 else (VV.zero, (wof text.data.toList).2)) := Lib.hid rfl
          obtain ⟨o, ho⟩ : ∃ o, wof text.data.toList = o := ⟨_, rfl⟩
          rw [ho] at hof hrd h256 HDC
          obtain ⟨tl, te⟩ := o
          simp only at hof hrd h256 HDC
          obtain ⟨dq, hdq⟩ : ∃ d, dcv ⟨num, kind, val, text⟩ = d := ⟨_, rfl⟩
          rw [hdq] at HDC HEC HLN
          obtain ⟨⟨vk, vn, vs⟩, ve⟩ := dq
          simp only at HDC HEC HLN
          obtain ⟨tm, htm⟩ : ∃ m, tl.length = m := ⟨_, rfl⟩
          rw [htm] at hof h256
          have HTM := Lib.hid htm
          have HRD2 := Lib.hid hrd
          have hO5 := hO.below hB5
          have hB6 := bel_step' hB (Nat.le_refl _) hB5
          clear ho hdq htm hf hrd hr5 hc5 hc6 hLl HE hB5
          go_wp2_with fail
          refine hof.mono ?_
          rintro e w6 ⟨A6, c6, rfl, ho6, hB7⟩
          have hO6 := hO5.below hB7
          have hB8 := bel_step hB6 hB7
          clear hof hcv hO5 hB6 hB7 hO g0 g1 g2 g3
          by_cases he : te = 0
          · subst he
            have HDC2 : Hid (vof 1 false tl = (⟨vk, vn, vs⟩, ve)) := Lib.hid (by have := HDC.out; rw [if_pos rfl] at this; exact this.symm)
            have hv := vof_any tl A6 c6 1 false (by rw [HTM.out]; omega) HRD2.out w6 (Rd.of_own ho6) (hK.below (bel_step hW3 hB8) hK.pos)
            rw [HDC2.out, HTM.out] at hv
            unfold VV.cells at hv
            simp only at hv
            clear HDC HDC2 ho6
            go_wp2_with fail
            refine hv.mono ?_
            rintro e w7 ⟨rfl, hB9⟩
            have hO7 := hO6.below hB9
            have hB10 := bel_step hB8 hB9
            obtain ⟨fz, ⟨z0, z1, z2⟩, y0, y1, y2⟩ := hO7.room (i := j) (by rw [HLL.out]; exact hlt)
            have HO8 := Lib.hid (hO7.set (i := j) (by rw [HLL.out]; exact hlt) ⟨vk, vn, vs⟩)
            clear hv hO6 hO7 hB8 hB9
            by_cases hve : ve = 0
            · subst hve
              have HEC2 : Hid (ferr (cl.map fun f => (dcv f).2) = ferr ((cl.drop (j + 1)).map fun f => (dcv f).2)) := Lib.hid (by have := HEC.out; rwa [if_pos rfl] at this)
              clear HEC
              go_wp2_with fail
              go_roundw
              case rel => exact ⟨j + 1, _, by go_num, by omega, HLN.out, HEC2.out, HO8.out, below_set3v hB10 (Nat.le_refl _) _ _ _⟩
              case measure => simp [intOf]; omega
            · have hbe : (ve != 0) = true := by simpa using hve
              have HQ5 : Hid (q = ([], ve)) := Lib.hid (by
                have h1 := HEC.out
                rw [if_neg hve] at h1
                rw [← HQ4.out, h1, if_neg hve])
              clear hve HEC
              go_wp2_with fail
              go_ret2
              exact rpost_err HQ5.out (bel_step hW3 (below_set3v hB10 (Nat.le_refl _) _ _ _))
          · have hbe : ((te : Int) != 0) = true := by simp; omega
            have HQ5 : Hid (q = ([], (te : Int))) := Lib.hid (by
              have h0 := HDC.out
              rw [if_neg he] at h0
              have h2 : ve = (te : Int) := congrArg Prod.snd h0
              have h1 := HEC.out
              rw [if_neg (by rw [h2]; omega), h2] at h1
              rw [← HQ4.out, h1, if_neg (by omega)])
            clear he HEC HDC ho6
            go_wp2_with fail
            go_ret2
            exact rpost_err HQ5.out (bel_step hW3 hB8)
        · obtain rfl : j = k := by omega
          have hz : ferr (cl.map fun f => (dcv f).2) = 0 := by rw [HE.out, List.drop_eq_nil_of_le (by rw [HKL.out]; exact Nat.le_refl _)]; rfl
          have hLe : L = cl.map fun f => (dcv f).1 := by
            rw [HL.out, List.take_of_length_le (by rw [HKL.out]; exact Nat.le_refl _)]; simp
          have hq : q = (L, 0) := by rw [hLe, ← HQ4.out, if_pos hz]
          have hll : L.length = j := by rw [hLe]; simp [HKL.out]
          subst hq
          have ho := hO.own hll hn (Nat.le_refl _)
          clear hlt HE HL hLe hz HQ4 hO
          go_wp2_with fail
          go_ret2
          refine ⟨some ⟨w3.heap.size, 0, none⟩, j, ?_, ?_, bel_step hW3 hB⟩
          · show _ = Ending.returned (.tuple #[.slice _ L.length j, .int .i64 0])
            rw [hll]; rfl
          · show World.ownsRow _ _ _ _ (.slice _ L.length j) L.length _
            rw [hll]; exact own_base ho hW3.size
    · have hbe : ((k : Int) != (n : Int)) = true := by simp; omega
      have HQ3 : Hid (q = ([], 4)) := Lib.hid (by have := HQ2.out; rw [if_neg (by rw [HKL.out]; exact fun h => hkn h.1)] at this; exact this.symm)
      clear hkn HQ2 ho2
      go_wp2_with fail
      go_ret2
      exact rpost_err HQ3.out hW2
  · have hbe : ((er : Int) != 0) = true := by simp; omega
    have HQ2 : Hid (q = ([], (er : Int))) := Lib.hid (by have := HQ.out; rw [if_neg he] at this; exact this.symm)
    clear he HQ ho1
    go_wp2_with fail
    go_ret2
    exact rpost_err HQ2.out hW1
end Go.Proofs.YtlgokfgbcohioaaDoor
