/- WALK: props.put -/
import Derived.Test.YtlgokfgbcohioaaDoorPpTM
import Derived.Test.YtlgokfgbcohioaaDoorPpOM
import Derived.IntWalk
namespace Go.Proofs.YtlgokfgbcohioaaDoor
open Go.RowKit Plain

def pkl (l : List Pn) : List Fld := l.map fun p => pkfl p.key
def pvl (l : List Pn) (d : Nat) : List Fld := l.map fun p => pvfl (p.tell d)
theorem pput_flds (l : List Pn) (d : Nat) : ∀ f ∈ pkl l ++ pvl l d, FldOk f := by
  intro f hf
  rcases List.mem_append.1 hf with hf | hf
  · obtain ⟨p, _, rfl⟩ := List.mem_map.1 hf
    exact ⟨by simp [pkfl], by simp [pkfl], by simp [pkfl]⟩
  · obtain ⟨p, _, rfl⟩ := List.mem_map.1 hf
    exact ⟨by simp [pvfl], by simp [pvfl], by simp [pvfl]⟩
set_option maxRecDepth 100000 in
set_option maxHeartbeats 4000000 in
theorem pput_step (l : Ps) (ih : ∀ p ∈ l.list, ∀ (deep : Nat) (A : Option Addr) (c : Nat) (w : World), deep ≤ 9 → p.sub.Ok → p.sub.list.length ≤ 9223372036854775807 → p.sub.At w w.heap.size A → Kinds w →
      Calls Tryd.prog 44 #[.slice A p.sub.list.length c, .int .i64 deep] w (BPost (p.sub.put deep) w))
    (deep : Nat) (A : Option Addr) (c : Nat) (w : World) (hdeep : deep ≤ 9) (hok : l.Ok) (hlen : l.list.length ≤ 9223372036854775807) (hat : l.At w w.heap.size A) (hK : Kinds w) :
    Calls Tryd.prog 44 #[.slice A l.list.length c, .int .i64 deep] w (BPost (l.put deep) w) := by
  obtain ⟨q, hq⟩ : ∃ q, l.put deep = q := ⟨_, rfl⟩
  rw [hq]
  rw [Ps.put_list] at hq
  by_cases hd8 : 8 < deep
  · have hd : decide ((8 : Int) < (deep : Int)) = true := decide_eq_true (by omega)
    rw [if_pos hd8] at hq
    have HQ := Lib.hid hq.symm
    clear ih hok hat hq hd8 hdeep
    generalize l.list.length = n at *
    go_enter Tryd.func44, Tryd.ntmps44
    go_wp2_with fail
    go_ret2
    exact bpost_err HQ.out (Below.refl _ _)
  rw [if_neg hd8] at hq
  have hd : decide ((8 : Int) < (deep : Int)) = false := decide_eq_false (by omega)
  have htell : ∀ p ∈ l.list, ∀ W, Below w.heap.size w W → Calls Tryd.prog 71 #[p.agg, .int .i64 deep] W (BPost (p.tell deep) W) := by
    intro p hp W hB
    obtain ⟨h1, h2, h3, h4⟩ := Ps.ok_mem hok p hp
    refine ptell_any p deep (by omega) h1 h2 W (hK.below hB hK.pos) fun W2 hB2 => ?_
    have hB3 := bel_step hB hB2
    have := ih p hp (deep + 1) p.adr p.cap W2 (by omega) h4 h3 (((hat.sub hp).below hB3 (Nat.le_refl _)).more hB3.size) (hK.below hB3 hK.pos)
    exact this
  have HTELL := Lib.hid htell
  have HR := Lib.hid hat.rd
  clear ih hok hat hK htell
  generalize l.list = ps at *
  obtain ⟨n, hn⟩ : ∃ n, ps.length = n := ⟨_, rfl⟩
  rw [hn] at hlen hq ⊢
  have HN := Lib.hid hn
  by_cases h32 : 32 < n
  · have h32d : decide ((32 : Int) < (n : Int)) = true := decide_eq_true (by omega)
    rw [if_pos h32] at hq
    have HQ := Lib.hid hq.symm
    clear hq h32 hd8 hdeep hn
    go_enter Tryd.func44, Tryd.ntmps44
    go_wp2_with fail
    go_ret2
    exact bpost_err HQ.out (Below.refl _ _)
  rw [if_neg h32] at hq
  have h32d : decide ((32 : Int) < (n : Int)) = false := decide_eq_false (by omega)
  have hn32 : n ≤ 32 := by omega
  have HQ : Hid ((if perrs (ps.map fun p => p.tell deep) = 0 then wput (pkl ps ++ pvl ps deep) else ([], perrs (ps.map fun p => p.tell deep))) = q) := Lib.hid hq
  have HD8 := Lib.hid hd8
  clear hq h32 hd8 hn hdeep
  have hmk := fun W => run_mkflds W n (by omega)
  go_enter Tryd.func44, Tryd.ntmps44
  go_wp2_with fail
  have hO0 : OutAt (w.alloc (.cells (flc (outl n [] [])).toArray 73)) w.heap.size (outl n [] []) := World.alloc_heap_new w _
  have hE0 : Below w.heap.size w (w.alloc (.cells (flc (outl n [] [])).toArray 73)) := (Below.refl _ w).alloc (Nat.le_refl _) _
  clear hmk
  go_loopw [24] (fun i wr => ∃ (j : Nat) (L : List Fld), i = .int .i64 j ∧ j ≤ n ∧ L = outl n (pkl (ps.take j)) (pvl (ps.take j) deep) ∧ perrs (ps.map fun p => p.tell deep) = perrs ((ps.drop j).map fun p => p.tell deep) ∧ OutAt wr w.heap.size L ∧ Below w.heap.size w wr) (fun i _ => n - (intOf i).toNat)
  case atStart => exact ⟨0, _, rfl, Nat.zero_le _, rfl, rfl, hO0, hE0⟩
  case round =>
    clear hO0 hE0
    obtain ⟨j, L, rfl, hj, hL, he, hO, hB⟩ := hrel
    have hs := hB.size
    have HL := Lib.hid hL
    have HE := Lib.hid he
    clear hL he
    by_cases hlt : j < n
    · obtain ⟨p, hp⟩ : ∃ p, ps[j]? = some p := ⟨_, List.getElem?_eq_getElem (by rw [HN.out]; exact hlt)⟩
      have hcell := HTELL.out p (List.mem_of_getElem? hp)
      obtain ⟨b1, o1, rfl, hb1, hpa⟩ := prop_at (HR.out.below hB (Nat.le_refl _)) hp
      obtain ⟨g0, g1, g2, g3, g4, g5, g6⟩ := hpa
      have hkl : (pkl (ps.take j)).length = j := by simp [pkl, HN.out]; omega
      have hvl : (pvl (ps.take j) deep).length = j := by simp [pvl, HN.out]; omega
      have hL1 := outl_set1 (n := n) (a := pkl (ps.take j)) (b := pvl (ps.take j) deep) (f := pkfl p.key) (by rw [hkl]; exact hlt)
      have hL2 := outl_set2 (n := n) (a := pkl (ps.take j) ++ [pkfl p.key]) (b := pvl (ps.take j) deep) (f := pvfl (p.tell deep)) (by simp [hkl]; omega) (by rw [hvl]; exact hlt)
      have hlen0 := outl_len (n := n) (a := pkl (ps.take j)) (b := pvl (ps.take j) deep) (by rw [hkl]; omega) (by rw [hvl]; omega)
      have HT : Hid ((L.set j (pkfl p.key)).set (n + j) (pvfl (p.tell deep)) = outl n (pkl (ps.take (j + 1))) (pvl (ps.take (j + 1)) deep)) := Lib.hid (by
        rw [hkl] at hL1
        rw [hvl] at hL2
        rw [HL.out, hL1, hL2, List.take_add_one, hp]
        simp [pkl, pvl])
      rw [← HL.out] at hlen0
      have HLL := Lib.hid hlen0
      have HD : Hid (perrs (ps.map fun p => p.tell deep) = if (p.tell deep).2 = 0 then perrs ((ps.drop (j + 1)).map fun p => p.tell deep) else (p.tell deep).2) := Lib.hid (by rw [HE.out, drop_cons hp]; rfl)
      clear hkl hvl hL1 hL2 hlen0 hp HL HE
      unfold Pn.agg BPost at hcell
      have HPV : Hid (pvfl (p.tell deep) = ⟨2, 2, 0, ⟨(p.tell deep).1.toArray⟩⟩) := Lib.hid rfl
      obtain ⟨tq, htq⟩ : ∃ t, p.tell deep = t := ⟨_, rfl⟩
      rw [htq] at hcell HT HD HPV
      obtain ⟨cb, ce⟩ := tq
      simp only at hcell HT HD HPV
      clear htq
      obtain ⟨key, type, null, ⟨pk, pn, pss⟩, adr, cap, sub⟩ := p
      simp only at hcell g0 g1 g2 g3 g4 g5 g6
      generalize sub.list.length = SL at *
      have hBa := hB.alloc hs (Obj.cells #[.string key, .int .u32 type, .bool null, .int .i64 pk, .int .u64 pn, .string pss, .slice adr SL cap] 82)
      have hXa : (wr.alloc (Obj.cells #[.string key, .int .u32 type, .bool null, .int .i64 pk, .int .u64 pn, .string pss, .slice adr SL cap] 82)).heap[wr.heap.size]? = some (.cells #[.string key, .int .u32 type, .bool null, .int .i64 pk, .int .u64 pn, .string pss, .slice adr SL cap] 82 (0, 0)) := World.alloc_heap_new wr _
      have hOa : OutAt (wr.alloc (Obj.cells #[.string key, .int .u32 type, .bool null, .int .i64 pk, .int .u64 pn, .string pss, .slice adr SL cap] 82)) w.heap.size L := (Below.heap_alloc wr _ _ hO.lt).trans hO
      have hBr : w.heap.size < wr.heap.size := hO.lt
      have hra : wr.heap.size < (wr.alloc (Obj.cells #[.string key, .int .u32 type, .bool null, .int .i64 pk, .int .u64 pn, .string pss, .slice adr SL cap] 82)).heap.size := by simp
      go_wp2_with fail
      refine (hcell _ hBa).mono ?_
      rintro e w1 ⟨A1, c1, rfl, ho1, hB1⟩
      have hO1 := hOa.below hB1
      have hX1 := (hB1.block _ hra).trans hXa
      have hB2 := bel_step hB (((Below.refl _ wr).alloc (Nat.le_refl _) _).trans (hB1.mono (Nat.le_of_lt hra)))
      have hr1 : wr.heap.size < w1.heap.size := Nat.lt_of_lt_of_le hra hB1.size
      have ho1b := own_base ho1 (Nat.le_of_lt hra)
      clear hcell hB1 hOa hXa hra hBa hO hB g0 g1 g2 g3 g4 g5 g6 ho1
      by_cases h0 : ce = 0
      · subst h0
        have HD2 : Hid (perrs (ps.map fun p => p.tell deep) = perrs ((ps.drop (j + 1)).map fun p => p.tell deep)) := Lib.hid (by have := HD.out; rwa [if_pos rfl] at this)
        clear HD
        go_wp2_with fail
        have hX2 : w1.drew.heap[wr.heap.size]? = some (.cells #[.string key, .int .u32 type, .bool null, .int .i64 pk, .int .u64 pn, .string pss, .slice adr SL cap] 82 (0, 0)) := hX1
        have hO2 : OutAt w1.drew w.heap.size L := hO1
        have hB3 := hB2.drew
        have ho2 : w1.drew.ownsRow wr.heap.size 5 1 (.slice A1 cb.length c1) cb.length (bcl cb) := ho1b
        have hr2 : wr.heap.size < w1.drew.heap.size := hr1
        refine wp_region_LG (exB w.heap.size) 17 [0, 1, 2, 3, 4, 5, 6, 7, 8, 10, 11, 9, 12, 13, 14, 15, 16] rfl (by decide) (by decide) (by kernel_rfl) ?_
        clear hX1 hO1 hB2 ho1b hr1
        generalize w1.drew = W2 at *
        have f0 : ∀ u : World, Ex w.heap.size W2 u → u.cell? ⟨wr.heap.size, 0, none⟩ = some (.string key) := fun u hu => by
          rw [hu.cell hr2 (Nat.ne_of_gt hBr)]
          simp only [World.cell?, hX2]; rfl
        have f1 : ∀ u : World, Ex w.heap.size W2 u → (convert 27 9 (.slice A1 cb.length c1)).run Tryd.prog u = .ok (.string ⟨cb.toArray⟩) u := fun u hu => strB (Rd.of_own (hu.own ho2 hBr)) rfl c1
        clear hX2 ho2
        generalize cb.length = CL at *
        simp only [List.filterMap_cons, List.filterMap_nil, List.getElem?_cons_zero, List.getElem?_cons_succ, Option.map_some]
        iterate 11
          refine wpL_takeG _ (v := ?_) (by kernel_rfl) (by kernel_rfl) (by kernel_rfl) (fun _ _ _ h => h) (by rfl) (fun u hu => ?_) ?_
          rotate_left
          focus
            replace hu : Ex w.heap.size W2 u := hu
            go_simp
            try with_reducible rfl
          simp only [Act.put, List.setIfInBounds_toArray, List.set_cons_zero, List.set_cons_succ]
        clear f0 f1
        refine wpL_doG _ (by kernel_rfl) (by rfl) (fun K hK => ?_)
        go_simp
        go_at_call 72
        have htx := ptext_any 1 key W2
        unfold Fld.cells at htx
        refine htx.mono ?_
        rintro e w6 ⟨rfl, hB6⟩
        refine hK _ _ (Ex.below hB6) ?_
        clear hK K htx
        have hO3 := hO2.below hB6
        have hB7 := bel_step hB3 hB6
        clear hO2 hB3 hB6 hr2
        refine wpL_doG _ (by kernel_rfl) (by rfl) (fun K hK => ?_)
        go_simp
        go_at_call 72
        have htx := ptext_any 2 ⟨cb.toArray⟩ w6
        unfold Fld.cells at htx
        refine htx.mono ?_
        rintro e w8 ⟨rfl, hB8⟩
        refine hK _ _ (Ex.below hB8) ?_
        clear hK K htx
        have hO4 := hO3.below hB8
        have hB9 := bel_step hB7 hB8
        have hjl : j < L.length := by rw [HLL.out]; omega
        have hnl : n + j < L.length := by rw [HLL.out]; omega
        have hO5 := hO4.set hjl ⟨1, 2, 0, key⟩
        have HT2 : Hid ((L.set j ⟨1, 2, 0, key⟩).set (n + j) ⟨2, 2, 0, ⟨cb.toArray⟩⟩ = outl n (pkl (ps.take (j + 1))) (pvl (ps.take (j + 1)) deep)) := Lib.hid HT.out
        have hO6 := hO5.set (i := n + j) (by rw [List.length_set]; exact hnl) ⟨2, 2, 0, ⟨cb.toArray⟩⟩
        obtain ⟨fa, ⟨z0, z1, z2, z3⟩, y0, y1, y2, y3⟩ := hO4.room hjl
        obtain ⟨fb, ⟨z4, z5, z6, z7⟩, y4, y5, y6, y7⟩ := hO5.room (i := n + j) (by rw [List.length_set]; exact hnl)
        have HO6 := Lib.hid hO6
        clear hO3 hB7 hB8 hO4 hO5 hO6 hjl hnl
        have hj2 : (j : Int) < (n : Int) + (n : Int) := by omega
        have hwr := IntWalk.i64_in ((n : Int) + (j : Int)) (by omega)
        have hnn : 0 ≤ (n : Int) + (j : Int) := by omega
        have htn : ((n : Int) + (j : Int)).toNat = n + j := by omega
        have hj3 : (n : Int) + (j : Int) < (n : Int) + (n : Int) := by omega
        refine wpL_takeG _ (v := ?_) (by kernel_rfl) (by kernel_rfl) (by kernel_rfl) (fun _ _ _ h => h) (by rfl) (fun u hu => ?_) ?_
        rotate_left
        focus
          go_simp
          try with_reducible rfl
        simp only [Act.put, List.setIfInBounds_toArray, List.set_cons_zero, List.set_cons_succ]
        refine wpL_doG _ (by kernel_rfl) (by rfl) (fun K hK => ?_)
        go_simp
        refine hK _ _ (Ex.set4 _ _ _ _ _) ?_
        clear hK K z0 z1 z2 z3 y0 y1 y2 y3
        have hB10 := below_set4 (a := j * 4) (b := j * 4 + 1) (c := j * 4 + 2) (d := j * 4 + 3) hB9 (Nat.le_refl _) (.int .i64 1) (.int .i64 2) (.int .u64 0) (.string key)
        generalize (((w8.setCell ⟨w.heap.size, j * 4, none⟩ (.int .i64 1)).setCell ⟨w.heap.size, j * 4 + 1, none⟩ (.int .i64 2)).setCell ⟨w.heap.size, j * 4 + 2, none⟩ (.int .u64 0)).setCell ⟨w.heap.size, j * 4 + 3, none⟩ (.string key) = W9 at *
        refine wpL_takeG _ (v := ?_) (by kernel_rfl) (by kernel_rfl) (by kernel_rfl) (fun _ _ _ h => h) (by rfl) (fun u hu => ?_) ?_
        rotate_left
        focus
          go_simp
          try with_reducible rfl
        simp only [Act.put, List.setIfInBounds_toArray, List.set_cons_zero, List.set_cons_succ]
        refine wpL_doG _ (by kernel_rfl) (by rfl) (fun K hK => ?_)
        go_simp
        refine hK _ _ (Ex.set4 _ _ _ _ _) ?_
        clear hK K z4 z5 z6 z7 y4 y5 y6 y7 hwr hnn htn hj2 hj3
        refine wpL_doneG _ (by kernel_rfl) ?_
        clear w6 hBr hb1
        go_wp2_with fail
        go_roundw
        case rel => exact ⟨j + 1, _, by go_num, by omega, HT2.out, HD2.out, HO6.out, below_set4 hB10 (Nat.le_refl _) _ _ _ _⟩
        case measure => simp [intOf]; omega
      · have hbe : (ce != 0) = true := by simpa using h0
        have hq : q = ([], ce) := by
          have h1 := HD.out
          rw [if_neg h0] at h1
          rw [← HQ.out, h1, if_neg h0]
        have HQ2 := Lib.hid hq
        clear ho1b h0 hq HD
        go_wp2_with fail
        go_ret2
        exact bpost_err HQ2.out hB2
    · obtain rfl : j = n := by omega
      have hz : perrs (ps.map fun p => p.tell deep) = 0 := by rw [HE.out, List.drop_eq_nil_of_le (by rw [HN.out]; exact Nat.le_refl _)]; rfl
      have hLe : L = pkl ps ++ pvl ps deep := by
        rw [HL.out, List.take_of_length_le (by rw [HN.out]; exact Nat.le_refl _), outl_full (by simp [pkl, HN.out]) (by simp [pvl, HN.out])]
      have hq : wput L = q := by rw [hLe, ← HQ.out, if_pos hz]
      have hll : L.length = j + j := by rw [hLe]; simp [pkl, pvl, HN.out]
      have hpl := playd_any L (some ⟨w.heap.size, 0, none⟩) (j + j) (by rw [hll]; omega) (by rw [hLe]; exact pput_flds ps deep) wr hO.rd
      rw [hq, hll] at hpl
      clear hq hz hLe hlt HE HL
      go_wp2_with fail
      refine hpl.mono ?_
      rintro e w3 ⟨A3, c3, rfl, ho3, hB3⟩
      go_wp2_with fail
      go_ret2
      exact ⟨A3, c3, rfl, own_base ho3 hs, bel_step hB hB3⟩
/-- what props.put answers -/
theorem pput_any : ∀ (l : Ps) (deep : Nat) (A : Option Addr) (c : Nat) (w : World), deep ≤ 9 → l.Ok → l.list.length ≤ 9223372036854775807 → l.At w w.heap.size A → Kinds w →
    Calls Tryd.prog 44 #[.slice A l.list.length c, .int .i64 deep] w (BPost (l.put deep) w) :=
  Ps.ind fun l ih deep A c w h1 h2 h3 h4 h5 => pput_step l ih deep A c w h1 h2 h3 h4 h5
set_option maxRecDepth 100000 in
theorem pPut_any (l : Ps) (A : Option Addr) (c : Nat) (w : World) (hok : l.Ok) (hlen : l.list.length ≤ 9223372036854775807) (hat : l.At w w.heap.size A) (hK : Kinds w) :
    Calls Tryd.prog 17 #[.slice A l.list.length c] w (BPost (l.put 1) w) := by
  have h : Calls Tryd.prog 44 #[.slice A l.list.length c, .int .i64 1] w (BPost (l.put 1) w) := pput_any l 1 A c w (by omega) hok hlen hat hK
  generalize l.put 1 = q at *
  generalize l.list.length = n at *
  clear hok hat hK
  go_enter Tryd.func17, Tryd.ntmps17
  go_wp2_with fail
  refine h.mono ?_
  rintro e w1 ⟨A1, c1, rfl, ho, hB⟩
  go_wp2_with fail
  go_ret2
  exact ⟨A1, c1, rfl, ho, hB⟩
end Go.Proofs.YtlgokfgbcohioaaDoor
