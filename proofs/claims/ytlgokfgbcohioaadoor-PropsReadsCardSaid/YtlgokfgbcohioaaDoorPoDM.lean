/- WALK: props.of (printed by genpod.py) -/
import Derived.Test.YtlgokfgbcohioaaDoorPoCM
namespace Go.Proofs.YtlgokfgbcohioaaDoor
open Go.RowKit Plain

section
variable {P : Program} {ops : Array Oper} {Q : Exit → Act → World → Prop} (X : Rel)
theorem wpL_swapG {n m k1 k2 : Nat} {o1 o2 : Oper} {rest : List (Nat × Oper)} {a : Act} {w : World} (h : wpLG X P ops Q n m ((k2, o2) :: (k1, o1) :: rest) a w) : wpLG X P ops Q n m ((k1, o1) :: (k2, o2) :: rest) a w := fun hd hnd hn => by
  rw [left_swapG]
  refine h (fun p hp => hd p (by rcases List.mem_cons.1 hp with rfl | hp; · simp
                                 · rcases List.mem_cons.1 hp with rfl | hp <;> simp [*])) ?_ hn
  simp only [List.map_cons, List.nodup_cons, List.mem_cons, not_or] at hnd ⊢
  exact ⟨⟨fun e => hnd.1.1 e.symm, hnd.2.1⟩, hnd.1.2, hnd.2.2⟩
end
theorem RdS.of_own {W : World} {base : Nat} {e : TypeId} {size n c : Nat} {A : Option Addr} {xs : List Value} (h : W.ownsRow base e size (.slice A n c) n xs) : RdS W (fun k => base ≤ k) A xs := by
  rcases h.2 with ⟨hv, rfl⟩ | ⟨g, cap, cur, hv, hg, hh, hn, hm, hcs, htk⟩
  · exact .inl (List.eq_nil_of_length_eq_zero (by simpa using h.1))
  · injection hv with hA _ _
    subst hA
    refine .inr ⟨g, 0, rfl, (Array.getElem?_eq_some_iff.1 hh).1, hg, fun i hi => ?_⟩
    have hl := h.1
    rw [Nat.zero_add, cell_of_row W g i cur e (0, 0) hh, ← htk, List.getElem?_take_of_lt (by omega)]
    simp
theorem elemP : Elem Tryd.prog 35 82 (.agg #[.string ⟨#[]⟩, .int .u32 0, .bool false, .int .i64 0, .int .u64 0, .string ⟨#[]⟩, .slice none 0 0]) 7 80 :=
  ⟨Tryd.underlying35, info_parts (show (Tryd.prog.info? 82).map (fun i => (i.zero, i.size, i.bytes)) = some (some (.agg #[.string ⟨#[]⟩, .int .u32 0, .bool false, .int .i64 0, .int .u64 0, .string ⟨#[]⟩, .slice none 0 0]), 7, 80) by kernel_rfl), rfl, by omega⟩
set_option maxRecDepth 100000 in
set_option maxHeartbeats 8000000 in
theorem pof_step (n deep : Nat) (hnd : n + 1 + deep = 9) (ih : ∀ (b : List UInt8) (A : Option Addr) (bn c : Nat) (w : World), b.length = bn → bn ≤ c → c ≤ 9223372036854775807 → Rd w w.heap.size A (bcl b) → Kinds w → Calls Tryd.prog 59 #[.slice A bn c, .int .i64 (deep + 1)] w (POPost (pofn n b) w))
    (b : List UInt8) (A : Option Addr) (bn c : Nat) (w : World) (hbn : b.length = bn) (hbc : bn ≤ c) (hcm : c ≤ 9223372036854775807) (hr : Rd w w.heap.size A (bcl b)) (hK : Kinds w) :
    Calls Tryd.prog 59 #[.slice A bn c, .int .i64 deep] w (POPost (pofn (n + 1) b) w) := by
  obtain ⟨q, hq⟩ : ∃ q, pofn (n + 1) b = q := ⟨_, rfl⟩
  rw [hq]
  rw [pofn] at hq
  have hd8 : decide ((8 : Int) < (deep : Int)) = false := decide_eq_false (by omega)
  have hof := of_any b A bn c hbn hbc hcm w hr
  unfold OfPost at hof
  have HRD := Lib.hid (wof_rd b)
  have h256 := wof_256R b
  obtain ⟨o, ho⟩ : ∃ o, wof b = o := ⟨_, rfl⟩
  rw [ho] at hof hq HRD h256
  obtain ⟨l, er⟩ := o
  simp only at hof hq HRD h256
  have HQ := Lib.hid hq
  obtain ⟨m, hm⟩ : ∃ m, l.length = m := ⟨_, rfl⟩
  rw [hm] at hof h256
  have HM := Lib.hid hm
  have HIH := Lib.hid ih
  have HND := Lib.hid hnd
  clear ho hq hm hr hbn ih hnd
  go_enter Tryd.func59, Tryd.ntmps59
  go_wp2_with fail
  refine hof.mono ?_
  rintro e w1 ⟨A1, c1, rfl, ho1, hW1⟩
  clear hof
  by_cases he : er = 0
  rotate_left
  · have hbe : ((er : Int) != 0) = true := by simp; omega
    have HQ2 : Hid (q = (.nil, (er : Int))) := Lib.hid (by have := HQ.out; rw [if_neg he] at this; exact this.symm)
    clear he HQ ho1
    go_wp2_with fail
    go_ret2
    exact popost_err HQ2.out hW1
  subst he
  have hha := halves_any l A1 c1 (by rw [HM.out]; exact h256) w1 (Rd.of_own ho1)
  rw [HM.out] at hha
  unfold HPost at hha
  have HQ2 : Hid ((if phalves l = 0 then (if ferr ((pitems (pofn n) l).map (·.2)) = 0 then (Ps.build ((pitems (pofn n) l).map (·.1)), 0) else (.nil, ferr ((pitems (pofn n) l).map (·.2)))) else (.nil, phalves l)) = q) := Lib.hid (by have := HQ.out; rwa [if_pos rfl] at this)
  have HHO := Lib.hid (phalves_ok (l := l))
  obtain ⟨ph, hph⟩ : ∃ d, phalves l = d := ⟨_, rfl⟩
  rw [hph] at hha HQ2 HHO
  clear HQ ho1 hph
  go_wp2_with fail
  refine hha.mono ?_
  rintro e w2 ⟨K, V, A2, c2, A3, c3, rfl, hrr, hlk, hB2⟩
  have hW2 := bel_step hW1 hB2
  have HLK := Lib.hid hlk
  obtain ⟨hrK, hrV⟩ := hrr
  clear hha hlk hB2 hW1
  by_cases h0 : ph = 0
  rotate_left
  · have hbe : (ph != 0) = true := by simpa using h0
    have HQ3 : Hid (q = (.nil, ph)) := Lib.hid (by have := HQ2.out; rw [if_neg h0] at this; exact this.symm)
    clear h0 HQ2
    go_wp2_with fail
    go_ret2
    exact popost_err HQ3.out hW2
  subst h0
  have hlk := HLK.out rfl
  have hho := HHO.out rfl
  have HQ4' : Hid ((if ferr ((pitems (pofn n) l).map (·.2)) = 0 then (Ps.build ((pitems (pofn n) l).map (·.1)), 0) else (.nil, ferr ((pitems (pofn n) l).map (·.2)))) = q) := Lib.hid (by have := HQ2.out; rwa [if_pos rfl] at this)
  have hits : pitems (pofn n) l = List.zipWith (fun k v => pitem (pofn n) k.text v.text) K V := by unfold pitems; rw [hlk.1, hlk.2]
  rw [← hlk.1, ← hlk.2] at hho
  rw [hits] at HQ4'
  obtain ⟨its, hit⟩ : ∃ d, List.zipWith (fun k v => pitem (pofn n) k.text v.text) K V = d := ⟨_, rfl⟩
  rw [hit] at HQ4'
  have HQ4 := HQ4'
  have HIT := Lib.hid hit
  obtain ⟨nk, hnk⟩ : ∃ k, K.length = k := ⟨_, rfl⟩
  rw [hho.2, hnk]
  rw [hnk] at hho
  have HNK := Lib.hid (And.intro hnk hho.2)
  have hk32 := hho.1
  have hil : its.length = nk := by rw [← hit, List.length_zipWith, hnk, hho.2, Nat.min_self]
  have HIL := Lib.hid hil
  have HVT : Hid (∀ f ∈ V, f.text.size ≤ 4096) := Lib.hid (by
    intro f hf
    rw [hlk.2] at hf
    obtain ⟨_, _, _, _, _, h⟩ := HRD.out f (wall_mem hf).1
    exact h)
  have hK2 := hK.below hW2 hK.pos
  clear hlk hits hit hnk hho HQ2 HHO HLK HQ4' hil HRD
  go_wp2_with fail
  have hE0 := World.ownsRow_nil w2 w2.heap.size 82 7
  go_loopw [10, 35] (fun o i wr => ∃ (j : Nat) (A5 : Option Addr) (c5 : Nat) (new : List Pn), i = .int .i64 j ∧ o = .slice A5 j c5 ∧ j ≤ nk ∧ wr.ownsRow w2.heap.size 82 7 (.slice A5 j c5) j (pcl new) ∧ new.map Pn.strip = (its.take j).map (·.1) ∧ ferr (its.map (·.2)) = ferr ((its.drop j).map (·.2)) ∧
    (∀ p ∈ new, p.Ok) ∧ (∀ p ∈ new, p.sub.AtS wr (fun b => (Value.slice A5 j c5).ownBlock ≠ some b ∧ w2.heap.size ≤ b) p.adr) ∧ Below w2.heap.size w2 wr) (fun _ i _ => nk - (intOf i).toNat)
  case atStart => exact ⟨0, none, 0, [], rfl, rfl, Nat.zero_le _, hE0, by simp, rfl, by simp, by simp, Below.refl _ _⟩
  case round =>
    clear hE0
    obtain ⟨j, A5, c5, new, rfl, rfl, hj, hown, hmap, he, hoks, hnew, hBw⟩ := hrel
    have hs := hBw.size
    have HMAP := Lib.hid hmap
    have HFE0 := Lib.hid he
    have HOKS := Lib.hid hoks
    have HNEW0 := Lib.hid hnew
    clear hmap he hoks hnew
    by_cases hlt : j < nk
    · obtain ⟨kf, hkf⟩ : ∃ f, K[j]? = some f := ⟨_, List.getElem?_eq_getElem (by rw [HNK.out.1]; exact hlt)⟩
      obtain ⟨vf, hvf⟩ : ∃ f, V[j]? = some f := ⟨_, List.getElem?_eq_getElem (by rw [HNK.out.2]; exact hlt)⟩
      obtain ⟨bK, oK, rfl, hbK, _, _, _, k3⟩ := fld_at hrK hkf
      obtain ⟨bV, oV, rfl, hbV, _, _, _, v3⟩ := fld_at hrV hvf
      have hvt := HVT.out vf (List.mem_of_getElem? hvf)
      have hitj : its[j]? = some (pitem (pofn n) kf.text vf.text) := by rw [← HIT.out, List.getElem?_zipWith, hkf, hvf]
      have hrd : ∀ W, Below wr.drew.heap.size wr.drew W → Calls Tryd.prog 84 #[.string kf.text, .string vf.text, .int .i64 deep] W (PRPost (pitem (pofn n) kf.text vf.text) W) := fun W hB => by
        have hKW := (hK2.below hBw hK2.pos).below ((below_drewN (Below.refl wr.heap.size wr) 1).trans hB) (World.block_lt_of_cell? _ _ ((hK2.below hBw hK2.pos) 0 (by omega)))
        exact pread_any kf.text vf.text hvt deep n (by have := HND.out; omega) W hKW (fun b A bn c W' h1 h2 h3 hB' h4 => HIH.out b A bn c W' h1 h2 h3 h4 (hKW.below hB' hKW.pos))
      have HTK : Hid ((its.take (j + 1)).map (·.1) = (its.take j).map (·.1) ++ [(pitem (pofn n) kf.text vf.text).1]) := Lib.hid (by rw [List.take_add_one, hitj]; simp)
      have HFE1 : Hid (ferr (its.map (·.2)) = if (pitem (pofn n) kf.text vf.text).2 = 0 then ferr ((its.drop (j + 1)).map (·.2)) else (pitem (pofn n) kf.text vf.text).2) := Lib.hid (by rw [HFE0.out, drop_cons hitj]; rfl)
      obtain ⟨knum, kkind, kval, ktext⟩ := kf
      obtain ⟨vnum, vkind, vval, vtext⟩ := vf
      simp only at k3 v3 hrd HTK HFE1
      unfold PRPost at hrd
      obtain ⟨⟨dp, re⟩, hd⟩ : ∃ d, pitem (pofn n) ktext vtext = d := ⟨_, rfl⟩
      rw [hd] at hrd HTK HFE1
      simp only at hrd HTK HFE1
      clear hkf hvf hitj hd hvt HFE0
      go_wp2_with fail
      have hown := (show World.ownsRow wr.drew _ _ _ _ _ _ from hown)
      have hnew : ∀ p ∈ new, p.sub.AtS wr.drew (fun b => (Value.slice A5 j c5).ownBlock ≠ some b ∧ w2.heap.size ≤ b) p.adr := fun p hp => (HNEW0.out p hp).keep (fun _ _ _ => rfl) (Nat.le_refl _) (fun _ _ h => h)
      have hBw := hBw.drew
      have f0 := fun u (hu : Below wr.drew.heap.size wr.drew u) => (hBw.trans (hu.mono hBw.size)).cell (p := ⟨bK, oK + j * 4 + 3, none⟩) hbK
      have f1 := fun u (hu : Below wr.drew.heap.size wr.drew u) => (hBw.trans (hu.mono hBw.size)).cell (p := ⟨bV, oV + j * 4 + 3, none⟩) hbV
      simp only [k3, v3] at f0 f1
      have HNEW := Lib.hid hnew
      clear HNEW0 hnew hs
      refine wp_region_LG (belB wr.drew.heap.size) 18 [0, 1, 2, 3, 4, 5, 6, 7, 8, 9, 10, 11, 15, 12, 13, 14, 16, 17] rfl (by decide) (by decide) (by kernel_rfl) ?_
      generalize wr.drew = W2 at *
      simp only [List.filterMap_cons, List.filterMap_nil, List.getElem?_cons_zero, List.getElem?_cons_succ, Option.map_some]
      refine wpL_takeG _ (v := ?_) (by kernel_rfl) (by kernel_rfl) (by kernel_rfl) (fun _ _ _ h => h) (by rfl) (fun u hu => ?_) ?_
      rotate_left
      focus
        replace hu : Below W2.heap.size W2 u := hu
        go_simp
        try with_reducible rfl
      simp only [Act.put, List.setIfInBounds_toArray, List.set_cons_zero, List.set_cons_succ]
      refine wpL_takeG _ (v := ?_) (by kernel_rfl) (by kernel_rfl) (by kernel_rfl) (fun _ _ _ h => h) (by rfl) (fun u hu => ?_) ?_
      rotate_left
      focus
        replace hu : Below W2.heap.size W2 u := hu
        go_simp
        try with_reducible rfl
      simp only [Act.put, List.setIfInBounds_toArray, List.set_cons_zero, List.set_cons_succ]
      refine wpL_takeG _ (v := ?_) (by kernel_rfl) (by kernel_rfl) (by kernel_rfl) (fun _ _ _ h => h) (by rfl) (fun u hu => ?_) ?_
      rotate_left
      focus
        replace hu : Below W2.heap.size W2 u := hu
        go_simp
        try with_reducible rfl
      simp only [Act.put, List.setIfInBounds_toArray, List.set_cons_zero, List.set_cons_succ]
      refine wpL_takeG _ (v := ?_) (by kernel_rfl) (by kernel_rfl) (by kernel_rfl) (fun _ _ _ h => h) (by rfl) (fun u hu => ?_) ?_
      rotate_left
      focus
        replace hu : Below W2.heap.size W2 u := hu
        go_simp
        try with_reducible rfl
      simp only [Act.put, List.setIfInBounds_toArray, List.set_cons_zero, List.set_cons_succ]
      refine wpL_takeG _ (v := ?_) (by kernel_rfl) (by kernel_rfl) (by kernel_rfl) (fun _ _ _ h => h) (by rfl) (fun u hu => ?_) ?_
      rotate_left
      focus
        replace hu : Below W2.heap.size W2 u := hu
        go_simp
        try with_reducible rfl
      simp only [Act.put, List.setIfInBounds_toArray, List.set_cons_zero, List.set_cons_succ]
      refine wpL_takeG _ (v := ?_) (by kernel_rfl) (by kernel_rfl) (by kernel_rfl) (fun _ _ _ h => h) (by rfl) (fun u hu => ?_) ?_
      rotate_left
      focus
        replace hu : Below W2.heap.size W2 u := hu
        go_simp
        try with_reducible rfl
      simp only [Act.put, List.setIfInBounds_toArray, List.set_cons_zero, List.set_cons_succ]
      refine wpL_takeG _ (v := ?_) (by kernel_rfl) (by kernel_rfl) (by kernel_rfl) (fun _ _ _ h => h) (by rfl) (fun u hu => ?_) ?_
      rotate_left
      focus
        replace hu : Below W2.heap.size W2 u := hu
        go_simp
        try with_reducible rfl
      simp only [Act.put, List.setIfInBounds_toArray, List.set_cons_zero, List.set_cons_succ]
      refine wpL_takeG _ (v := ?_) (by kernel_rfl) (by kernel_rfl) (by kernel_rfl) (fun _ _ _ h => h) (by rfl) (fun u hu => ?_) ?_
      rotate_left
      focus
        replace hu : Below W2.heap.size W2 u := hu
        go_simp
        try with_reducible rfl
      simp only [Act.put, List.setIfInBounds_toArray, List.set_cons_zero, List.set_cons_succ]
      refine wpL_takeG _ (v := ?_) (by kernel_rfl) (by kernel_rfl) (by kernel_rfl) (fun _ _ _ h => h) (by rfl) (fun u hu => ?_) ?_
      rotate_left
      focus
        replace hu : Below W2.heap.size W2 u := hu
        go_simp
        try with_reducible rfl
      simp only [Act.put, List.setIfInBounds_toArray, List.set_cons_zero, List.set_cons_succ]
      refine wpL_takeG _ (v := ?_) (by kernel_rfl) (by kernel_rfl) (by kernel_rfl) (fun _ _ _ h => h) (by rfl) (fun u hu => ?_) ?_
      rotate_left
      focus
        replace hu : Below W2.heap.size W2 u := hu
        go_simp
        try with_reducible rfl
      simp only [Act.put, List.setIfInBounds_toArray, List.set_cons_zero, List.set_cons_succ]
      refine wpL_takeG _ (v := ?_) (by kernel_rfl) (by kernel_rfl) (by kernel_rfl) (fun _ _ _ h => h) (by rfl) (fun u hu => ?_) ?_
      rotate_left
      focus
        replace hu : Below W2.heap.size W2 u := hu
        go_simp
        try with_reducible rfl
      simp only [Act.put, List.setIfInBounds_toArray, List.set_cons_zero, List.set_cons_succ]
      refine wpL_do2G _ (by kernel_rfl) (by rfl) (by rfl) (fun K hK => ?_) (fun K hK => ?_)
      · go_simp
        go_at_call 84
        refine (hrd W2 (Below.refl _ _)).mono ?_
        rintro e w3 ⟨p, rfl, hstr, hok, hlen, hat, hB3⟩
        refine hK _ _ hB3 ?_
        clear hK K f0 f1
        obtain ⟨pkey, pty, pnull, ⟨pk, pn, pss⟩, padr, pcap, psub⟩ := p
        unfold Pn.agg
        simp only at hlen hat ⊢
        have HPI := Lib.hid (And.intro hstr (And.intro hok hlen))
        obtain ⟨SL, hSL⟩ : ∃ k, psub.list.length = k := ⟨_, rfl⟩
        rw [hSL]
        have HSL := Lib.hid hSL
        clear hstr hok hlen hSL
        have hat3 := hat
        have hB3s := hB3
        refine wpL_swapG _ ?_
        refine wpL_takeG _ (v := ?_) (by kernel_rfl) (by kernel_rfl) (by kernel_rfl) (fun _ _ _ h => h) (by rfl) (fun u hu => ?_) ?_
        rotate_left
        focus
          go_simp
          try with_reducible rfl
        simp only [Act.put, List.setIfInBounds_toArray, List.set_cons_zero, List.set_cons_succ]
        refine wpL_swapG _ ?_
        refine wpL_takeG _ (v := ?_) (by kernel_rfl) (by kernel_rfl) (by kernel_rfl) (fun _ _ _ h => h) (by rfl) (fun u hu => ?_) ?_
        rotate_left
        focus
          go_simp
          try with_reducible rfl
        simp only [Act.put, List.setIfInBounds_toArray, List.set_cons_zero, List.set_cons_succ]
        refine wpL_swapG _ ?_
        refine wpL_takeG _ (v := ?_) (by kernel_rfl) (by kernel_rfl) (by kernel_rfl) (fun _ _ _ h => h) (by rfl) (fun u hu => ?_) ?_
        rotate_left
        focus
          go_simp
          try with_reducible rfl
        simp only [Act.put, List.setIfInBounds_toArray, List.set_cons_zero, List.set_cons_succ]
        refine wpL_doG _ (by kernel_rfl) (by rfl) (fun K hK => ?_)
        go_simp
        refine hK _ _ ((Below.refl W2.heap.size w3).alloc hB3.size _) ?_
        clear hK K
        have hbel := hB3.alloc hB3.size (Obj.cells #[.string ⟨#[]⟩, .int .u32 0, .bool false, .int .i64 0, .int .u64 0, .string ⟨#[]⟩, .slice none 0 0] 82)
        have hX4 : (w3.alloc (Obj.cells #[.string ⟨#[]⟩, .int .u32 0, .bool false, .int .i64 0, .int .u64 0, .string ⟨#[]⟩, .slice none 0 0] 82)).heap[w3.heap.size]? = some (.cells #[.string ⟨#[]⟩, .int .u32 0, .bool false, .int .i64 0, .int .u64 0, .string ⟨#[]⟩, .slice none 0 0] 82 (0, 0)) := World.alloc_heap_new w3 _
        have hat4 : psub.AtS (w3.alloc (Obj.cells #[.string ⟨#[]⟩, .int .u32 0, .bool false, .int .i64 0, .int .u64 0, .string ⟨#[]⟩, .slice none 0 0] 82)) (fun k => W2.heap.size ≤ k ∧ k ≠ w3.heap.size) padr := hat.keep (fun b hb _ => Below.heap_alloc w3 _ b hb) (by simp) (fun b hb hS => ⟨hS, Nat.ne_of_lt hb⟩)
        have hle : W2.heap.size ≤ w3.heap.size := hB3.size
        generalize hw4 : w3.alloc (Obj.cells #[.string ⟨#[]⟩, .int .u32 0, .bool false, .int .i64 0, .int .u64 0, .string ⟨#[]⟩, .slice none 0 0] 82) = W4 at *
        generalize w3.heap.size = X4 at *
        clear hw4 hat hat3 hB3 hB3s
        have z0 : W4.cell? ⟨X4, 0, none⟩ = some (.string ⟨#[]⟩) := by simp only [World.cell?, hX4]; rfl
        have z1 : W4.cell? ⟨X4, 1, none⟩ = some (.int .u32 0) := by simp only [World.cell?, hX4]; rfl
        have z2 : W4.cell? ⟨X4, 2, none⟩ = some (.bool false) := by simp only [World.cell?, hX4]; rfl
        have z3 : W4.cell? ⟨X4, 3, none⟩ = some (.int .i64 0) := by simp only [World.cell?, hX4]; rfl
        have z4 : W4.cell? ⟨X4, 4, none⟩ = some (.int .u64 0) := by simp only [World.cell?, hX4]; rfl
        have z5 : W4.cell? ⟨X4, 5, none⟩ = some (.string ⟨#[]⟩) := by simp only [World.cell?, hX4]; rfl
        have z6 : W4.cell? ⟨X4, 6, none⟩ = some (.slice none 0 0) := by simp only [World.cell?, hX4]; rfl
        have hfz : ∀ i, W4.frozen? ⟨X4, i, none⟩ = false := fun i => by simp [World.frozen?, hX4]
        have y0 := hfz 0
        have y1 := hfz 1
        have y2 := hfz 2
        have y3 := hfz 3
        have y4 := hfz 4
        have y5 := hfz 5
        have y6 := hfz 6
        have hX5 : (((((((W4.setCell ⟨X4, 0, none⟩ (.string pkey)).setCell ⟨X4, 1, none⟩ (.int .u32 pty)).setCell ⟨X4, 2, none⟩ (.bool pnull)).setCell ⟨X4, 3, none⟩ (.int .i64 pk)).setCell ⟨X4, 4, none⟩ (.int .u64 pn)).setCell ⟨X4, 5, none⟩ (.string pss)).setCell ⟨X4, 6, none⟩ (.slice padr SL pcap)).heap[X4]? = some (.cells #[.string pkey, .int .u32 pty, .bool pnull, .int .i64 pk, .int .u64 pn, .string pss, .slice padr SL pcap] 82 (0, 0)) :=
          heap_setCell_same _ X4 6 _ _ _ (heap_setCell_same _ X4 5 _ _ _ (heap_setCell_same _ X4 4 _ _ _ (heap_setCell_same _ X4 3 _ _ _ (heap_setCell_same _ X4 2 _ _ _ (heap_setCell_same _ X4 1 _ _ _ (heap_setCell_same _ X4 0 _ _ _ hX4))))))
        have hst := below_set7 (a := 0) (b := 1) (c := 2) (d := 3) (e := 4) (f := 5) (g := 6) (Below.refl W2.heap.size W4) hle (.string pkey) (.int .u32 pty) (.bool pnull) (.int .i64 pk) (.int .u64 pn) (.string pss) (.slice padr SL pcap)
        have hat5 := ((((((hat4.low (B := X4) (i := 0) (fun b hb => hb.2) (.string pkey)).low (B := X4) (i := 1) (fun b hb => hb.2) (.int .u32 pty)).low (B := X4) (i := 2) (fun b hb => hb.2) (.bool pnull)).low (B := X4) (i := 3) (fun b hb => hb.2) (.int .i64 pk)).low (B := X4) (i := 4) (fun b hb => hb.2) (.int .u64 pn)).low (B := X4) (i := 5) (fun b hb => hb.2) (.string pss)).low (B := X4) (i := 6) (fun b hb => hb.2) (.slice padr SL pcap)
        clear hfz hat4 hX4
        refine wpL_doG _ (by kernel_rfl) (by rfl) (fun K hK => ?_)
        go_simp
        refine hK _ _ hst ?_
        clear hK K z0 z1 z2 z3 z4 z5 z6 y0 y1 y2 y3 y4 y5 y6
        have hW5 := hbel.trans hst
        generalize ((((((W4.setCell ⟨X4, 0, none⟩ (.string pkey)).setCell ⟨X4, 1, none⟩ (.int .u32 pty)).setCell ⟨X4, 2, none⟩ (.bool pnull)).setCell ⟨X4, 3, none⟩ (.int .i64 pk)).setCell ⟨X4, 4, none⟩ (.int .u64 pn)).setCell ⟨X4, 5, none⟩ (.string pss)).setCell ⟨X4, 6, none⟩ (.slice padr SL pcap) = W5 at *
        refine wpL_takeG _ (v := ?_) (by kernel_rfl) (by kernel_rfl) (by kernel_rfl) (fun _ _ _ h => h) (by rfl) (fun u hu => ?_) ?_
        rotate_left
        focus
          go_simp
          try with_reducible rfl
        simp only [Act.put, List.setIfInBounds_toArray, List.set_cons_zero, List.set_cons_succ]
        refine wpL_doneG _ (by kernel_rfl) ?_
        have q0 : W5.cell? ⟨X4, 0, none⟩ = some (.string pkey) := by simp only [World.cell?, hX5]; rfl
        have q1 : W5.cell? ⟨X4, 1, none⟩ = some (.int .u32 pty) := by simp only [World.cell?, hX5]; rfl
        have q2 : W5.cell? ⟨X4, 2, none⟩ = some (.bool pnull) := by simp only [World.cell?, hX5]; rfl
        have q3 : W5.cell? ⟨X4, 3, none⟩ = some (.int .i64 pk) := by simp only [World.cell?, hX5]; rfl
        have q4 : W5.cell? ⟨X4, 4, none⟩ = some (.int .u64 pn) := by simp only [World.cell?, hX5]; rfl
        have q5 : W5.cell? ⟨X4, 5, none⟩ = some (.string pss) := by simp only [World.cell?, hX5]; rfl
        have q6 : W5.cell? ⟨X4, 6, none⟩ = some (.slice padr SL pcap) := by simp only [World.cell?, hX5]; rfl
        have hBw5 := bel_step hBw hW5
        have hown5 := own_kept hown hW5 (Nat.le_refl _)
        have HNEW5 : Hid (∀ p ∈ new, p.sub.AtS W5 (fun b => (Value.slice A5 j c5).ownBlock ≠ some b ∧ w2.heap.size ≤ b) p.adr) := Lib.hid (fun p hp => (HNEW.out p hp).below hW5)
        have HAT5 : Hid (psub.AtS W5 (fun b => (Value.slice A5 j c5).ownBlock ≠ some b ∧ w2.heap.size ≤ b) padr) := Lib.hid (hat5.to (fun b hb => ⟨fun e => by have := (hown.lt b e).2; omega, Nat.le_trans hBw.size hb.1⟩))
        have hs5 := hBw5.size
        clear hX5 hst hat5 hW5 hbel hle hBw hown HNEW
        by_cases h0 : re = 0
        rotate_left
        · have hbe : (re != 0) = true := by simpa using h0
          have HQ5 : Hid (q = (.nil, re)) := Lib.hid (by
            have h1 := HFE1.out
            rw [if_neg h0] at h1
            rw [← HQ4.out, h1, if_neg h0])
          clear h0 HFE1 q0 q1 q2 q3 q4 q5 q6 hown5
          go_wp2_with fail
          go_ret2
          exact popost_err HQ5.out (bel_step hW2 hBw5)
        subst h0
        have HFE2 : Hid (ferr (its.map (·.2)) = ferr ((its.drop (j + 1)).map (·.2))) := Lib.hid (by have := HFE1.out; rwa [if_pos rfl] at this)
        clear HFE1
        go_wp2_with (at_builtin; refine wpList_app1 rfl _ _ _ rfl elemP rfl hown5 rfl rfl (by intro u hu; simp at hu; rcases hu with rfl | rfl | rfl | rfl | rfl | rfl | rfl <;> rfl) (by unfold maxLen; omega) (by omega) hs5 ?_; intro A9 c9 w9 ho9 hg9 hv9; have hB9 := own_grown hBw5 hown5 hs5 hg9; have hgk := Lib.hid hg9; have hvk := Lib.hid hv9; clear hg9 hv9)
        go_roundw
        case rel =>
          have hkeep : ∀ b, b < W5.heap.size → ((Value.slice A5 j c5).ownBlock ≠ some b ∧ w2.heap.size ≤ b) → w9.heap[b]? = W5.heap[b]? := fun b hb hS => hgk.out.block b hb (fun e => hS.1 e.symm)
          have hS9 : ∀ b, b < W5.heap.size → ((Value.slice A5 j c5).ownBlock ≠ some b ∧ w2.heap.size ≤ b) → ((Value.slice A9 (j + 1) c9).ownBlock ≠ some b ∧ w2.heap.size ≤ b) := fun b hb hS => ⟨fun e => by
            rcases hvk.out with h | h
            · rw [h] at e; exact hS.1 e
            · rw [h] at e; have : W5.heap.size + 1 = b := by simpa using e
              omega, hS.2⟩
          obtain ⟨i1, i2, i3⟩ := HPI.out
          refine ⟨j + 1, A9, c9, new ++ [⟨pkey, pty, pnull, ⟨pk, pn, pss⟩, padr, pcap, psub⟩], by go_num, rfl, by omega, ?_, by rw [List.map_append, HMAP.out, HTK.out, ← i1]; rfl, HFE2.out, ?_, ?_, hB9⟩
          · rw [show pcl (new ++ [⟨pkey, pty, pnull, ⟨pk, pn, pss⟩, padr, pcap, psub⟩]) = pcl new ++ [.string pkey, .int .u32 pty, .bool pnull, .int .i64 pk, .int .u64 pn, .string pss, .slice padr SL pcap] by simp [pcl, Pn.cells, HSL.out]]
            exact ho9
          · intro p hp
            rcases List.mem_append.1 hp with hp | hp
            · exact HOKS.out p hp
            · obtain rfl : p = _ := by simpa using hp
              exact i2
          · intro p hp
            rcases List.mem_append.1 hp with hp | hp
            · exact (HNEW5.out p hp).keep hkeep hgk.out.size hS9
            · obtain rfl : p = _ := by simpa using hp
              exact HAT5.out.keep hkeep hgk.out.size hS9
        case measure => simp [intOf]; omega
      · go_simp
        refine hK _ _ ((Below.refl W2.heap.size W2).alloc (Nat.le_refl _) _) ?_
        clear hK K
        have hbel0 := (Below.refl W2.heap.size W2).alloc (Nat.le_refl _) (Obj.cells #[.string ⟨#[]⟩, .int .u32 0, .bool false, .int .i64 0, .int .u64 0, .string ⟨#[]⟩, .slice none 0 0] 82)
        have hX3 : (W2.alloc (Obj.cells #[.string ⟨#[]⟩, .int .u32 0, .bool false, .int .i64 0, .int .u64 0, .string ⟨#[]⟩, .slice none 0 0] 82)).heap[W2.heap.size]? = some (.cells #[.string ⟨#[]⟩, .int .u32 0, .bool false, .int .i64 0, .int .u64 0, .string ⟨#[]⟩, .slice none 0 0] 82 (0, 0)) := World.alloc_heap_new W2 _
        have hlX : W2.heap.size < (W2.alloc (Obj.cells #[.string ⟨#[]⟩, .int .u32 0, .bool false, .int .i64 0, .int .u64 0, .string ⟨#[]⟩, .slice none 0 0] 82)).heap.size := by simp
        refine wpL_doG _ (by kernel_rfl) (by rfl) (fun K hK => ?_)
        go_simp
        go_at_call 84
        refine (hrd _ hbel0).mono ?_
        rintro e w3 ⟨p, rfl, hstr, hok, hlen, hat, hB3⟩
        refine hK _ _ (hB3.mono (Nat.le_of_lt hlX)) ?_
        clear hK K f0 f1
        obtain ⟨pkey, pty, pnull, ⟨pk, pn, pss⟩, padr, pcap, psub⟩ := p
        unfold Pn.agg
        simp only at hlen hat ⊢
        have HPI := Lib.hid (And.intro hstr (And.intro hok hlen))
        obtain ⟨SL, hSL⟩ : ∃ k, psub.list.length = k := ⟨_, rfl⟩
        rw [hSL]
        have HSL := Lib.hid hSL
        clear hstr hok hlen hSL
        refine wpL_takeG _ (v := ?_) (by kernel_rfl) (by kernel_rfl) (by kernel_rfl) (fun _ _ _ h => h) (by rfl) (fun u hu => ?_) ?_
        rotate_left
        focus
          go_simp
          try with_reducible rfl
        simp only [Act.put, List.setIfInBounds_toArray, List.set_cons_zero, List.set_cons_succ]
        refine wpL_takeG _ (v := ?_) (by kernel_rfl) (by kernel_rfl) (by kernel_rfl) (fun _ _ _ h => h) (by rfl) (fun u hu => ?_) ?_
        rotate_left
        focus
          go_simp
          try with_reducible rfl
        simp only [Act.put, List.setIfInBounds_toArray, List.set_cons_zero, List.set_cons_succ]
        refine wpL_takeG _ (v := ?_) (by kernel_rfl) (by kernel_rfl) (by kernel_rfl) (fun _ _ _ h => h) (by rfl) (fun u hu => ?_) ?_
        rotate_left
        focus
          go_simp
          try with_reducible rfl
        simp only [Act.put, List.setIfInBounds_toArray, List.set_cons_zero, List.set_cons_succ]
        have hbel := bel_step hbel0 hB3
        have hX4 := (hB3.block _ hlX).trans hX3
        have hat4 : psub.AtS w3 (fun k => W2.heap.size ≤ k ∧ k ≠ W2.heap.size) padr := hat.to (fun b hb => ⟨Nat.le_of_lt (Nat.lt_of_lt_of_le hlX hb), Nat.ne_of_gt (Nat.lt_of_lt_of_le hlX hb)⟩)
        have hle : W2.heap.size ≤ W2.heap.size := Nat.le_refl _
        clear hat hB3 hX3 hbel0 hlX
        obtain ⟨W4, rfl⟩ : ∃ W, W = w3 := ⟨_, rfl⟩
        obtain ⟨X4, hX4e⟩ : ∃ X, X = W2.heap.size := ⟨_, rfl⟩
        have z0 : W4.cell? ⟨W2.heap.size, 0, none⟩ = some (.string ⟨#[]⟩) := by simp only [World.cell?, hX4]; rfl
        have z1 : W4.cell? ⟨W2.heap.size, 1, none⟩ = some (.int .u32 0) := by simp only [World.cell?, hX4]; rfl
        have z2 : W4.cell? ⟨W2.heap.size, 2, none⟩ = some (.bool false) := by simp only [World.cell?, hX4]; rfl
        have z3 : W4.cell? ⟨W2.heap.size, 3, none⟩ = some (.int .i64 0) := by simp only [World.cell?, hX4]; rfl
        have z4 : W4.cell? ⟨W2.heap.size, 4, none⟩ = some (.int .u64 0) := by simp only [World.cell?, hX4]; rfl
        have z5 : W4.cell? ⟨W2.heap.size, 5, none⟩ = some (.string ⟨#[]⟩) := by simp only [World.cell?, hX4]; rfl
        have z6 : W4.cell? ⟨W2.heap.size, 6, none⟩ = some (.slice none 0 0) := by simp only [World.cell?, hX4]; rfl
        have hfz : ∀ i, W4.frozen? ⟨W2.heap.size, i, none⟩ = false := fun i => by simp [World.frozen?, hX4]
        have y0 := hfz 0
        have y1 := hfz 1
        have y2 := hfz 2
        have y3 := hfz 3
        have y4 := hfz 4
        have y5 := hfz 5
        have y6 := hfz 6
        have hX5 : (((((((W4.setCell ⟨W2.heap.size, 0, none⟩ (.string pkey)).setCell ⟨W2.heap.size, 1, none⟩ (.int .u32 pty)).setCell ⟨W2.heap.size, 2, none⟩ (.bool pnull)).setCell ⟨W2.heap.size, 3, none⟩ (.int .i64 pk)).setCell ⟨W2.heap.size, 4, none⟩ (.int .u64 pn)).setCell ⟨W2.heap.size, 5, none⟩ (.string pss)).setCell ⟨W2.heap.size, 6, none⟩ (.slice padr SL pcap)).heap[W2.heap.size]? = some (.cells #[.string pkey, .int .u32 pty, .bool pnull, .int .i64 pk, .int .u64 pn, .string pss, .slice padr SL pcap] 82 (0, 0)) :=
          heap_setCell_same _ W2.heap.size 6 _ _ _ (heap_setCell_same _ W2.heap.size 5 _ _ _ (heap_setCell_same _ W2.heap.size 4 _ _ _ (heap_setCell_same _ W2.heap.size 3 _ _ _ (heap_setCell_same _ W2.heap.size 2 _ _ _ (heap_setCell_same _ W2.heap.size 1 _ _ _ (heap_setCell_same _ W2.heap.size 0 _ _ _ hX4))))))
        have hst := below_set7 (a := 0) (b := 1) (c := 2) (d := 3) (e := 4) (f := 5) (g := 6) (Below.refl W2.heap.size W4) hle (.string pkey) (.int .u32 pty) (.bool pnull) (.int .i64 pk) (.int .u64 pn) (.string pss) (.slice padr SL pcap)
        have hat5 := ((((((hat4.low (B := W2.heap.size) (i := 0) (fun b hb => hb.2) (.string pkey)).low (B := W2.heap.size) (i := 1) (fun b hb => hb.2) (.int .u32 pty)).low (B := W2.heap.size) (i := 2) (fun b hb => hb.2) (.bool pnull)).low (B := W2.heap.size) (i := 3) (fun b hb => hb.2) (.int .i64 pk)).low (B := W2.heap.size) (i := 4) (fun b hb => hb.2) (.int .u64 pn)).low (B := W2.heap.size) (i := 5) (fun b hb => hb.2) (.string pss)).low (B := W2.heap.size) (i := 6) (fun b hb => hb.2) (.slice padr SL pcap)
        clear hfz hat4 hX4
        refine wpL_doG _ (by kernel_rfl) (by rfl) (fun K hK => ?_)
        go_simp
        refine hK _ _ hst ?_
        clear hK K z0 z1 z2 z3 z4 z5 z6 y0 y1 y2 y3 y4 y5 y6
        have hW5 := hbel.trans hst
        generalize ((((((W4.setCell ⟨W2.heap.size, 0, none⟩ (.string pkey)).setCell ⟨W2.heap.size, 1, none⟩ (.int .u32 pty)).setCell ⟨W2.heap.size, 2, none⟩ (.bool pnull)).setCell ⟨W2.heap.size, 3, none⟩ (.int .i64 pk)).setCell ⟨W2.heap.size, 4, none⟩ (.int .u64 pn)).setCell ⟨W2.heap.size, 5, none⟩ (.string pss)).setCell ⟨W2.heap.size, 6, none⟩ (.slice padr SL pcap) = W5 at *
        refine wpL_takeG _ (v := ?_) (by kernel_rfl) (by kernel_rfl) (by kernel_rfl) (fun _ _ _ h => h) (by rfl) (fun u hu => ?_) ?_
        rotate_left
        focus
          go_simp
          try with_reducible rfl
        simp only [Act.put, List.setIfInBounds_toArray, List.set_cons_zero, List.set_cons_succ]
        refine wpL_doneG _ (by kernel_rfl) ?_
        have q0 : W5.cell? ⟨W2.heap.size, 0, none⟩ = some (.string pkey) := by simp only [World.cell?, hX5]; rfl
        have q1 : W5.cell? ⟨W2.heap.size, 1, none⟩ = some (.int .u32 pty) := by simp only [World.cell?, hX5]; rfl
        have q2 : W5.cell? ⟨W2.heap.size, 2, none⟩ = some (.bool pnull) := by simp only [World.cell?, hX5]; rfl
        have q3 : W5.cell? ⟨W2.heap.size, 3, none⟩ = some (.int .i64 pk) := by simp only [World.cell?, hX5]; rfl
        have q4 : W5.cell? ⟨W2.heap.size, 4, none⟩ = some (.int .u64 pn) := by simp only [World.cell?, hX5]; rfl
        have q5 : W5.cell? ⟨W2.heap.size, 5, none⟩ = some (.string pss) := by simp only [World.cell?, hX5]; rfl
        have q6 : W5.cell? ⟨W2.heap.size, 6, none⟩ = some (.slice padr SL pcap) := by simp only [World.cell?, hX5]; rfl
        have hBw5 := bel_step hBw hW5
        have hown5 := own_kept hown hW5 (Nat.le_refl _)
        have HNEW5 : Hid (∀ p ∈ new, p.sub.AtS W5 (fun b => (Value.slice A5 j c5).ownBlock ≠ some b ∧ w2.heap.size ≤ b) p.adr) := Lib.hid (fun p hp => (HNEW.out p hp).below hW5)
        have HAT5 : Hid (psub.AtS W5 (fun b => (Value.slice A5 j c5).ownBlock ≠ some b ∧ w2.heap.size ≤ b) padr) := Lib.hid (hat5.to (fun b hb => ⟨fun e => by have := (hown.lt b e).2; omega, Nat.le_trans hBw.size hb.1⟩))
        have hs5 := hBw5.size
        clear hX5 hst hat5 hW5 hbel hle hBw hown HNEW
        by_cases h0 : re = 0
        rotate_left
        · have hbe : (re != 0) = true := by simpa using h0
          have HQ5 : Hid (q = (.nil, re)) := Lib.hid (by
            have h1 := HFE1.out
            rw [if_neg h0] at h1
            rw [← HQ4.out, h1, if_neg h0])
          clear h0 HFE1 q0 q1 q2 q3 q4 q5 q6 hown5
          go_wp2_with fail
          go_ret2
          exact popost_err HQ5.out (bel_step hW2 hBw5)
        subst h0
        have HFE2 : Hid (ferr (its.map (·.2)) = ferr ((its.drop (j + 1)).map (·.2))) := Lib.hid (by have := HFE1.out; rwa [if_pos rfl] at this)
        clear HFE1
        go_wp2_with (at_builtin; refine wpList_app1 rfl _ _ _ rfl elemP rfl hown5 rfl rfl (by intro u hu; simp at hu; rcases hu with rfl | rfl | rfl | rfl | rfl | rfl | rfl <;> rfl) (by unfold maxLen; omega) (by omega) hs5 ?_; intro A9 c9 w9 ho9 hg9 hv9; have hB9 := own_grown hBw5 hown5 hs5 hg9; have hgk := Lib.hid hg9; have hvk := Lib.hid hv9; clear hg9 hv9)
        go_roundw
        case rel =>
          have hkeep : ∀ b, b < W5.heap.size → ((Value.slice A5 j c5).ownBlock ≠ some b ∧ w2.heap.size ≤ b) → w9.heap[b]? = W5.heap[b]? := fun b hb hS => hgk.out.block b hb (fun e => hS.1 e.symm)
          have hS9 : ∀ b, b < W5.heap.size → ((Value.slice A5 j c5).ownBlock ≠ some b ∧ w2.heap.size ≤ b) → ((Value.slice A9 (j + 1) c9).ownBlock ≠ some b ∧ w2.heap.size ≤ b) := fun b hb hS => ⟨fun e => by
            rcases hvk.out with h | h
            · rw [h] at e; exact hS.1 e
            · rw [h] at e; have : W5.heap.size + 1 = b := by simpa using e
              omega, hS.2⟩
          obtain ⟨i1, i2, i3⟩ := HPI.out
          refine ⟨j + 1, A9, c9, new ++ [⟨pkey, pty, pnull, ⟨pk, pn, pss⟩, padr, pcap, psub⟩], by go_num, rfl, by omega, ?_, by rw [List.map_append, HMAP.out, HTK.out, ← i1]; rfl, HFE2.out, ?_, ?_, hB9⟩
          · rw [show pcl (new ++ [⟨pkey, pty, pnull, ⟨pk, pn, pss⟩, padr, pcap, psub⟩]) = pcl new ++ [.string pkey, .int .u32 pty, .bool pnull, .int .i64 pk, .int .u64 pn, .string pss, .slice padr SL pcap] by simp [pcl, Pn.cells, HSL.out]]
            exact ho9
          · intro p hp
            rcases List.mem_append.1 hp with hp | hp
            · exact HOKS.out p hp
            · obtain rfl : p = _ := by simpa using hp
              exact i2
          · intro p hp
            rcases List.mem_append.1 hp with hp | hp
            · exact (HNEW5.out p hp).keep hkeep hgk.out.size hS9
            · obtain rfl : p = _ := by simpa using hp
              exact HAT5.out.keep hkeep hgk.out.size hS9
        case measure => simp [intOf]; omega
    · obtain rfl : j = nk := by omega
      have hz : ferr (its.map (·.2)) = 0 := by rw [HFE0.out, List.drop_eq_nil_of_le (by rw [HIL.out]; exact Nat.le_refl _)]; rfl
      have hmap := HMAP.out
      rw [List.take_of_length_le (by rw [HIL.out]; exact Nat.le_refl _)] at hmap
      have hq : q = (Ps.build (its.map (·.1)), 0) := by rw [← HQ4.out, if_pos hz]
      have hnl : new.length = j := by
        have := congrArg List.length hmap
        simpa [HIL.out] using this
      have HQ5 := Lib.hid (And.intro hq (And.intro hmap hnl))
      have HO := Lib.hid hown
      clear hz hmap hq hnl hlt HFE0 hown
      go_wp2_with fail
      go_ret2
      obtain ⟨e1, e2, e3⟩ := HQ5.out
      have hll : (Ps.build new).list.length = j := by rw [Ps.build_list]; exact e3
      refine ⟨Ps.build new, A5, c5, ?_, ⟨?_, Ps.build_subsS fun p hp => (HNEW0.out p hp).to (fun b hb => Nat.le_trans hW2.size hb.2)⟩, Ps.build_ok HOKS.out, by omega, ?_, bel_step hW2 hBw⟩
      · rw [hll, e1]; rfl
      · rw [Ps.build_list]; exact RdS.of_own (own_base HO.out hW2.size)
      · rw [Ps.build_strip, e2, e1]
theorem pof_any : ∀ (n deep : Nat), n + deep = 9 → ∀ (b : List UInt8) (A : Option Addr) (bn c : Nat) (w : World), b.length = bn → bn ≤ c → c ≤ 9223372036854775807 → Rd w w.heap.size A (bcl b) → Kinds w →
    Calls Tryd.prog 59 #[.slice A bn c, .int .i64 deep] w (POPost (pofn n b) w) := by
  intro n
  induction n with
  | zero =>
    intro deep hnd b A bn c w _ _ _ _ _
    obtain rfl : deep = 9 := by omega
    go_enter Tryd.func59, Tryd.ntmps59
    go_wp2_with fail
    go_ret2
    exact popost_err rfl (Below.refl _ _)
  | succ n ih =>
    intro deep hnd b A bn c w h1 h2 h3 h4 h5
    exact pof_step n deep hnd (fun b A bn c w h1 h2 h3 h4 h5 => ih (deep + 1) (by omega) b A bn c w h1 h2 h3 h4 h5) b A bn c w h1 h2 h3 h4 h5
end Go.Proofs.YtlgokfgbcohioaaDoor
