/- Several texts in one: words, plain laws and walks that the statement's proof imports. -/
import Derived.Test.YtanfnjlndckhkaaDoorK8
/- WALK: props.of (printed by genpod.py) -/
namespace Go.Proofs.YtanfnjlndckhkaaDoor
open Go.RowKit Plain

section
variable {P : Program} {ops : Array Oper} {Q : Exit → Act → World → Prop} (X : Rel)
theorem wpL_swapG {n m k1 k2 : Nat} {o1 o2 : Oper} {rest : List (Nat × Oper)} {a : Act} {w : World} (h : wpLG X P ops Q n m ((k2, o2) :: (k1, o1) :: rest) a w) : wpLG X P ops Q n m ((k1, o1) :: (k2, o2) :: rest) a w := fun hd hnd hn => by
  rw [left_swapG]
  refine h (fun p hp => hd p (by rcases List.mem_cons.1 hp with rfl | hp; · simp
                                 · rcases List.mem_cons.1 hp with rfl | hp <;> simp [*])) ?_ hn
  simp only [List.map_cons, List.nodup_cons, List.mem_cons, not_or] at hnd ⊢
  exact ⟨⟨fun e => hnd.1.1 e.symm, hnd.2.1⟩, hnd.1.2, hnd.2.2⟩
end
theorem RdS.of_own {W : World} {base : Nat} {e : TypeId} {size n c : Nat} {A : Option Addr} {xs : List Value} (h : W.ownsRow base e size (.slice A n c) n xs) : RdS W (fun k => base ≤ k) A xs := by
  rcases h.2 with ⟨hv, rfl⟩ | ⟨g, cap, cur, hv, hg, hh, hn, hm, hcs, htk⟩
  · exact .inl (List.eq_nil_of_length_eq_zero (by simpa using h.1))
  · injection hv with hA _ _
    subst hA
    refine .inr ⟨g, 0, rfl, (Array.getElem?_eq_some_iff.1 hh).1, hg, fun i hi => ?_⟩
    have hl := h.1
    rw [Nat.zero_add, cell_of_row W g i cur e (0, 0) hh, ← htk, List.getElem?_take_of_lt (by omega)]
    simp
theorem elemP : Elem Tryd.prog 35 75 (.agg #[.string ⟨#[]⟩, .int .u32 0, .bool false, .int .i64 0, .int .u64 0, .string ⟨#[]⟩, .slice none 0 0]) 7 80 :=
  ⟨Tryd.underlying35, info_parts (show (Tryd.prog.info? 75).map (fun i => (i.zero, i.size, i.bytes)) = some (some (.agg #[.string ⟨#[]⟩, .int .u32 0, .bool false, .int .i64 0, .int .u64 0, .string ⟨#[]⟩, .slice none 0 0]), 7, 80) by kernel_rfl), rfl, by omega⟩
set_option maxRecDepth 100000 in
set_option maxHeartbeats 8000000 in
theorem pof_step (n deep : Nat) (hnd : n + 1 + deep = 9) (ih : ∀ (b : List UInt8) (A : Option Addr) (bn c : Nat) (w : World), b.length = bn → bn ≤ c → c ≤ 9223372036854775807 → Rd w w.heap.size A (bcl b) → Kinds w → Calls Tryd.prog 46 #[.slice A bn c, .int .i64 (deep + 1)] w (POPost (pofn n b) w))
    (b : List UInt8) (A : Option Addr) (bn c : Nat) (w : World) (hbn : b.length = bn) (hbc : bn ≤ c) (hcm : c ≤ 9223372036854775807) (hr : Rd w w.heap.size A (bcl b)) (hK : Kinds w) :
    Calls Tryd.prog 46 #[.slice A bn c, .int .i64 deep] w (POPost (pofn (n + 1) b) w) := by
  obtain ⟨q, hq⟩ : ∃ q, pofn (n + 1) b = q := ⟨_, rfl⟩
  rw [hq]
  rw [pofn] at hq
  have hd8 : decide ((8 : Int) < (deep : Int)) = false := decide_eq_false (by omega)
  have hof := of_any b A bn c hbn hbc hcm w hr
  unfold OfPost at hof
  have HRD := Lib.hid (wof_rd b)
  have h256 := wof_256R b
  obtain ⟨o, ho⟩ : ∃ o, wof b = o := ⟨_, rfl⟩
  rw [ho] at hof hq HRD h256
  obtain ⟨l, er⟩ := o
  simp only at hof hq HRD h256
  have HQ := Lib.hid hq
  obtain ⟨m, hm⟩ : ∃ m, l.length = m := ⟨_, rfl⟩
  rw [hm] at hof h256
  have HM := Lib.hid hm
  have HIH := Lib.hid ih
  have HND := Lib.hid hnd
  clear ho hq hm hr hbn ih hnd
  go_enter Tryd.func46, Tryd.ntmps46
  go_wp2_with fail
  refine hof.mono ?_
  rintro e w1 ⟨A1, c1, rfl, ho1, hW1⟩
  clear hof
  by_cases he : er = 0
  rotate_left
  · have hbe : ((er : Int) != 0) = true := by simp; omega
    have HQ2 : Hid (q = (.nil, (er : Int))) := Lib.hid (by have := HQ.out; rw [if_neg he] at this; exact this.symm)
    clear he HQ ho1
    go_wp2_with fail
    go_ret2
    exact popost_err HQ2.out hW1
  subst he
  have hha := halves_any l A1 c1 (by rw [HM.out]; exact h256) w1 (Rd.of_own ho1)
  rw [HM.out] at hha
  unfold HPost at hha
  have HQ2 : Hid ((if phalves l = 0 then (if ferr ((pitems (pofn n) l).map (·.2)) = 0 then (Ps.build ((pitems (pofn n) l).map (·.1)), 0) else (.nil, ferr ((pitems (pofn n) l).map (·.2)))) else (.nil, phalves l)) = q) := Lib.hid (by have := HQ.out; rwa [if_pos rfl] at this)
  have HHO := Lib.hid (phalves_ok (l := l))
  obtain ⟨ph, hph⟩ : ∃ d, phalves l = d := ⟨_, rfl⟩
  rw [hph] at hha HQ2 HHO
  clear HQ ho1 hph
  go_wp2_with fail
  refine hha.mono ?_
  rintro e w2 ⟨K, V, A2, c2, A3, c3, rfl, hrr, hlk, hB2⟩
  have hW2 := bel_step hW1 hB2
  have HLK := Lib.hid hlk
  obtain ⟨hrK, hrV⟩ := hrr
  clear hha hlk hB2 hW1
  by_cases h0 : ph = 0
  rotate_left
  · have hbe : (ph != 0) = true := by simpa using h0
    have HQ3 : Hid (q = (.nil, ph)) := Lib.hid (by have := HQ2.out; rw [if_neg h0] at this; exact this.symm)
    clear h0 HQ2
    go_wp2_with fail
    go_ret2
    exact popost_err HQ3.out hW2
  subst h0
  have hlk := HLK.out rfl
  have hho := HHO.out rfl
  have HQ4' : Hid ((if ferr ((pitems (pofn n) l).map (·.2)) = 0 then (Ps.build ((pitems (pofn n) l).map (·.1)), 0) else (.nil, ferr ((pitems (pofn n) l).map (·.2)))) = q) := Lib.hid (by have := HQ2.out; rwa [if_pos rfl] at this)
  have hits : pitems (pofn n) l = List.zipWith (fun k v => pitem (pofn n) k.text v.text) K V := by unfold pitems; rw [hlk.1, hlk.2]
  rw [← hlk.1, ← hlk.2] at hho
  rw [hits] at HQ4'
  obtain ⟨its, hit⟩ : ∃ d, List.zipWith (fun k v => pitem (pofn n) k.text v.text) K V = d := ⟨_, rfl⟩
  rw [hit] at HQ4'
  have HQ4 := HQ4'
  have HIT := Lib.hid hit
  obtain ⟨nk, hnk⟩ : ∃ k, K.length = k := ⟨_, rfl⟩
  rw [hho.2, hnk]
  rw [hnk] at hho
  have HNK := Lib.hid (And.intro hnk hho.2)
  have hk32 := hho.1
  have hil : its.length = nk := by rw [← hit, List.length_zipWith, hnk, hho.2, Nat.min_self]
  have HIL := Lib.hid hil
  have HVT : Hid (∀ f ∈ V, f.text.size ≤ 4096) := Lib.hid (by
    intro f hf
    rw [hlk.2] at hf
    obtain ⟨_, _, _, _, _, h⟩ := HRD.out f (wall_mem hf).1
    exact h)
  have hK2 := hK.below hW2 hK.pos
  clear hlk hits hit hnk hho HQ2 HHO HLK HQ4' hil HRD
  go_wp2_with fail
  have hE0 := World.ownsRow_nil w2 w2.heap.size 75 7
  go_loopw [10, 35] (fun o i wr => ∃ (j : Nat) (A5 : Option Addr) (c5 : Nat) (new : List Pn), i = .int .i64 j ∧ o = .slice A5 j c5 ∧ j ≤ nk ∧ wr.ownsRow w2.heap.size 75 7 (.slice A5 j c5) j (pcl new) ∧ new.map Pn.strip = (its.take j).map (·.1) ∧ ferr (its.map (·.2)) = ferr ((its.drop j).map (·.2)) ∧
    (∀ p ∈ new, p.Ok) ∧ (∀ p ∈ new, p.sub.AtS wr (fun b => (Value.slice A5 j c5).ownBlock ≠ some b ∧ w2.heap.size ≤ b) p.adr) ∧ Below w2.heap.size w2 wr) (fun _ i _ => nk - (intOf i).toNat)
  case atStart => exact ⟨0, none, 0, [], rfl, rfl, Nat.zero_le _, hE0, by simp, rfl, by simp, by simp, Below.refl _ _⟩
  case round =>
    clear hE0
    obtain ⟨j, A5, c5, new, rfl, rfl, hj, hown, hmap, he, hoks, hnew, hBw⟩ := hrel
    have hs := hBw.size
    have HMAP := Lib.hid hmap
    have HFE0 := Lib.hid he
    have HOKS := Lib.hid hoks
    have HNEW0 := Lib.hid hnew
    clear hmap he hoks hnew
    by_cases hlt : j < nk
    · obtain ⟨kf, hkf⟩ : ∃ f, K[j]? = some f := ⟨_, List.getElem?_eq_getElem (by rw [HNK.out.1]; exact hlt)⟩
      obtain ⟨vf, hvf⟩ : ∃ f, V[j]? = some f := ⟨_, List.getElem?_eq_getElem (by rw [HNK.out.2]; exact hlt)⟩
      obtain ⟨bK, oK, rfl, hbK, _, _, _, k3⟩ := fld_at hrK hkf
      obtain ⟨bV, oV, rfl, hbV, _, _, _, v3⟩ := fld_at hrV hvf
      have hvt := HVT.out vf (List.mem_of_getElem? hvf)
      have hitj : its[j]? = some (pitem (pofn n) kf.text vf.text) := by rw [← HIT.out, List.getElem?_zipWith, hkf, hvf]
      have hrd : ∀ W, Below wr.drew.heap.size wr.drew W → Calls Tryd.prog 66 #[.string kf.text, .string vf.text, .int .i64 deep] W (PRPost (pitem (pofn n) kf.text vf.text) W) := fun W hB => by
        have hKW := (hK2.below hBw hK2.pos).below ((below_drewN (Below.refl wr.heap.size wr) 1).trans hB) (World.block_lt_of_cell? _ _ ((hK2.below hBw hK2.pos) 0 (by omega)))
        exact pread_any kf.text vf.text hvt deep n (by have := HND.out; omega) W hKW (fun b A bn c W' h1 h2 h3 hB' h4 => HIH.out b A bn c W' h1 h2 h3 h4 (hKW.below hB' hKW.pos))
      have HTK : Hid ((its.take (j + 1)).map (·.1) = (its.take j).map (·.1) ++ [(pitem (pofn n) kf.text vf.text).1]) := Lib.hid (by rw [List.take_add_one, hitj]; simp)
      have HFE1 : Hid (ferr (its.map (·.2)) = if (pitem (pofn n) kf.text vf.text).2 = 0 then ferr ((its.drop (j + 1)).map (·.2)) else (pitem (pofn n) kf.text vf.text).2) := Lib.hid (by rw [HFE0.out, drop_cons hitj]; rfl)
      obtain ⟨knum, kkind, kval, ktext⟩ := kf
      obtain ⟨vnum, vkind, vval, vtext⟩ := vf
      simp only at k3 v3 hrd HTK HFE1
      unfold PRPost at hrd
      obtain ⟨⟨dp, re⟩, hd⟩ : ∃ d, pitem (pofn n) ktext vtext = d := ⟨_, rfl⟩
      rw [hd] at hrd HTK HFE1
      simp only at hrd HTK HFE1
      clear hkf hvf hitj hd hvt HFE0
      go_wp2_with fail
      have hown := (show World.ownsRow wr.drew _ _ _ _ _ _ from hown)
      have hnew : ∀ p ∈ new, p.sub.AtS wr.drew (fun b => (Value.slice A5 j c5).ownBlock ≠ some b ∧ w2.heap.size ≤ b) p.adr := fun p hp => (HNEW0.out p hp).keep (fun _ _ _ => rfl) (Nat.le_refl _) (fun _ _ h => h)
      have hBw := hBw.drew
      have f0 := fun u (hu : Below wr.drew.heap.size wr.drew u) => (hBw.trans (hu.mono hBw.size)).cell (p := ⟨bK, oK + j * 4 + 3, none⟩) hbK
      have f1 := fun u (hu : Below wr.drew.heap.size wr.drew u) => (hBw.trans (hu.mono hBw.size)).cell (p := ⟨bV, oV + j * 4 + 3, none⟩) hbV
      simp only [k3, v3] at f0 f1
      have HNEW := Lib.hid hnew
      clear HNEW0 hnew hs
      refine wp_region_LG (belB wr.drew.heap.size) 18 [0, 1, 2, 3, 4, 5, 6, 7, 8, 9, 10, 11, 15, 12, 13, 14, 16, 17] rfl (by decide) (by decide) (by kernel_rfl) ?_
      generalize wr.drew = W2 at *
      simp only [List.filterMap_cons, List.filterMap_nil, List.getElem?_cons_zero, List.getElem?_cons_succ, Option.map_some]
      refine wpL_takeG _ (v := ?_) (by kernel_rfl) (by kernel_rfl) (by kernel_rfl) (fun _ _ _ h => h) (by rfl) (fun u hu => ?_) ?_
      rotate_left
      focus
        replace hu : Below W2.heap.size W2 u := hu
        go_simp
        try with_reducible rfl
      simp only [Act.put, List.setIfInBounds_toArray, List.set_cons_zero, List.set_cons_succ]
      refine wpL_takeG _ (v := ?_) (by kernel_rfl) (by kernel_rfl) (by kernel_rfl) (fun _ _ _ h => h) (by rfl) (fun u hu => ?_) ?_
      rotate_left
      focus
        replace hu : Below W2.heap.size W2 u := hu
        go_simp
        try with_reducible rfl
      simp only [Act.put, List.setIfInBounds_toArray, List.set_cons_zero, List.set_cons_succ]
      refine wpL_takeG _ (v := ?_) (by kernel_rfl) (by kernel_rfl) (by kernel_rfl) (fun _ _ _ h => h) (by rfl) (fun u hu => ?_) ?_
      rotate_left
      focus
        replace hu : Below W2.heap.size W2 u := hu
        go_simp
        try with_reducible rfl
      simp only [Act.put, List.setIfInBounds_toArray, List.set_cons_zero, List.set_cons_succ]
      refine wpL_takeG _ (v := ?_) (by kernel_rfl) (by kernel_rfl) (by kernel_rfl) (fun _ _ _ h => h) (by rfl) (fun u hu => ?_) ?_
      rotate_left
      focus
        replace hu : Below W2.heap.size W2 u := hu
        go_simp
        try with_reducible rfl
      simp only [Act.put, List.setIfInBounds_toArray, List.set_cons_zero, List.set_cons_succ]
      refine wpL_takeG _ (v := ?_) (by kernel_rfl) (by kernel_rfl) (by kernel_rfl) (fun _ _ _ h => h) (by rfl) (fun u hu => ?_) ?_
      rotate_left
      focus
        replace hu : Below W2.heap.size W2 u := hu
        go_simp
        try with_reducible rfl
      simp only [Act.put, List.setIfInBounds_toArray, List.set_cons_zero, List.set_cons_succ]
      refine wpL_takeG _ (v := ?_) (by kernel_rfl) (by kernel_rfl) (by kernel_rfl) (fun _ _ _ h => h) (by rfl) (fun u hu => ?_) ?_
      rotate_left
      focus
        replace hu : Below W2.heap.size W2 u := hu
        go_simp
        try with_reducible rfl
      simp only [Act.put, List.setIfInBounds_toArray, List.set_cons_zero, List.set_cons_succ]
      refine wpL_takeG _ (v := ?_) (by kernel_rfl) (by kernel_rfl) (by kernel_rfl) (fun _ _ _ h => h) (by rfl) (fun u hu => ?_) ?_
      rotate_left
      focus
        replace hu : Below W2.heap.size W2 u := hu
        go_simp
        try with_reducible rfl
      simp only [Act.put, List.setIfInBounds_toArray, List.set_cons_zero, List.set_cons_succ]
      refine wpL_takeG _ (v := ?_) (by kernel_rfl) (by kernel_rfl) (by kernel_rfl) (fun _ _ _ h => h) (by rfl) (fun u hu => ?_) ?_
      rotate_left
      focus
        replace hu : Below W2.heap.size W2 u := hu
        go_simp
        try with_reducible rfl
      simp only [Act.put, List.setIfInBounds_toArray, List.set_cons_zero, List.set_cons_succ]
      refine wpL_takeG _ (v := ?_) (by kernel_rfl) (by kernel_rfl) (by kernel_rfl) (fun _ _ _ h => h) (by rfl) (fun u hu => ?_) ?_
      rotate_left
      focus
        replace hu : Below W2.heap.size W2 u := hu
        go_simp
        try with_reducible rfl
      simp only [Act.put, List.setIfInBounds_toArray, List.set_cons_zero, List.set_cons_succ]
      refine wpL_takeG _ (v := ?_) (by kernel_rfl) (by kernel_rfl) (by kernel_rfl) (fun _ _ _ h => h) (by rfl) (fun u hu => ?_) ?_
      rotate_left
      focus
        replace hu : Below W2.heap.size W2 u := hu
        go_simp
        try with_reducible rfl
      simp only [Act.put, List.setIfInBounds_toArray, List.set_cons_zero, List.set_cons_succ]
      refine wpL_takeG _ (v := ?_) (by kernel_rfl) (by kernel_rfl) (by kernel_rfl) (fun _ _ _ h => h) (by rfl) (fun u hu => ?_) ?_
      rotate_left
      focus
        replace hu : Below W2.heap.size W2 u := hu
        go_simp
        try with_reducible rfl
      simp only [Act.put, List.setIfInBounds_toArray, List.set_cons_zero, List.set_cons_succ]
      refine wpL_do2G _ (by kernel_rfl) (by rfl) (by rfl) (fun K hK => ?_) (fun K hK => ?_)
      · go_simp
        go_at_call 66
        refine (hrd W2 (Below.refl _ _)).mono ?_
        rintro e w3 ⟨p, rfl, hstr, hok, hlen, hat, hB3⟩
        refine hK _ _ hB3 ?_
        clear hK K f0 f1
        obtain ⟨pkey, pty, pnull, ⟨pk, pn, pss⟩, padr, pcap, psub⟩ := p
        unfold Pn.agg
        simp only at hlen hat ⊢
        have HPI := Lib.hid (And.intro hstr (And.intro hok hlen))
        obtain ⟨SL, hSL⟩ : ∃ k, psub.list.length = k := ⟨_, rfl⟩
        rw [hSL]
        have HSL := Lib.hid hSL
        clear hstr hok hlen hSL
        have hat3 := hat
        have hB3s := hB3
        refine wpL_swapG _ ?_
        refine wpL_takeG _ (v := ?_) (by kernel_rfl) (by kernel_rfl) (by kernel_rfl) (fun _ _ _ h => h) (by rfl) (fun u hu => ?_) ?_
        rotate_left
        focus
          go_simp
          try with_reducible rfl
        simp only [Act.put, List.setIfInBounds_toArray, List.set_cons_zero, List.set_cons_succ]
        refine wpL_swapG _ ?_
        refine wpL_takeG _ (v := ?_) (by kernel_rfl) (by kernel_rfl) (by kernel_rfl) (fun _ _ _ h => h) (by rfl) (fun u hu => ?_) ?_
        rotate_left
        focus
          go_simp
          try with_reducible rfl
        simp only [Act.put, List.setIfInBounds_toArray, List.set_cons_zero, List.set_cons_succ]
        refine wpL_swapG _ ?_
        refine wpL_takeG _ (v := ?_) (by kernel_rfl) (by kernel_rfl) (by kernel_rfl) (fun _ _ _ h => h) (by rfl) (fun u hu => ?_) ?_
        rotate_left
        focus
          go_simp
          try with_reducible rfl
        simp only [Act.put, List.setIfInBounds_toArray, List.set_cons_zero, List.set_cons_succ]
        refine wpL_doG _ (by kernel_rfl) (by rfl) (fun K hK => ?_)
        go_simp
        refine hK _ _ ((Below.refl W2.heap.size w3).alloc hB3.size _) ?_
        clear hK K
        have hbel := hB3.alloc hB3.size (Obj.cells #[.string ⟨#[]⟩, .int .u32 0, .bool false, .int .i64 0, .int .u64 0, .string ⟨#[]⟩, .slice none 0 0] 75)
        have hX4 : (w3.alloc (Obj.cells #[.string ⟨#[]⟩, .int .u32 0, .bool false, .int .i64 0, .int .u64 0, .string ⟨#[]⟩, .slice none 0 0] 75)).heap[w3.heap.size]? = some (.cells #[.string ⟨#[]⟩, .int .u32 0, .bool false, .int .i64 0, .int .u64 0, .string ⟨#[]⟩, .slice none 0 0] 75 (0, 0)) := World.alloc_heap_new w3 _
        have hat4 : psub.AtS (w3.alloc (Obj.cells #[.string ⟨#[]⟩, .int .u32 0, .bool false, .int .i64 0, .int .u64 0, .string ⟨#[]⟩, .slice none 0 0] 75)) (fun k => W2.heap.size ≤ k ∧ k ≠ w3.heap.size) padr := hat.keep (fun b hb _ => Below.heap_alloc w3 _ b hb) (by simp) (fun b hb hS => ⟨hS, Nat.ne_of_lt hb⟩)
        have hle : W2.heap.size ≤ w3.heap.size := hB3.size
        generalize hw4 : w3.alloc (Obj.cells #[.string ⟨#[]⟩, .int .u32 0, .bool false, .int .i64 0, .int .u64 0, .string ⟨#[]⟩, .slice none 0 0] 75) = W4 at *
        generalize w3.heap.size = X4 at *
        clear hw4 hat hat3 hB3 hB3s
        have z0 : W4.cell? ⟨X4, 0, none⟩ = some (.string ⟨#[]⟩) := by simp only [World.cell?, hX4]; rfl
        have z1 : W4.cell? ⟨X4, 1, none⟩ = some (.int .u32 0) := by simp only [World.cell?, hX4]; rfl
        have z2 : W4.cell? ⟨X4, 2, none⟩ = some (.bool false) := by simp only [World.cell?, hX4]; rfl
        have z3 : W4.cell? ⟨X4, 3, none⟩ = some (.int .i64 0) := by simp only [World.cell?, hX4]; rfl
        have z4 : W4.cell? ⟨X4, 4, none⟩ = some (.int .u64 0) := by simp only [World.cell?, hX4]; rfl
        have z5 : W4.cell? ⟨X4, 5, none⟩ = some (.string ⟨#[]⟩) := by simp only [World.cell?, hX4]; rfl
        have z6 : W4.cell? ⟨X4, 6, none⟩ = some (.slice none 0 0) := by simp only [World.cell?, hX4]; rfl
        have hfz : ∀ i, W4.frozen? ⟨X4, i, none⟩ = false := fun i => by simp [World.frozen?, hX4]
        have y0 := hfz 0
        have y1 := hfz 1
        have y2 := hfz 2
        have y3 := hfz 3
        have y4 := hfz 4
        have y5 := hfz 5
        have y6 := hfz 6
        have hX5 : (((((((W4.setCell ⟨X4, 0, none⟩ (.string pkey)).setCell ⟨X4, 1, none⟩ (.int .u32 pty)).setCell ⟨X4, 2, none⟩ (.bool pnull)).setCell ⟨X4, 3, none⟩ (.int .i64 pk)).setCell ⟨X4, 4, none⟩ (.int .u64 pn)).setCell ⟨X4, 5, none⟩ (.string pss)).setCell ⟨X4, 6, none⟩ (.slice padr SL pcap)).heap[X4]? = some (.cells #[.string pkey, .int .u32 pty, .bool pnull, .int .i64 pk, .int .u64 pn, .string pss, .slice padr SL pcap] 75 (0, 0)) :=
          heap_setCell_same _ X4 6 _ _ _ (heap_setCell_same _ X4 5 _ _ _ (heap_setCell_same _ X4 4 _ _ _ (heap_setCell_same _ X4 3 _ _ _ (heap_setCell_same _ X4 2 _ _ _ (heap_setCell_same _ X4 1 _ _ _ (heap_setCell_same _ X4 0 _ _ _ hX4))))))
        have hst := below_set7 (a := 0) (b := 1) (c := 2) (d := 3) (e := 4) (f := 5) (g := 6) (Below.refl W2.heap.size W4) hle (.string pkey) (.int .u32 pty) (.bool pnull) (.int .i64 pk) (.int .u64 pn) (.string pss) (.slice padr SL pcap)
        have hat5 := ((((((hat4.low (B := X4) (i := 0) (fun b hb => hb.2) (.string pkey)).low (B := X4) (i := 1) (fun b hb => hb.2) (.int .u32 pty)).low (B := X4) (i := 2) (fun b hb => hb.2) (.bool pnull)).low (B := X4) (i := 3) (fun b hb => hb.2) (.int .i64 pk)).low (B := X4) (i := 4) (fun b hb => hb.2) (.int .u64 pn)).low (B := X4) (i := 5) (fun b hb => hb.2) (.string pss)).low (B := X4) (i := 6) (fun b hb => hb.2) (.slice padr SL pcap)
        clear hfz hat4 hX4
        refine wpL_doG _ (by kernel_rfl) (by rfl) (fun K hK => ?_)
        go_simp
        refine hK _ _ hst ?_
        clear hK K z0 z1 z2 z3 z4 z5 z6 y0 y1 y2 y3 y4 y5 y6
        have hW5 := hbel.trans hst
        generalize ((((((W4.setCell ⟨X4, 0, none⟩ (.string pkey)).setCell ⟨X4, 1, none⟩ (.int .u32 pty)).setCell ⟨X4, 2, none⟩ (.bool pnull)).setCell ⟨X4, 3, none⟩ (.int .i64 pk)).setCell ⟨X4, 4, none⟩ (.int .u64 pn)).setCell ⟨X4, 5, none⟩ (.string pss)).setCell ⟨X4, 6, none⟩ (.slice padr SL pcap) = W5 at *
        refine wpL_takeG _ (v := ?_) (by kernel_rfl) (by kernel_rfl) (by kernel_rfl) (fun _ _ _ h => h) (by rfl) (fun u hu => ?_) ?_
        rotate_left
        focus
          go_simp
          try with_reducible rfl
        simp only [Act.put, List.setIfInBounds_toArray, List.set_cons_zero, List.set_cons_succ]
        refine wpL_doneG _ (by kernel_rfl) ?_
        have q0 : W5.cell? ⟨X4, 0, none⟩ = some (.string pkey) := by simp only [World.cell?, hX5]; rfl
        have q1 : W5.cell? ⟨X4, 1, none⟩ = some (.int .u32 pty) := by simp only [World.cell?, hX5]; rfl
        have q2 : W5.cell? ⟨X4, 2, none⟩ = some (.bool pnull) := by simp only [World.cell?, hX5]; rfl
        have q3 : W5.cell? ⟨X4, 3, none⟩ = some (.int .i64 pk) := by simp only [World.cell?, hX5]; rfl
        have q4 : W5.cell? ⟨X4, 4, none⟩ = some (.int .u64 pn) := by simp only [World.cell?, hX5]; rfl
        have q5 : W5.cell? ⟨X4, 5, none⟩ = some (.string pss) := by simp only [World.cell?, hX5]; rfl
        have q6 : W5.cell? ⟨X4, 6, none⟩ = some (.slice padr SL pcap) := by simp only [World.cell?, hX5]; rfl
        have hBw5 := bel_step hBw hW5
        have hown5 := own_kept hown hW5 (Nat.le_refl _)
        have HNEW5 : Hid (∀ p ∈ new, p.sub.AtS W5 (fun b => (Value.slice A5 j c5).ownBlock ≠ some b ∧ w2.heap.size ≤ b) p.adr) := Lib.hid (fun p hp => (HNEW.out p hp).below hW5)
        have HAT5 : Hid (psub.AtS W5 (fun b => (Value.slice A5 j c5).ownBlock ≠ some b ∧ w2.heap.size ≤ b) padr) := Lib.hid (hat5.to (fun b hb => ⟨fun e => by have := (hown.lt b e).2; omega, Nat.le_trans hBw.size hb.1⟩))
        have hs5 := hBw5.size
        clear hX5 hst hat5 hW5 hbel hle hBw hown HNEW
        by_cases h0 : re = 0
        rotate_left
        · have hbe : (re != 0) = true := by simpa using h0
          have HQ5 : Hid (q = (.nil, re)) := Lib.hid (by
            have h1 := HFE1.out
            rw [if_neg h0] at h1
            rw [← HQ4.out, h1, if_neg h0])
          clear h0 HFE1 q0 q1 q2 q3 q4 q5 q6 hown5
          go_wp2_with fail
          go_ret2
          exact popost_err HQ5.out (bel_step hW2 hBw5)
        subst h0
        have HFE2 : Hid (ferr (its.map (·.2)) = ferr ((its.drop (j + 1)).map (·.2))) := Lib.hid (by have := HFE1.out; rwa [if_pos rfl] at this)
        clear HFE1
        go_wp2_with (at_builtin; refine wpList_app1 rfl _ _ _ rfl elemP rfl hown5 rfl rfl (by intro u hu; simp at hu; rcases hu with rfl | rfl | rfl | rfl | rfl | rfl | rfl <;> rfl) (by unfold maxLen; omega) (by omega) hs5 ?_; intro A9 c9 w9 ho9 hg9 hv9; have hB9 := own_grown hBw5 hown5 hs5 hg9; have hgk := Lib.hid hg9; have hvk := Lib.hid hv9; clear hg9 hv9)
        go_roundw
        case rel =>
          have hkeep : ∀ b, b < W5.heap.size → ((Value.slice A5 j c5).ownBlock ≠ some b ∧ w2.heap.size ≤ b) → w9.heap[b]? = W5.heap[b]? := fun b hb hS => hgk.out.block b hb (fun e => hS.1 e.symm)
          have hS9 : ∀ b, b < W5.heap.size → ((Value.slice A5 j c5).ownBlock ≠ some b ∧ w2.heap.size ≤ b) → ((Value.slice A9 (j + 1) c9).ownBlock ≠ some b ∧ w2.heap.size ≤ b) := fun b hb hS => ⟨fun e => by
            rcases hvk.out with h | h
            · rw [h] at e; exact hS.1 e
            · rw [h] at e; have : W5.heap.size + 1 = b := by simpa using e
              omega, hS.2⟩
          obtain ⟨i1, i2, i3⟩ := HPI.out
          refine ⟨j + 1, A9, c9, new ++ [⟨pkey, pty, pnull, ⟨pk, pn, pss⟩, padr, pcap, psub⟩], by go_num, rfl, by omega, ?_, by rw [List.map_append, HMAP.out, HTK.out, ← i1]; rfl, HFE2.out, ?_, ?_, hB9⟩
          · rw [show pcl (new ++ [⟨pkey, pty, pnull, ⟨pk, pn, pss⟩, padr, pcap, psub⟩]) = pcl new ++ [.string pkey, .int .u32 pty, .bool pnull, .int .i64 pk, .int .u64 pn, .string pss, .slice padr SL pcap] by simp [pcl, Pn.cells, HSL.out]]
            exact ho9
          · intro p hp
            rcases List.mem_append.1 hp with hp | hp
            · exact HOKS.out p hp
            · obtain rfl : p = _ := by simpa using hp
              exact i2
          · intro p hp
            rcases List.mem_append.1 hp with hp | hp
            · exact (HNEW5.out p hp).keep hkeep hgk.out.size hS9
            · obtain rfl : p = _ := by simpa using hp
              exact HAT5.out.keep hkeep hgk.out.size hS9
        case measure => simp [intOf]; omega
      · go_simp
        refine hK _ _ ((Below.refl W2.heap.size W2).alloc (Nat.le_refl _) _) ?_
        clear hK K
        have hbel0 := (Below.refl W2.heap.size W2).alloc (Nat.le_refl _) (Obj.cells #[.string ⟨#[]⟩, .int .u32 0, .bool false, .int .i64 0, .int .u64 0, .string ⟨#[]⟩, .slice none 0 0] 75)
        have hX3 : (W2.alloc (Obj.cells #[.string ⟨#[]⟩, .int .u32 0, .bool false, .int .i64 0, .int .u64 0, .string ⟨#[]⟩, .slice none 0 0] 75)).heap[W2.heap.size]? = some (.cells #[.string ⟨#[]⟩, .int .u32 0, .bool false, .int .i64 0, .int .u64 0, .string ⟨#[]⟩, .slice none 0 0] 75 (0, 0)) := World.alloc_heap_new W2 _
        have hlX : W2.heap.size < (W2.alloc (Obj.cells #[.string ⟨#[]⟩, .int .u32 0, .bool false, .int .i64 0, .int .u64 0, .string ⟨#[]⟩, .slice none 0 0] 75)).heap.size := by simp
        refine wpL_doG _ (by kernel_rfl) (by rfl) (fun K hK => ?_)
        go_simp
        go_at_call 66
        refine (hrd _ hbel0).mono ?_
        rintro e w3 ⟨p, rfl, hstr, hok, hlen, hat, hB3⟩
        refine hK _ _ (hB3.mono (Nat.le_of_lt hlX)) ?_
        clear hK K f0 f1
        obtain ⟨pkey, pty, pnull, ⟨pk, pn, pss⟩, padr, pcap, psub⟩ := p
        unfold Pn.agg
        simp only at hlen hat ⊢
        have HPI := Lib.hid (And.intro hstr (And.intro hok hlen))
        obtain ⟨SL, hSL⟩ : ∃ k, psub.list.length = k := ⟨_, rfl⟩
        rw [hSL]
        have HSL := Lib.hid hSL
        clear hstr hok hlen hSL
        refine wpL_takeG _ (v := ?_) (by kernel_rfl) (by kernel_rfl) (by kernel_rfl) (fun _ _ _ h => h) (by rfl) (fun u hu => ?_) ?_
        rotate_left
        focus
          go_simp
          try with_reducible rfl
        simp only [Act.put, List.setIfInBounds_toArray, List.set_cons_zero, List.set_cons_succ]
        refine wpL_takeG _ (v := ?_) (by kernel_rfl) (by kernel_rfl) (by kernel_rfl) (fun _ _ _ h => h) (by rfl) (fun u hu => ?_) ?_
        rotate_left
        focus
          go_simp
          try with_reducible rfl
        simp only [Act.put, List.setIfInBounds_toArray, List.set_cons_zero, List.set_cons_succ]
        refine wpL_takeG _ (v := ?_) (by kernel_rfl) (by kernel_rfl) (by kernel_rfl) (fun _ _ _ h => h) (by rfl) (fun u hu => ?_) ?_
        rotate_left
        focus
          go_simp
          try with_reducible rfl
        simp only [Act.put, List.setIfInBounds_toArray, List.set_cons_zero, List.set_cons_succ]
        have hbel := bel_step hbel0 hB3
        have hX4 := (hB3.block _ hlX).trans hX3
        have hat4 : psub.AtS w3 (fun k => W2.heap.size ≤ k ∧ k ≠ W2.heap.size) padr := hat.to (fun b hb => ⟨Nat.le_of_lt (Nat.lt_of_lt_of_le hlX hb), Nat.ne_of_gt (Nat.lt_of_lt_of_le hlX hb)⟩)
        have hle : W2.heap.size ≤ W2.heap.size := Nat.le_refl _
        clear hat hB3 hX3 hbel0 hlX
        obtain ⟨W4, rfl⟩ : ∃ W, W = w3 := ⟨_, rfl⟩
        obtain ⟨X4, hX4e⟩ : ∃ X, X = W2.heap.size := ⟨_, rfl⟩
        have z0 : W4.cell? ⟨W2.heap.size, 0, none⟩ = some (.string ⟨#[]⟩) := by simp only [World.cell?, hX4]; rfl
        have z1 : W4.cell? ⟨W2.heap.size, 1, none⟩ = some (.int .u32 0) := by simp only [World.cell?, hX4]; rfl
        have z2 : W4.cell? ⟨W2.heap.size, 2, none⟩ = some (.bool false) := by simp only [World.cell?, hX4]; rfl
        have z3 : W4.cell? ⟨W2.heap.size, 3, none⟩ = some (.int .i64 0) := by simp only [World.cell?, hX4]; rfl
        have z4 : W4.cell? ⟨W2.heap.size, 4, none⟩ = some (.int .u64 0) := by simp only [World.cell?, hX4]; rfl
        have z5 : W4.cell? ⟨W2.heap.size, 5, none⟩ = some (.string ⟨#[]⟩) := by simp only [World.cell?, hX4]; rfl
        have z6 : W4.cell? ⟨W2.heap.size, 6, none⟩ = some (.slice none 0 0) := by simp only [World.cell?, hX4]; rfl
        have hfz : ∀ i, W4.frozen? ⟨W2.heap.size, i, none⟩ = false := fun i => by simp [World.frozen?, hX4]
        have y0 := hfz 0
        have y1 := hfz 1
        have y2 := hfz 2
        have y3 := hfz 3
        have y4 := hfz 4
        have y5 := hfz 5
        have y6 := hfz 6
        have hX5 : (((((((W4.setCell ⟨W2.heap.size, 0, none⟩ (.string pkey)).setCell ⟨W2.heap.size, 1, none⟩ (.int .u32 pty)).setCell ⟨W2.heap.size, 2, none⟩ (.bool pnull)).setCell ⟨W2.heap.size, 3, none⟩ (.int .i64 pk)).setCell ⟨W2.heap.size, 4, none⟩ (.int .u64 pn)).setCell ⟨W2.heap.size, 5, none⟩ (.string pss)).setCell ⟨W2.heap.size, 6, none⟩ (.slice padr SL pcap)).heap[W2.heap.size]? = some (.cells #[.string pkey, .int .u32 pty, .bool pnull, .int .i64 pk, .int .u64 pn, .string pss, .slice padr SL pcap] 75 (0, 0)) :=
          heap_setCell_same _ W2.heap.size 6 _ _ _ (heap_setCell_same _ W2.heap.size 5 _ _ _ (heap_setCell_same _ W2.heap.size 4 _ _ _ (heap_setCell_same _ W2.heap.size 3 _ _ _ (heap_setCell_same _ W2.heap.size 2 _ _ _ (heap_setCell_same _ W2.heap.size 1 _ _ _ (heap_setCell_same _ W2.heap.size 0 _ _ _ hX4))))))
        have hst := below_set7 (a := 0) (b := 1) (c := 2) (d := 3) (e := 4) (f := 5) (g := 6) (Below.refl W2.heap.size W4) hle (.string pkey) (.int .u32 pty) (.bool pnull) (.int .i64 pk) (.int .u64 pn) (.string pss) (.slice padr SL pcap)
        have hat5 := ((((((hat4.low (B := W2.heap.size) (i := 0) (fun b hb => hb.2) (.string pkey)).low (B := W2.heap.size) (i := 1) (fun b hb => hb.2) (.int .u32 pty)).low (B := W2.heap.size) (i := 2) (fun b hb => hb.2) (.bool pnull)).low (B := W2.heap.size) (i := 3) (fun b hb => hb.2) (.int .i64 pk)).low (B := W2.heap.size) (i := 4) (fun b hb => hb.2) (.int .u64 pn)).low (B := W2.heap.size) (i := 5) (fun b hb => hb.2) (.string pss)).low (B := W2.heap.size) (i := 6) (fun b hb => hb.2) (.slice padr SL pcap)
        clear hfz hat4 hX4
        refine wpL_doG _ (by kernel_rfl) (by rfl) (fun K hK => ?_)
        go_simp
        refine hK _ _ hst ?_
        clear hK K z0 z1 z2 z3 z4 z5 z6 y0 y1 y2 y3 y4 y5 y6
        have hW5 := hbel.trans hst
        generalize ((((((W4.setCell ⟨W2.heap.size, 0, none⟩ (.string pkey)).setCell ⟨W2.heap.size, 1, none⟩ (.int .u32 pty)).setCell ⟨W2.heap.size, 2, none⟩ (.bool pnull)).setCell ⟨W2.heap.size, 3, none⟩ (.int .i64 pk)).setCell ⟨W2.heap.size, 4, none⟩ (.int .u64 pn)).setCell ⟨W2.heap.size, 5, none⟩ (.string pss)).setCell ⟨W2.heap.size, 6, none⟩ (.slice padr SL pcap) = W5 at *
        refine wpL_takeG _ (v := ?_) (by kernel_rfl) (by kernel_rfl) (by kernel_rfl) (fun _ _ _ h => h) (by rfl) (fun u hu => ?_) ?_
        rotate_left
        focus
          go_simp
          try with_reducible rfl
        simp only [Act.put, List.setIfInBounds_toArray, List.set_cons_zero, List.set_cons_succ]
        refine wpL_doneG _ (by kernel_rfl) ?_
        have q0 : W5.cell? ⟨W2.heap.size, 0, none⟩ = some (.string pkey) := by simp only [World.cell?, hX5]; rfl
        have q1 : W5.cell? ⟨W2.heap.size, 1, none⟩ = some (.int .u32 pty) := by simp only [World.cell?, hX5]; rfl
        have q2 : W5.cell? ⟨W2.heap.size, 2, none⟩ = some (.bool pnull) := by simp only [World.cell?, hX5]; rfl
        have q3 : W5.cell? ⟨W2.heap.size, 3, none⟩ = some (.int .i64 pk) := by simp only [World.cell?, hX5]; rfl
        have q4 : W5.cell? ⟨W2.heap.size, 4, none⟩ = some (.int .u64 pn) := by simp only [World.cell?, hX5]; rfl
        have q5 : W5.cell? ⟨W2.heap.size, 5, none⟩ = some (.string pss) := by simp only [World.cell?, hX5]; rfl
        have q6 : W5.cell? ⟨W2.heap.size, 6, none⟩ = some (.slice padr SL pcap) := by simp only [World.cell?, hX5]; rfl
        have hBw5 := bel_step hBw hW5
        have hown5 := own_kept hown hW5 (Nat.le_refl _)
        have HNEW5 : Hid (∀ p ∈ new, p.sub.AtS W5 (fun b => (Value.slice A5 j c5).ownBlock ≠ some b ∧ w2.heap.size ≤ b) p.adr) := Lib.hid (fun p hp => (HNEW.out p hp).below hW5)
        have HAT5 : Hid (psub.AtS W5 (fun b => (Value.slice A5 j c5).ownBlock ≠ some b ∧ w2.heap.size ≤ b) padr) := Lib.hid (hat5.to (fun b hb => ⟨fun e => by have := (hown.lt b e).2; omega, Nat.le_trans hBw.size hb.1⟩))
        have hs5 := hBw5.size
        clear hX5 hst hat5 hW5 hbel hle hBw hown HNEW
        by_cases h0 : re = 0
        rotate_left
        · have hbe : (re != 0) = true := by simpa using h0
          have HQ5 : Hid (q = (.nil, re)) := Lib.hid (by
            have h1 := HFE1.out
            rw [if_neg h0] at h1
            rw [← HQ4.out, h1, if_neg h0])
          clear h0 HFE1 q0 q1 q2 q3 q4 q5 q6 hown5
          go_wp2_with fail
          go_ret2
          exact popost_err HQ5.out (bel_step hW2 hBw5)
        subst h0
        have HFE2 : Hid (ferr (its.map (·.2)) = ferr ((its.drop (j + 1)).map (·.2))) := Lib.hid (by have := HFE1.out; rwa [if_pos rfl] at this)
        clear HFE1
        go_wp2_with (at_builtin; refine wpList_app1 rfl _ _ _ rfl elemP rfl hown5 rfl rfl (by intro u hu; simp at hu; rcases hu with rfl | rfl | rfl | rfl | rfl | rfl | rfl <;> rfl) (by unfold maxLen; omega) (by omega) hs5 ?_; intro A9 c9 w9 ho9 hg9 hv9; have hB9 := own_grown hBw5 hown5 hs5 hg9; have hgk := Lib.hid hg9; have hvk := Lib.hid hv9; clear hg9 hv9)
        go_roundw
        case rel =>
          have hkeep : ∀ b, b < W5.heap.size → ((Value.slice A5 j c5).ownBlock ≠ some b ∧ w2.heap.size ≤ b) → w9.heap[b]? = W5.heap[b]? := fun b hb hS => hgk.out.block b hb (fun e => hS.1 e.symm)
          have hS9 : ∀ b, b < W5.heap.size → ((Value.slice A5 j c5).ownBlock ≠ some b ∧ w2.heap.size ≤ b) → ((Value.slice A9 (j + 1) c9).ownBlock ≠ some b ∧ w2.heap.size ≤ b) := fun b hb hS => ⟨fun e => by
            rcases hvk.out with h | h
            · rw [h] at e; exact hS.1 e
            · rw [h] at e; have : W5.heap.size + 1 = b := by simpa using e
              omega, hS.2⟩
          obtain ⟨i1, i2, i3⟩ := HPI.out
          refine ⟨j + 1, A9, c9, new ++ [⟨pkey, pty, pnull, ⟨pk, pn, pss⟩, padr, pcap, psub⟩], by go_num, rfl, by omega, ?_, by rw [List.map_append, HMAP.out, HTK.out, ← i1]; rfl, HFE2.out, ?_, ?_, hB9⟩
          · rw [show pcl (new ++ [⟨pkey, pty, pnull, ⟨pk, pn, pss⟩, padr, pcap, psub⟩]) = pcl new ++ [.string pkey, .int .u32 pty, .bool pnull, .int .i64 pk, .int .u64 pn, .string pss, .slice padr SL pcap] by simp [pcl, Pn.cells, HSL.out]]
            exact ho9
          · intro p hp
            rcases List.mem_append.1 hp with hp | hp
            · exact HOKS.out p hp
            · obtain rfl : p = _ := by simpa using hp
              exact i2
          · intro p hp
            rcases List.mem_append.1 hp with hp | hp
            · exact (HNEW5.out p hp).keep hkeep hgk.out.size hS9
            · obtain rfl : p = _ := by simpa using hp
              exact HAT5.out.keep hkeep hgk.out.size hS9
        case measure => simp [intOf]; omega
    · obtain rfl : j = nk := by omega
      have hz : ferr (its.map (·.2)) = 0 := by rw [HFE0.out, List.drop_eq_nil_of_le (by rw [HIL.out]; exact Nat.le_refl _)]; rfl
      have hmap := HMAP.out
      rw [List.take_of_length_le (by rw [HIL.out]; exact Nat.le_refl _)] at hmap
      have hq : q = (Ps.build (its.map (·.1)), 0) := by rw [← HQ4.out, if_pos hz]
      have hnl : new.length = j := by
        have := congrArg List.length hmap
        simpa [HIL.out] using this
      have HQ5 := Lib.hid (And.intro hq (And.intro hmap hnl))
      have HO := Lib.hid hown
      clear hz hmap hq hnl hlt HFE0 hown
      go_wp2_with fail
      go_ret2
      obtain ⟨e1, e2, e3⟩ := HQ5.out
      have hll : (Ps.build new).list.length = j := by rw [Ps.build_list]; exact e3
      refine ⟨Ps.build new, A5, c5, ?_, ⟨?_, Ps.build_subsS fun p hp => (HNEW0.out p hp).to (fun b hb => Nat.le_trans hW2.size hb.2)⟩, Ps.build_ok HOKS.out, by omega, ?_, bel_step hW2 hBw⟩
      · rw [hll, e1]; rfl
      · rw [Ps.build_list]; exact RdS.of_own (own_base HO.out hW2.size)
      · rw [Ps.build_strip, e2, e1]
theorem pof_any : ∀ (n deep : Nat), n + deep = 9 → ∀ (b : List UInt8) (A : Option Addr) (bn c : Nat) (w : World), b.length = bn → bn ≤ c → c ≤ 9223372036854775807 → Rd w w.heap.size A (bcl b) → Kinds w →
    Calls Tryd.prog 46 #[.slice A bn c, .int .i64 deep] w (POPost (pofn n b) w) := by
  intro n
  induction n with
  | zero =>
    intro deep hnd b A bn c w _ _ _ _ _
    obtain rfl : deep = 9 := by omega
    go_enter Tryd.func46, Tryd.ntmps46
    go_wp2_with fail
    go_ret2
    exact popost_err rfl (Below.refl _ _)
  | succ n ih =>
    intro deep hnd b A bn c w h1 h2 h3 h4 h5
    exact pof_step n deep hnd (fun b A bn c w h1 h2 h3 h4 h5 => ih (deep + 1) (by omega) b A bn c w h1 h2 h3 h4 h5) b A bn c w h1 h2 h3 h4 h5
end Go.Proofs.YtanfnjlndckhkaaDoor

/- WALKS: crierref07.number, valueOf (printed by genpoe.py) -/
namespace Go.Proofs.YtanfnjlndckhkaaDoor
open Go.RowKit Plain

set_option maxRecDepth 100000 in
theorem rnumber_any (f : Fld) (most : Nat) (w : World) :
    Calls Tryd.prog 91 #[f.agg, .int .u64 most] w fun e w' => e = .returned (.int .i64 (pnum f most)) ∧ Below w.heap.size w w' := by
  obtain ⟨num, kind, val, text⟩ := f
  unfold Fld.agg pnum
  simp only
  have hE := (Below.refl w.heap.size w).alloc (Nat.le_refl _) (Obj.cells #[.int .i64 num, .int .i64 kind, .int .u64 val, .string text] 64)
  by_cases hk : kind = 0
  · subst hk
    by_cases hv : most < val
    · have hb : decide (most < val) = true := decide_eq_true hv
      have e : (if (0 : Int) = 0 then (if most < val then (5 : Int) else 0) else 4) = 5 := by rw [if_pos rfl, if_pos hv]
      rw [e]
      clear e hv
      go_enter Tryd.func91, Tryd.ntmps91
      go_wp2_with fail
      go_ret
      exact ⟨rfl, hE⟩
    · have hb : decide (most < val) = false := decide_eq_false hv
      have e : (if (0 : Int) = 0 then (if most < val then (5 : Int) else 0) else 4) = 0 := by rw [if_pos rfl, if_neg hv]
      rw [e]
      clear e hv
      go_enter Tryd.func91, Tryd.ntmps91
      go_wp2_with fail
      go_ret
      exact ⟨rfl, hE⟩
  · have hb : (kind != 0) = true := by simpa using hk
    rw [if_neg hk]
    clear hk
    go_enter Tryd.func91, Tryd.ntmps91
    go_wp2_with fail
    go_ret
    exact ⟨rfl, hE⟩
section
variable {W W' : World} {B : Nat} {key : ByteArray} {type : Nat} {null : Bool} {k : Int} {n : Nat} {s : ByteArray} {adr : Option Addr} {L cap : Nat}
theorem InP.set1 (h : InP W B key type null k n s adr L cap) (t : Nat) : InP (W.setCell ⟨B, 1, none⟩ (.int .u32 t)) B key t null k n s adr L cap := heap_setCell_same W B 1 _ _ _ h
theorem InP.set2 (h : InP W B key type null k n s adr L cap) (t : Bool) : InP (W.setCell ⟨B, 2, none⟩ (.bool t)) B key type t k n s adr L cap := heap_setCell_same W B 2 _ _ _ h
theorem InP.setV (h : InP W B key type null k n s adr L cap) (v : VV) : InP (((W.setCell ⟨B, 3, none⟩ (.int .i64 v.k)).setCell ⟨B, 4, none⟩ (.int .u64 v.n)).setCell ⟨B, 5, none⟩ (.string v.s)) B key type null v.k v.n v.s adr L cap :=
  heap_setCell_same _ B 5 _ _ _ (heap_setCell_same _ B 4 _ _ _ (heap_setCell_same W B 3 _ _ _ h))
theorem InP.set6 (h : InP W B key type null k n s adr L cap) (a : Option Addr) (l c : Nat) : InP (W.setCell ⟨B, 6, none⟩ (.slice a l c)) B key type null k n s a l c := heap_setCell_same W B 6 _ _ _ h
theorem InP.alloc (h : InP W B key type null k n s adr L cap) (o : Obj) : InP (W.alloc o) B key type null k n s adr L cap := (Below.heap_alloc W o B h.lt).trans h
end
theorem bel_37a {B R a b c : Nat} {x0 x1 x2 x3 x4 x5 x6 : Nat} {w W : World} {v0 v1 v2 u0 u1 u2 u3 u4 u5 u6 : Value} {o : Obj} (h : Below B w W) (hR : B ≤ R) (hs : B ≤ W.heap.size) : Below B w ((((((((((W.setCell ⟨R, a, none⟩ v0).setCell ⟨R, b, none⟩ v1).setCell ⟨R, c, none⟩ v2).setCell ⟨B, x0, none⟩ u0).setCell ⟨B, x1, none⟩ u1).setCell ⟨B, x2, none⟩ u2).setCell ⟨B, x3, none⟩ u3).setCell ⟨B, x4, none⟩ u4).setCell ⟨B, x5, none⟩ u5).setCell ⟨B, x6, none⟩ u6 |>.alloc o) :=
  (below_set7 (below_set3v h hR v0 v1 v2) (Nat.le_refl _) u0 u1 u2 u3 u4 u5 u6).alloc (by simp; exact hs) o
set_option maxRecDepth 100000 in
set_option maxHeartbeats 16000000 in
theorem rpread_any (key : ByteArray) (b : List UInt8) (A : Option Addr) (bn c : Nat) (hbn : b.length = bn) (hbc : bn ≤ c) (hbl : b.length ≤ 4096) (deep n : Nat) (hdeep : deep ≤ 8) (w : World) (hr : Rd w w.heap.size A (bcl b))
    (hrec : ∀ (b : List UInt8) (A : Option Addr) (bn c : Nat) (W : World), b.length = bn → bn ≤ c → b.length ≤ 140737488355328 → Rd W W.heap.size A (bcl b) → Calls Tryd.prog 47 #[.slice A bn c, .int .i64 (deep + 1)] W (POPost (pofn n b) W)) :
    Calls Tryd.prog 67 #[.string key, .slice A bn c, .int .i64 deep] w (PRPost (pitem (pofn n) key ⟨b.toArray⟩) w) := by
  obtain ⟨q, hq⟩ : ∃ q, pitem (pofn n) key ⟨b.toArray⟩ = q := ⟨_, rfl⟩
  rw [hq]
  unfold pitem at hq
  simp only at hq
  have hX0 : InP (w.alloc (.cells #[.string ⟨#[]⟩, .int .u32 0, .bool false, .int .i64 0, .int .u64 0, .string ⟨#[]⟩, .slice none 0 0] 75)) w.heap.size ⟨#[]⟩ 0 false 0 0 ⟨#[]⟩ none 0 0 := World.alloc_heap_new w _
  have hE0 : Below w.heap.size w (w.alloc (.cells #[.string ⟨#[]⟩, .int .u32 0, .bool false, .int .i64 0, .int .u64 0, .string ⟨#[]⟩, .slice none 0 0] 75)) := (Below.refl _ w).alloc (Nat.le_refl _) _
  have hof := rof_any b A bn c hbn hbc _ ((hr.below hE0 (Nat.le_refl _)).more hE0.size) (by omega)
  unfold OfPost at hof
  have HRD := Lib.hid (wof_rd b)
  have h256 := wof_256R b
  obtain ⟨o, ho⟩ : ∃ o, wof b = o := ⟨_, rfl⟩
  rw [ho] at hof hq HRD h256
  obtain ⟨l, er⟩ := o
  simp only at hof hq HRD h256
  have HQ := Lib.hid hq
  obtain ⟨m, hm⟩ : ∃ m, l.length = m := ⟨_, rfl⟩
  rw [hm] at hof h256
  have HM := Lib.hid hm
  have HREC := Lib.hid hrec
  clear ho hq hm hr hrec hbn
  go_enter Tryd.func67, Tryd.ntmps67
  go_wp2_with fail
  refine hof.mono ?_
  rintro e w1 ⟨A1, c1, rfl, ho1, hB1⟩
  have hX1 := hX0.below hB1
  have hW1 := bel_step hE0 hB1
  clear hof hB1 hX0 hE0
  by_cases he : er = 0
  rotate_left
  · have hbe : ((er : Int) != 0) = true := by simp; omega
    have HQ2 : Hid (q = (Pn.zero, (er : Int))) := Lib.hid (by have := HQ.out; rw [if_neg he] at this; exact this.symm)
    obtain ⟨x0, x1, x2, x3, x4, x5, x6⟩ := hX1.cells
    have hfz : ∀ i, w1.frozen? ⟨w.heap.size, i, none⟩ = false := fun i => by simp [World.frozen?, show w1.heap[w.heap.size]? = _ from hX1]
    have y0 := hfz 0
    have y1 := hfz 1
    have y2 := hfz 2
    have y3 := hfz 3
    have y4 := hfz 4
    have y5 := hfz 5
    have y6 := hfz 6
    clear hfz
    clear he HQ ho1 hX1
    go_wp2_with fail
    refine bodyPost_ret (v := .tuple #[.agg #[.string ⟨#[]⟩, .int .u32 0, .bool false, .int .i64 0, .int .u64 0, .string ⟨#[]⟩, .slice none 0 0], .int .i64 (er : Int)]) ?_ rfl (prpost_err HQ2.out (below_set7 hW1 (Nat.le_refl _) _ _ _ _ _ _ _))
    rw [results_cell_tmp rfl]; go_simp
  subst he
  obtain ⟨t, ht⟩ : ∃ t, ptakes l PSt.zero = t := ⟨_, rfl⟩
  have htok := ptakes_ok l PSt.zero PSt.zero_ok HRD.out
  have HQ2 : Hid ((if t.2 = 0 then (if t.1.v.k = 8 then (if (pofn n t.1.set.data.toList).2 = 0 then ((⟨key, t.1.type, t.1.null, t.1.v, none, 0, (pofn n t.1.set.data.toList).1⟩ : Pn), 0) else (Pn.zero, (pofn n t.1.set.data.toList).2)) else (⟨key, t.1.type, t.1.null, t.1.v, none, 0, .nil⟩, 0)) else (Pn.zero, t.2)) = q) := Lib.hid (by
    have := HQ.out
    rwa [if_pos rfl, ht] at this)
  rw [ht] at htok
  have HT := Lib.hid ht
  have HTOK := Lib.hid htok
  have hr1 := Rd.of_own ho1
  have hF0 : InP (w1.alloc (Obj.cells #[.string key, .int .u32 0, .bool false, .int .i64 0, .int .u64 0, .string ⟨#[]⟩, .slice none 0 0] 75)) w1.heap.size key 0 false 0 0 ⟨#[]⟩ none 0 0 := World.alloc_heap_new w1 _
  have hE1 : Below w1.heap.size w1 (w1.alloc (Obj.cells #[.string key, .int .u32 0, .bool false, .int .i64 0, .int .u64 0, .string ⟨#[]⟩, .slice none 0 0] 75)) := (Below.refl _ w1).alloc (Nat.le_refl _) _
  have hwl := hX1.lt
  clear HQ ht htok ho1
  go_wp2_with fail
  go_loopw [11, 12] (fun sv i wr => ∃ (j : Nat) (st : PSt), i = .int .i64 j ∧ sv = .string st.set ∧ j ≤ m ∧ InP wr w1.heap.size key st.type st.null st.v.k st.v.n st.v.s none 0 0 ∧ ptakes (l.drop j) st = t ∧ Below w1.heap.size w1 wr) (fun _ i _ => m - (intOf i).toNat)
  case atStart => exact ⟨0, PSt.zero, rfl, rfl, Nat.zero_le _, hF0, HT.out, hE1⟩
  case round =>
    clear hF0 hE1
    obtain ⟨j, st, rfl, rfl, hj, hF, hpt, hB⟩ := hrel
    have hsz := hB.size
    have HPT := Lib.hid hpt
    have hX : InP wr w.heap.size ⟨#[]⟩ 0 false 0 0 ⟨#[]⟩ none 0 0 := (hB.block _ hwl).trans hX1
    clear hpt
    by_cases hlt : j < m
    · obtain ⟨f, hf⟩ : ∃ f, l[j]? = some f := ⟨_, List.getElem?_eq_getElem (by rw [HM.out]; exact hlt)⟩
      obtain ⟨b1, o1, rfl, hb1, g0, g1, g2, g3⟩ := fld_at (hr1.below hB (Nat.le_refl _)) hf
      have hfrd := HRD.out f (List.mem_of_getElem? hf)
      have HSTEP : Hid ((if (ptake f st).2 = 0 then ptakes (l.drop (j + 1)) (ptake f st).1 else (PSt.zero, (ptake f st).2)) = t) := Lib.hid (by have := HPT.out; rwa [drop_cons hf, ptakes] at this)
      have HBAD : Hid (∀ e : Int, ¬ e = 0 → (ptake f st).2 = e → q = (Pn.zero, e)) := Lib.hid (by
        intro e h0 h1
        have h2 := HSTEP.out
        rw [h1, if_neg h0] at h2
        rw [← HQ2.out, ← h2, if_neg h0])
      have HGO : Hid (∀ s2, ptake f st = (s2, 0) → ptakes (l.drop (j + 1)) s2 = t) := Lib.hid (by
        intro s2 h1
        have h2 := HSTEP.out
        rwa [h1, if_pos rfl] at h2)
      obtain ⟨num, kind, val, text⟩ := f
      obtain ⟨sty, snu, ⟨sk, sn, ss⟩, sset⟩ := st
      simp only at g0 g1 g2 g3 hF
      have hbw := hB.alloc hsz (Obj.cells #[.int .i64 num, .int .i64 kind, .int .u64 val, .string text] 64)
      have hF1 := hF.alloc (Obj.cells #[.int .i64 num, .int .i64 kind, .int .u64 val, .string text] 64)
      have hX2 := hX.alloc (Obj.cells #[.int .i64 num, .int .i64 kind, .int .u64 val, .string text] 64)
      have hG1 : (wr.alloc (Obj.cells #[.int .i64 num, .int .i64 kind, .int .u64 val, .string text] 64)).heap[wr.heap.size]? = some (.cells #[.int .i64 num, .int .i64 kind, .int .u64 val, .string text] 64 (0, 0)) := World.alloc_heap_new wr _
      have hgl : wr.heap.size < (wr.alloc (Obj.cells #[.int .i64 num, .int .i64 kind, .int .u64 val, .string text] 64)).heap.size := by simp
      have hfl := hF.lt
      have hvb := hfrd.2.2.2.2.1
      simp only at hvb
      have hxl := hX.lt
      clear hf HPT HSTEP
      by_cases n1 : num = 1
      · subst n1
        clear hF hX
        have hnu := rnumber_any ⟨1, kind, val, text⟩ 4294967295 (wr.alloc (Obj.cells #[.int .i64 1, .int .i64 kind, .int .u64 val, .string text] 64))
        unfold Fld.agg at hnu
        obtain ⟨pe, hpe⟩ : ∃ e, pnum ⟨1, kind, val, text⟩ 4294967295 = e := ⟨_, rfl⟩
        have hok := fun h : pnum ⟨1, kind, val, text⟩ 4294967295 = 0 => (pnum_ok h).2
        rw [hpe] at hnu hok
        simp only at hok
        by_cases h0 : pe = 0
        · have HS2 := Lib.hid (HGO.out ⟨val, snu, ⟨sk, sn, ss⟩, sset⟩ (by subst h0; unfold ptake; rw [if_pos rfl, hpe, if_pos rfl]))
          have hvm := hok h0
          subst h0
          clear hok hpe HGO HBAD hfrd
          go_wp2_with fail
          refine hnu.mono ?_
          rintro e w2 ⟨rfl, hB2⟩
          have hF2 := hF1.below hB2
          have hbw2 := bel_step hbw hB2
          obtain ⟨gc0, gc1, gc2, gc3⟩ : w2.cell? ⟨wr.heap.size, 0, none⟩ = some (.int .i64 1) ∧ w2.cell? ⟨wr.heap.size, 1, none⟩ = some (.int .i64 kind) ∧ w2.cell? ⟨wr.heap.size, 2, none⟩ = some (.int .u64 val) ∧ w2.cell? ⟨wr.heap.size, 3, none⟩ = some (.string text) := by
            refine ⟨?_, ?_, ?_, ?_⟩ <;> (simp only [World.cell?, (hB2.block _ hgl).trans hG1]; rfl)
          obtain ⟨d0, d1, d2, d3, d4, d5, d6⟩ := hF2.cells
          have hfb : ∀ i, w2.frozen? ⟨w1.heap.size, i, none⟩ = false := fun i => by simp [World.frozen?, show w2.heap[w1.heap.size]? = _ from hF2]
          have e1 := hfb 1
          have e2 := hfb 2
          have e3 := hfb 3
          have e4 := hfb 4
          have e5 := hfb 5
          clear hfb
          have hbw3 := hbw2.setCell (p := ⟨w1.heap.size, 1, none⟩) (Nat.le_refl _) (.int .u32 val)
          clear hnu hB2 hF1 hX2 hG1 hbw
          go_wp2_with fail
          go_roundw
          case rel => exact ⟨j + 1, ⟨val, snu, ⟨sk, sn, ss⟩, sset⟩, by go_num, rfl, by omega, hF2.set1 val, HS2.out, hbw3⟩
          case measure => simp [intOf]; omega
        · have hbe : (pe != 0) = true := by simpa using h0
          have HQ3 := Lib.hid (HBAD.out pe h0 (by unfold ptake; rw [if_pos rfl]; exact hpe))
          clear h0 hok hpe HGO HBAD hfrd
          go_wp2_with fail
          refine hnu.mono ?_
          rintro e w2 ⟨rfl, hB2⟩
          have hF2 := hF1.below hB2
          have hX3 := hX2.below hB2
          have hbw2 := bel_step hbw hB2
          obtain ⟨gc0, gc1, gc2, gc3⟩ : w2.cell? ⟨wr.heap.size, 0, none⟩ = some (.int .i64 1) ∧ w2.cell? ⟨wr.heap.size, 1, none⟩ = some (.int .i64 kind) ∧ w2.cell? ⟨wr.heap.size, 2, none⟩ = some (.int .u64 val) ∧ w2.cell? ⟨wr.heap.size, 3, none⟩ = some (.string text) := by
            refine ⟨?_, ?_, ?_, ?_⟩ <;> (simp only [World.cell?, (hB2.block _ hgl).trans hG1]; rfl)
          obtain ⟨d0, d1, d2, d3, d4, d5, d6⟩ := hF2.cells
          have hfb : ∀ i, w2.frozen? ⟨w1.heap.size, i, none⟩ = false := fun i => by simp [World.frozen?, show w2.heap[w1.heap.size]? = _ from hF2]
          have e1 := hfb 1
          have e2 := hfb 2
          have e3 := hfb 3
          have e4 := hfb 4
          have e5 := hfb 5
          clear hfb
          obtain ⟨x0, x1, x2, x3, x4, x5, x6⟩ := hX3.cells
          have hfz : ∀ i, w2.frozen? ⟨w.heap.size, i, none⟩ = false := fun i => by simp [World.frozen?, show w2.heap[w.heap.size]? = _ from hX3]
          have y0 := hfz 0
          have y1 := hfz 1
          have y2 := hfz 2
          have y3 := hfz 3
          have y4 := hfz 4
          have y5 := hfz 5
          have y6 := hfz 6
          clear hfz
          have hWw := bel_step hW1 hbw2
          clear hnu hB2 hF1 hX2 hG1 hbw hF2 hX3
          go_wp2_with fail
          refine bodyPost_ret (v := .tuple #[.agg #[.string ⟨#[]⟩, .int .u32 0, .bool false, .int .i64 0, .int .u64 0, .string ⟨#[]⟩, .slice none 0 0], .int .i64 pe]) ?_ rfl (prpost_err HQ3.out (below_set7 (hWw.setCell (p := ⟨w1.heap.size, 1, none⟩) (Nat.le_of_lt hwl) _) (Nat.le_refl _) _ _ _ _ _ _ _))
          rw [results_cell_tmp rfl]; go_simp
      have b1' : (num == 1) = false := by simpa using n1
      by_cases n2 : num = 2
      · subst n2
        clear hF hX
        have hnu := rnumber_any ⟨2, kind, val, text⟩ 1 (wr.alloc (Obj.cells #[.int .i64 2, .int .i64 kind, .int .u64 val, .string text] 64))
        unfold Fld.agg at hnu
        obtain ⟨pe, hpe⟩ : ∃ e, pnum ⟨2, kind, val, text⟩ 1 = e := ⟨_, rfl⟩
        have hok := fun h : pnum ⟨2, kind, val, text⟩ 1 = 0 => (pnum_ok h).2
        rw [hpe] at hnu hok
        simp only at hok
        by_cases h0 : pe = 0
        · have HS2 := Lib.hid (HGO.out ⟨sty, (val : Int) == 1, ⟨sk, sn, ss⟩, sset⟩ (by subst h0; unfold ptake; rw [if_neg (by simp), if_pos rfl, hpe, if_pos rfl, show (val == 1) = ((val : Int) == 1) by rw [Bool.eq_iff_iff]; simp; omega]))
          have hvm := hok h0
          subst h0
          clear hok hpe HGO HBAD hfrd
          go_wp2_with fail
          refine hnu.mono ?_
          rintro e w2 ⟨rfl, hB2⟩
          have hF2 := hF1.below hB2
          have hbw2 := bel_step hbw hB2
          obtain ⟨gc0, gc1, gc2, gc3⟩ : w2.cell? ⟨wr.heap.size, 0, none⟩ = some (.int .i64 2) ∧ w2.cell? ⟨wr.heap.size, 1, none⟩ = some (.int .i64 kind) ∧ w2.cell? ⟨wr.heap.size, 2, none⟩ = some (.int .u64 val) ∧ w2.cell? ⟨wr.heap.size, 3, none⟩ = some (.string text) := by
            refine ⟨?_, ?_, ?_, ?_⟩ <;> (simp only [World.cell?, (hB2.block _ hgl).trans hG1]; rfl)
          obtain ⟨d0, d1, d2, d3, d4, d5, d6⟩ := hF2.cells
          have hfb : ∀ i, w2.frozen? ⟨w1.heap.size, i, none⟩ = false := fun i => by simp [World.frozen?, show w2.heap[w1.heap.size]? = _ from hF2]
          have e1 := hfb 1
          have e2 := hfb 2
          have e3 := hfb 3
          have e4 := hfb 4
          have e5 := hfb 5
          clear hfb
          have hbw3 := hbw2.setCell (p := ⟨w1.heap.size, 2, none⟩) (Nat.le_refl _) (.bool ((val : Int) == 1))
          clear hnu hB2 hF1 hX2 hG1 hbw
          go_wp2_with fail
          go_roundw
          case rel => exact ⟨j + 1, ⟨sty, (val : Int) == 1, ⟨sk, sn, ss⟩, sset⟩, by go_num, rfl, by omega, hF2.set2 _, HS2.out, hbw3⟩
          case measure => simp [intOf]; omega
        · have hbe : (pe != 0) = true := by simpa using h0
          have HQ3 := Lib.hid (HBAD.out pe h0 (by unfold ptake; rw [if_neg (by simp), if_pos rfl]; exact hpe))
          clear h0 hok hpe HGO HBAD hfrd
          go_wp2_with fail
          refine hnu.mono ?_
          rintro e w2 ⟨rfl, hB2⟩
          have hF2 := hF1.below hB2
          have hX3 := hX2.below hB2
          have hbw2 := bel_step hbw hB2
          obtain ⟨gc0, gc1, gc2, gc3⟩ : w2.cell? ⟨wr.heap.size, 0, none⟩ = some (.int .i64 2) ∧ w2.cell? ⟨wr.heap.size, 1, none⟩ = some (.int .i64 kind) ∧ w2.cell? ⟨wr.heap.size, 2, none⟩ = some (.int .u64 val) ∧ w2.cell? ⟨wr.heap.size, 3, none⟩ = some (.string text) := by
            refine ⟨?_, ?_, ?_, ?_⟩ <;> (simp only [World.cell?, (hB2.block _ hgl).trans hG1]; rfl)
          obtain ⟨d0, d1, d2, d3, d4, d5, d6⟩ := hF2.cells
          have hfb : ∀ i, w2.frozen? ⟨w1.heap.size, i, none⟩ = false := fun i => by simp [World.frozen?, show w2.heap[w1.heap.size]? = _ from hF2]
          have e1 := hfb 1
          have e2 := hfb 2
          have e3 := hfb 3
          have e4 := hfb 4
          have e5 := hfb 5
          clear hfb
          obtain ⟨x0, x1, x2, x3, x4, x5, x6⟩ := hX3.cells
          have hfz : ∀ i, w2.frozen? ⟨w.heap.size, i, none⟩ = false := fun i => by simp [World.frozen?, show w2.heap[w.heap.size]? = _ from hX3]
          have y0 := hfz 0
          have y1 := hfz 1
          have y2 := hfz 2
          have y3 := hfz 3
          have y4 := hfz 4
          have y5 := hfz 5
          have y6 := hfz 6
          clear hfz
          have hWw := bel_step hW1 hbw2
          clear hnu hB2 hF1 hX2 hG1 hbw hF2 hX3
          go_wp2_with fail
          refine bodyPost_ret (v := .tuple #[.agg #[.string ⟨#[]⟩, .int .u32 0, .bool false, .int .i64 0, .int .u64 0, .string ⟨#[]⟩, .slice none 0 0], .int .i64 pe]) ?_ rfl (prpost_err HQ3.out (below_set7 (hWw.setCell (p := ⟨w1.heap.size, 2, none⟩) (Nat.le_of_lt hwl) _) (Nat.le_refl _) _ _ _ _ _ _ _))
          rw [results_cell_tmp rfl]; go_simp
      have b2' : (num == 2) = false := by simpa using n2
      by_cases n9 : num = 9
      · subst n9
        by_cases hk : kind = 2
        · subst hk
          have HS2 := Lib.hid (HGO.out ⟨sty, snu, ⟨8, 0, ⟨#[]⟩⟩, text⟩ (by unfold ptake; rw [if_neg n1, if_neg n2, if_pos rfl, if_pos rfl]))
          obtain ⟨d0, d1, d2, d3, d4, d5, d6⟩ := hF.cells
          have hfb : ∀ i, wr.frozen? ⟨w1.heap.size, i, none⟩ = false := fun i => by simp [World.frozen?, show wr.heap[w1.heap.size]? = _ from hF]
          have e1 := hfb 1
          have e2 := hfb 2
          have e3 := hfb 3
          have e4 := hfb 4
          have e5 := hfb 5
          clear hfb
          clear HGO HBAD hfrd n1 n2 hX2 hG1 hbw hF1 hX
          go_wp2_with fail
          go_roundw
          case rel => exact ⟨j + 1, ⟨sty, snu, ⟨8, 0, ⟨#[]⟩⟩, text⟩, by go_num, rfl, by omega, (hF.setV ⟨8, 0, ⟨#[]⟩⟩).alloc _, HS2.out, bel_sa hB (Nat.le_refl _) hsz⟩
          case measure => simp [intOf]; omega
        · have hb : (kind != 2) = true := by simpa using hk
          have HQ3 := Lib.hid (HBAD.out 4 (by decide) (by unfold ptake; rw [if_neg n1, if_neg n2, if_pos rfl, if_neg hk]))
          have hWw := bel_step hW1 hB
          have hws := hWw.size
          obtain ⟨d0, d1, d2, d3, d4, d5, d6⟩ := hF.cells
          have hfb : ∀ i, wr.frozen? ⟨w1.heap.size, i, none⟩ = false := fun i => by simp [World.frozen?, show wr.heap[w1.heap.size]? = _ from hF]
          have e1 := hfb 1
          have e2 := hfb 2
          have e3 := hfb 3
          have e4 := hfb 4
          have e5 := hfb 5
          clear hfb
          obtain ⟨x0, x1, x2, x3, x4, x5, x6⟩ := hX.cells
          have hfz : ∀ i, wr.frozen? ⟨w.heap.size, i, none⟩ = false := fun i => by simp [World.frozen?, show wr.heap[w.heap.size]? = _ from hX]
          have y0 := hfz 0
          have y1 := hfz 1
          have y2 := hfz 2
          have y3 := hfz 3
          have y4 := hfz 4
          have y5 := hfz 5
          have y6 := hfz 6
          clear hfz
          clear hk HGO HBAD hfrd n1 n2 hX2 hG1 hbw hF1 hF hX
          go_wp2_with fail
          refine bodyPost_ret (v := .tuple #[.agg #[.string ⟨#[]⟩, .int .u32 0, .bool false, .int .i64 0, .int .u64 0, .string ⟨#[]⟩, .slice none 0 0], .int .i64 4]) ?_ rfl (prpost_err HQ3.out (bel_37a hWw (Nat.le_of_lt hwl) hws))
          rw [results_cell_tmp rfl]; go_simp
      have b9' : (num == 9) = false := by simpa using n9
      have hnn := hfrd.1
      simp only at hnn
      by_cases n8 : num ≤ 8
      · have hn3 : decide (3 ≤ num) = true := decide_eq_true (by omega)
        have hn8 : decide (num ≤ 8) = true := decide_eq_true n8
        have hv := fun W hr => rvof_any [⟨num, kind, val, text⟩] (some ⟨wr.heap.size + 1, 0, none⟩) 1 3 false (by simp) (fun g hg => by obtain rfl : g = ⟨num, kind, val, text⟩ := (by simpa using hg); exact ⟨by have := hfrd.1; omega, by have := hfrd.2.1; omega, hfrd.2.2.2.2.1⟩) W hr
        have hr1 : Rd (((wr.alloc (Obj.cells #[.int .i64 num, .int .i64 kind, .int .u64 val, .string text] 64)).alloc (Obj.cells #[.int .i64 num, .int .i64 kind, .int .u64 val, .string text] 64))) ((wr.alloc (Obj.cells #[.int .i64 num, .int .i64 kind, .int .u64 val, .string text] 64)).heap.size + 1) (some ⟨(wr.alloc (Obj.cells #[.int .i64 num, .int .i64 kind, .int .u64 val, .string text] 64)).heap.size, 0, none⟩) (flc [⟨num, kind, val, text⟩]) := Rd.cells (wr.alloc (Obj.cells #[.int .i64 num, .int .i64 kind, .int .u64 val, .string text] 64)) #[.int .i64 num, .int .i64 kind, .int .u64 val, .string text] 64
        have hpt2 : ptake ⟨num, kind, val, text⟩ ⟨sty, snu, ⟨sk, sn, ss⟩, sset⟩ = (⟨sty, snu, (vof 3 false [⟨num, kind, val, text⟩]).1, sset⟩, (vof 3 false [⟨num, kind, val, text⟩]).2) := by
          unfold ptake; rw [if_neg n1, if_neg n2, if_neg n9, if_pos ⟨of_decide_eq_true hn3, n8⟩]
        obtain ⟨⟨⟨vk, vn, vs⟩, ve⟩, hvq⟩ : ∃ d, vof 3 false [⟨num, kind, val, text⟩] = d := ⟨_, rfl⟩
        rw [hvq] at hv hpt2
        unfold VV.cells at hv
        simp only [List.length_cons, List.length_nil] at hv hpt2
        have hF3 := hF1.alloc (Obj.cells #[.int .i64 num, .int .i64 kind, .int .u64 val, .string text] 64)
        have hX3 := hX2.alloc (Obj.cells #[.int .i64 num, .int .i64 kind, .int .u64 val, .string text] 64)
        have hbw3 := hbw.alloc hbw.size (Obj.cells #[.int .i64 num, .int .i64 kind, .int .u64 val, .string text] 64)
        have hcall := hv ((wr.alloc (Obj.cells #[.int .i64 num, .int .i64 kind, .int .u64 val, .string text] 64)).alloc (Obj.cells #[.int .i64 num, .int .i64 kind, .int .u64 val, .string text] 64)) (by simpa using hr1)
        clear hv hr1 hvq n1 n2 n9 n8 hnn hF hX hF1 hX2 hG1 hbw hfrd
        by_cases h0 : ve = 0
        · have HS2 := Lib.hid (HGO.out ⟨sty, snu, ⟨vk, vn, vs⟩, sset⟩ (by rw [hpt2, h0]))
          subst h0
          clear HGO HBAD hpt2
          go_wp2_with fail
          refine hcall.mono ?_
          rintro e w2 ⟨rfl, hB2⟩
          have hF2 := hF3.below hB2
          have hbw2 := bel_step hbw3 hB2
          have hfl2 := hF2.lt
          have hbs2 := hbw2.size
          obtain ⟨d0, d1, d2, d3, d4, d5, d6⟩ := hF2.cells
          have hfb : ∀ i, w2.frozen? ⟨w1.heap.size, i, none⟩ = false := fun i => by simp [World.frozen?, show w2.heap[w1.heap.size]? = _ from hF2]
          have e1 := hfb 1
          have e2 := hfb 2
          have e3 := hfb 3
          have e4 := hfb 4
          have e5 := hfb 5
          clear hfb
          clear hcall hB2 hF3 hX3 hbw3
          go_wp2_with fail
          go_roundw
          case rel => exact ⟨j + 1, ⟨sty, snu, ⟨vk, vn, vs⟩, sset⟩, by go_num, rfl, by omega, (hF2.setV ⟨vk, vn, vs⟩).alloc _, HS2.out, bel_sa hbw2 (Nat.le_refl _) hbs2⟩
          case measure => simp [intOf]; omega
        · have hbe : (ve != 0) = true := by simpa using h0
          have HQ3 := Lib.hid (HBAD.out ve h0 (by rw [hpt2]))
          clear h0 HGO HBAD hpt2
          go_wp2_with fail
          refine hcall.mono ?_
          rintro e w2 ⟨rfl, hB2⟩
          have hF2 := hF3.below hB2
          have hX4 := hX3.below hB2
          have hbw2 := bel_step hbw3 hB2
          have hWw := bel_step hW1 hbw2
          have hws := hWw.size
          have hfl2 := hF2.lt
          have hxl2 := hX4.lt
          obtain ⟨d0, d1, d2, d3, d4, d5, d6⟩ := hF2.cells
          have hfb : ∀ i, w2.frozen? ⟨w1.heap.size, i, none⟩ = false := fun i => by simp [World.frozen?, show w2.heap[w1.heap.size]? = _ from hF2]
          have e1 := hfb 1
          have e2 := hfb 2
          have e3 := hfb 3
          have e4 := hfb 4
          have e5 := hfb 5
          clear hfb
          obtain ⟨x0, x1, x2, x3, x4, x5, x6⟩ := hX4.cells
          have hfz : ∀ i, w2.frozen? ⟨w.heap.size, i, none⟩ = false := fun i => by simp [World.frozen?, show w2.heap[w.heap.size]? = _ from hX4]
          have y0 := hfz 0
          have y1 := hfz 1
          have y2 := hfz 2
          have y3 := hfz 3
          have y4 := hfz 4
          have y5 := hfz 5
          have y6 := hfz 6
          clear hfz
          clear hcall hB2 hF3 hX3 hbw3 hF2 hX4
          go_wp2_with fail
          refine bodyPost_ret (v := .tuple #[.agg #[.string ⟨#[]⟩, .int .u32 0, .bool false, .int .i64 0, .int .u64 0, .string ⟨#[]⟩, .slice none 0 0], .int .i64 ve]) ?_ rfl (prpost_err HQ3.out (bel_37a hWw (Nat.le_of_lt hwl) hws))
          rw [results_cell_tmp rfl]; go_simp
      · have hn3 : decide (3 ≤ num) = true := decide_eq_true (by omega)
        have hn8 : decide (num ≤ 8) = false := decide_eq_false n8
        have HS2 := Lib.hid (HGO.out ⟨sty, snu, ⟨sk, sn, ss⟩, sset⟩ (by unfold ptake; rw [if_neg n1, if_neg n2, if_neg n9, if_neg (fun h => n8 h.2)]))
        clear n1 n2 n9 n8 hnn hF hX hX2 hG1 hfrd HGO HBAD
        go_wp2_with fail
        go_roundw
        case rel => exact ⟨j + 1, ⟨sty, snu, ⟨sk, sn, ss⟩, sset⟩, by go_num, rfl, by omega, hF1, HS2.out, hbw⟩
        case measure => simp [intOf]; omega
    · obtain rfl : j = m := by omega
      have hst : t = (st, 0) := by rw [← HPT.out, List.drop_eq_nil_of_le (by rw [HM.out]; exact Nat.le_refl _)]; rfl
      have hstok := HTOK.out
      rw [hst] at hstok
      have HQ3 : Hid ((if st.v.k = 8 then (if (pofn n st.set.data.toList).2 = 0 then ((⟨key, st.type, st.null, st.v, none, 0, (pofn n st.set.data.toList).1⟩ : Pn), 0) else (Pn.zero, (pofn n st.set.data.toList).2)) else (⟨key, st.type, st.null, st.v, none, 0, .nil⟩, 0)) = q) := Lib.hid (by
        have := HQ2.out
        rwa [hst, if_pos rfl] at this)
      obtain ⟨sty, snu, ⟨sk, sn, ss⟩, sset⟩ := st
      simp only at HQ3 hF
      have HSOK := Lib.hid hstok
      have hWr := bel_step hW1 hB
      have hxl := hX.lt
      have hfl := hF.lt
      obtain ⟨c0', c1', c2', c3', c4', c5', c6'⟩ := hF.cells
      clear hst hstok HQ2 HPT hlt HTOK HT hX1
      by_cases hk8 : sk = 8
      · subst hk8
        obtain ⟨cb, W5, hcv, hr5, hB5, hcb0, hcb1⟩ := run_bytes wr sset
        have hss := HSOK.out.set
        simp only at hss
        have hW5 := bel_step hWr hB5
        have hcall := HREC.out sset.data.toList (some ⟨wr.heap.size, 0, none⟩) sset.size cb W5 (by simp) hcb0 (by simp; omega) hr5
        unfold POPost at hcall
        have HQ4 : Hid ((if (pofn n sset.data.toList).2 = 0 then ((⟨key, sty, snu, ⟨8, sn, ss⟩, none, 0, (pofn n sset.data.toList).1⟩ : Pn), 0) else (Pn.zero, (pofn n sset.data.toList).2)) = q) := Lib.hid (by have := HQ3.out; rwa [if_pos rfl] at this)
        obtain ⟨⟨rl, re⟩, hrq⟩ : ∃ d, pofn n sset.data.toList = d := ⟨_, rfl⟩
        rw [hrq] at hcall HQ4
        simp only at hcall HQ4
        have hF5 := hF.below hB5
        have hX5 := hX.below hB5
        have hwB : w.heap.size ≠ w1.heap.size := Nat.ne_of_lt hwl
        have hs5 := Nat.le_trans hsz hB5.size
        have hdi : (deep : Int) ≤ 8 := by omega
        have hw5l := hX5.lt
        have hF5l := hF5.lt
        clear hrq hr5 hcb0 hcb1 hB5 HQ3 hF hX hss
        go_wp2_with fail
        refine hcall.mono ?_
        rintro e w6 ⟨l6, A6, c6, rfl, hat6, hok6, hlen6, hstr6, hB6⟩
        have hF6 := hF5.below hB6
        have hX6 := hX5.below hB6
        have hW6 := bel_step hW5 hB6
        have hS6 := hF6.set6 A6 l6.list.length c6
        obtain ⟨d0, d1, d2, d3, d4, d5, d6⟩ := hF6.cells
        have z6 : w6.frozen? ⟨w1.heap.size, 6, none⟩ = false := by simp [World.frozen?, show w6.heap[w1.heap.size]? = _ from hF6]
        obtain ⟨x0, x1, x2, x3, x4, x5, x6⟩ := hX6.cells
        have hfz : ∀ i, w6.frozen? ⟨w.heap.size, i, none⟩ = false := fun i => by simp [World.frozen?, show w6.heap[w.heap.size]? = _ from hX6]
        have y0 := hfz 0
        have y1 := hfz 1
        have y2 := hfz 2
        have y3 := hfz 3
        have y4 := hfz 4
        have y5 := hfz 5
        have y6 := hfz 6
        clear hfz
        have hX7 : InP (w6.setCell ⟨w1.heap.size, 6, none⟩ (.slice A6 l6.list.length c6)) w.heap.size ⟨#[]⟩ 0 false 0 0 ⟨#[]⟩ none 0 0 := (heap_setCell_other w6 ⟨w1.heap.size, 6, none⟩ w.heap.size _ hwB).trans hX6
        have hW7 := hW6.setCell (p := ⟨w1.heap.size, 6, none⟩) (Nat.le_of_lt hwl) (.slice A6 l6.list.length c6)
        have hat7 := (hat6.low (B := w1.heap.size) (i := 6) (fun b hb => by omega) (.slice A6 l6.list.length c6))
        obtain ⟨L6, hL6⟩ : ∃ k, l6.list.length = k := ⟨_, rfl⟩
        rw [hL6] at hS6 hX7 hW7 hat7 ⊢
        have HAT := Lib.hid hat7
        have HO6 := Lib.hid (And.intro hok6 (And.intro hlen6 (And.intro hstr6 hL6)))
        have HX7 := Lib.hid hX7
        have HS6 := Lib.hid hS6
        have HW7 := Lib.hid hW7
        have HW6 := Lib.hid hW6
        clear hcall hcv hF5 hX5 hat6 hok6 hlen6 hstr6 hB6 hF6 hX6 hL6 hX7 hS6 hW7 hW6 hat7
        by_cases h0 : re = 0
        rotate_left
        · have hbe : (re != 0) = true := by simpa using h0
          have HQ5 : Hid (q = (Pn.zero, re)) := Lib.hid (by have := HQ4.out; rw [if_neg h0] at this; exact this.symm)
          clear h0
          go_wp2_with fail
          refine bodyPost_ret (v := .tuple #[.agg #[.string ⟨#[]⟩, .int .u32 0, .bool false, .int .i64 0, .int .u64 0, .string ⟨#[]⟩, .slice none 0 0], .int .i64 re]) ?_ rfl (prpost_err HQ5.out (below_set7 HW6.out (Nat.le_refl _) _ _ _ _ _ _ _))
          rw [results_cell_tmp rfl]; go_simp
        subst h0
        have HQ5 : Hid (((⟨key, sty, snu, ⟨8, sn, ss⟩, none, 0, rl⟩ : Pn), (0 : Int)) = q) := Lib.hid (by have := HQ4.out; rwa [if_pos rfl] at this)
        go_wp2_with fail
        refine bodyPost_ret (v := .tuple #[.agg #[.string key, .int .u32 sty, .bool snu, .int .i64 8, .int .u64 sn, .string ss, .slice A6 L6 c6], .int .i64 0]) ?_ rfl ?_
        · rw [results_cell_tmp rfl]; go_simp
        · obtain ⟨o1, o2, o3, o4⟩ := HO6.out
          have hlow : ∀ b, W5.heap.size ≤ b → b ≠ w.heap.size := fun b hb => by omega
          refine ⟨⟨key, sty, snu, ⟨8, sn, ss⟩, A6, c6, l6⟩, ?_, ?_, ⟨HSOK.out.ty, HSOK.out.v, by simp only; omega, o1⟩, o2, ?_, below_set7 HW7.out (Nat.le_refl _) _ _ _ _ _ _ _⟩
          · rw [← HQ5.out]; unfold Pn.agg; simp only [o4]
          · rw [← HQ5.out]; unfold Pn.strip; simp only [o3]
          · exact (((((((HAT.out.low hlow _).low hlow _).low hlow _).low hlow _).low hlow _).low hlow _).low hlow _).to (fun b hb => by omega)
      · have hbk : (sk == 8) = false := by simpa using hk8
        have HQ4 : Hid (((⟨key, sty, snu, ⟨sk, sn, ss⟩, none, 0, .nil⟩ : Pn), (0 : Int)) = q) := Lib.hid (by have := HQ3.out; rwa [if_neg hk8] at this)
        obtain ⟨x0, x1, x2, x3, x4, x5, x6⟩ := hX.cells
        have hfz : ∀ i, wr.frozen? ⟨w.heap.size, i, none⟩ = false := fun i => by simp [World.frozen?, show wr.heap[w.heap.size]? = _ from hX]
        have y0 := hfz 0
        have y1 := hfz 1
        have y2 := hfz 2
        have y3 := hfz 3
        have y4 := hfz 4
        have y5 := hfz 5
        have y6 := hfz 6
        clear hk8 HQ3 hX hfz hF
        go_wp2_with fail
        refine bodyPost_ret (v := .tuple #[.agg #[.string key, .int .u32 sty, .bool snu, .int .i64 sk, .int .u64 sn, .string ss, .slice none 0 0], .int .i64 0]) ?_ rfl ?_
        · rw [results_cell_tmp rfl]; go_simp
        · exact ⟨⟨key, sty, snu, ⟨sk, sn, ss⟩, none, 0, .nil⟩, by rw [← HQ4.out]; rfl, by rw [← HQ4.out]; rfl, ⟨HSOK.out.ty, HSOK.out.v, Nat.zero_le _, trivial⟩, Nat.zero_le _, Ps.nil_atS _ _, below_set7 hWr (Nat.le_refl _) _ _ _ _ _ _ _⟩
end Go.Proofs.YtanfnjlndckhkaaDoor
