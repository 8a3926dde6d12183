/- WALK: meta.Joined -/
import Derived.Test.YtkanhggmhjldmaaMetaJ
import Derived.StillTailTactics
namespace Go.Proofs.Ytkanhggmhjldmaa
open Go.RowKit Plain

theorem wrap_small (i : Nat) (h : i < 9223372036854775808) : IntKind.i64.wrap (i : Int) = (i : Int) := by
  simp [IntKind.wrap, IntKind.bits, IntKind.signed]; omega
theorem rd_other {w w' : World} {B M : Nat} {A : Option Addr} {xs : List Value} (h : Rd w B A xs) (hB : B ≤ w.heap.size) (hne : ∀ b off, A = some ⟨b, off, none⟩ → b ≠ M) (hg : w.grownBy w' (some M)) : Rd w' B A xs := by
  rcases h with h | ⟨b, off, rfl, hb, hc⟩
  · exact .inl h
  · refine .inr ⟨b, off, rfl, hb, fun i hi => ?_⟩
    rw [← hc i hi]
    have := hg.block b (by omega) (fun e => hne b off rfl (by have := Option.some.inj e; omega))
    simp [World.cell?, this]
theorem bxs_other {w w' : World} {l : List (Nat × Nat)} {m M : Nat} (h : bxs w l m) (hne : ∀ x ∈ l, x.1 ≠ M) (hg : w.grownBy w' (some M)) : bxs w' l m := fun x hx => by
  have := hg.block x.1 (h x hx).2 (fun e => hne x hx (by have := Option.some.inj e; omega))
  exact ⟨by rw [← (h x hx).1]; simp [World.cell?, this], Nat.lt_of_lt_of_le (h x hx).2 hg.size⟩
theorem grown_trans {a b c : World} {r : Option Nat} (h : a.grownBy b r) (k : b.grownBy c r) : a.grownBy c r := h.trans k
theorem grown_below {a b : World} {r : Option Nat} (h : Below a.heap.size a b) : a.grownBy b r := ⟨h.os, h.tape, h.output, h.size, fun k hk _ => h.block k hk⟩
theorem below_of_grown {B M : Nat} {a b c : World} (h : Below B a b) (g : b.grownBy c (some M)) (hM : B ≤ M) (hB : B ≤ a.heap.size) : Below B a c :=
  ⟨g.os.trans h.os, g.tape.trans h.tape, g.output.trans h.output, Nat.le_trans h.size g.size, fun k hk => (g.block k (by have := h.size; omega) (fun e => by have := Option.some.inj e; omega)).trans (h.block k hk)⟩
set_option maxRecDepth 100000 in
set_option maxHeartbeats 2000000 in
theorem mjoined_any (a b : MM) (w : World) : Calls Try.prog 14 #[.agg a.cells, .agg b.cells] w fun e w' => e = .returned (.agg (mjoin a b).cells) ∧ Below w.heap.size w w' := by
  rw [← mjoin_fold]
  have hml := mfields_len b
  have hnum : ∀ f ∈ mfields b, ∃ i : Nat, i < 8 ∧ f.num = i + 1 ∧ (i = 0 → f.val = 1) := fun f hf => mall_num hf
  have hfa := fields_any b
  generalize hl : mfields b = l at *
  obtain ⟨a1, a2, a3, a4, a5, a6, a7, a8⟩ := a
  obtain ⟨b1, b2, b3, b4, b5, b6, b7, b8⟩ := b
  clear hl
  generalize hm0 : (⟨a1, a2, a3, a4, a5, a6, a7, a8⟩ : MM) = m0 at *
  have hc0 : m0.cells = #[.bool a1, .string a2, .int .u64 a3, .int .u64 a4, .string a5, .string a6, .string a7, .string a8] := by rw [← hm0]; rfl
  rw [hc0]
  have HC0 := Lib.hid hc0
  clear hc0 hm0
  obtain ⟨M, hMM⟩ : ∃ M, l.foldl mset m0 = M := ⟨_, rfl⟩
  rw [hMM]
  obtain ⟨c1, c2, c3, c4, c5, c6, c7, c8⟩ := M
  have HMM := Lib.hid hMM
  clear hMM
  unfold MM.cells
  go_enter Try.func14, Try.ntmps14
  go_wp2_with fail
  refine (parts_any _ _).mono ?_
  rintro e w1 ⟨rfl, hrow, hX, hZ, hB1⟩
  simp only [World.size_alloc] at hrow hX hZ hB1 ⊢
  have hMo : BoxM w1 (w.heap.size + 1 + 1 + 1) m0 := by
    refine (hB1.block _ (by omega)).trans ?_
    rw [HC0.out]
    have := World.alloc_heap_new (((w.alloc (Obj.cells #[.bool a1, .string a2, .int .u64 a3, .int .u64 a4, .string a5, .string a6, .string a7, .string a8] 24)).alloc (Obj.cells #[.bool b1, .string b2, .int .u64 b3, .int .u64 b4, .string b5, .string b6, .string b7, .string b8] 24)).alloc (Obj.cells #[.bool false, .string ⟨#[]⟩, .int .u64 0, .int .u64 0, .string ⟨#[]⟩, .string ⟨#[]⟩, .string ⟨#[]⟩, .string ⟨#[]⟩] 24)) (Obj.cells #[.bool a1, .string a2, .int .u64 a3, .int .u64 a4, .string a5, .string a6, .string a7, .string a8] 24)
    simpa using this
  have hMb : BoxM w1 (w.heap.size + 1) ⟨b1, b2, b3, b4, b5, b6, b7, b8⟩ := by
    refine (hB1.block _ (by omega)).trans ?_
    rw [Below.heap_alloc _ _ _ (by simp), Below.heap_alloc _ _ _ (by simp)]
    have := World.alloc_heap_new (w.alloc (Obj.cells #[.bool a1, .string a2, .int .u64 a3, .int .u64 a4, .string a5, .string a6, .string a7, .string a8] 24)) (Obj.cells #[.bool b1, .string b2, .int .u64 b3, .int .u64 b4, .string b5, .string b6, .string b7, .string b8] 24)
    rw [World.size_alloc] at this
    exact this
  have hMr : BoxM w1 (w.heap.size + 1 + 1) ⟨false, ⟨#[]⟩, 0, 0, ⟨#[]⟩, ⟨#[]⟩, ⟨#[]⟩, ⟨#[]⟩⟩ := by
    refine (hB1.block _ (by omega)).trans ?_
    rw [Below.heap_alloc _ _ _ (by simp)]
    have := World.alloc_heap_new ((w.alloc (Obj.cells #[.bool a1, .string a2, .int .u64 a3, .int .u64 a4, .string a5, .string a6, .string a7, .string a8] 24)).alloc (Obj.cells #[.bool b1, .string b2, .int .u64 b3, .int .u64 b4, .string b5, .string b6, .string b7, .string b8] 24)) (Obj.cells #[.bool false, .string ⟨#[]⟩, .int .u64 0, .int .u64 0, .string ⟨#[]⟩, .string ⟨#[]⟩, .string ⟨#[]⟩, .string ⟨#[]⟩] 24)
    simp only [World.size_alloc] at this
    exact this
  have hW : Below w.heap.size w w1 := ((((((Below.refl _ w).alloc (Nat.le_refl _) _).alloc (by simp) _).alloc (by simp; omega) _).alloc (by simp; omega) _)).trans (hB1.mono (by omega))
  clear hB1
  obtain ⟨x0, x1, x2, x3, x4, x5, x6, x7⟩ : w1.cell? ⟨w.heap.size + 1, 0, none⟩ = some (.bool b1) ∧ w1.cell? ⟨w.heap.size + 1, 1, none⟩ = some (.string b2) ∧ w1.cell? ⟨w.heap.size + 1, 2, none⟩ = some (.int .u64 b3) ∧ w1.cell? ⟨w.heap.size + 1, 3, none⟩ = some (.int .u64 b4) ∧
      w1.cell? ⟨w.heap.size + 1, 4, none⟩ = some (.string b5) ∧ w1.cell? ⟨w.heap.size + 1, 5, none⟩ = some (.string b6) ∧ w1.cell? ⟨w.heap.size + 1, 6, none⟩ = some (.string b7) ∧ w1.cell? ⟨w.heap.size + 1, 7, none⟩ = some (.string b8) :=
    ⟨hMb.cell 0, hMb.cell 1, hMb.cell 2, hMb.cell 3, hMb.cell 4, hMb.cell 5, hMb.cell 6, hMb.cell 7⟩
  go_wp2_with fail
  refine (hfa w1).mono ?_
  rintro e w2 ⟨A, c, rfl, hown, hB2⟩
  have hr2 := Rd.of_own hown
  have hAg : ∀ b off, A = some ⟨b, off, none⟩ → b ≠ w.heap.size + 1 + 1 + 1 := by
    rintro b off rfl
    have := (hown.lt b (by simp [Value.ownBlock])).1
    omega
  have hrow2 := (hB2.block _ (by omega)).trans hrow
  have hX2 := hX.below hB2
  have hM2 := hMo.below hB2 (by omega)
  have hMr2 := hMr.below hB2 (by omega)
  have hW2 := bel_step hW hB2
  have hs2 := hB2.size
  clear hown hB2 hW hMb hMo hMr hX hrow hfa x0 x1 x2 x3 x4 x5 x6 x7
  have hAge : ∀ b off, A = some ⟨b, off, none⟩ → b ≠ w.heap.size + 1 + 1 + 1 := hAg
  go_wp2_with fail
  go_loopw [14] (fun i wr => ∃ j : Nat, i = .int .i64 j ∧ j ≤ l.length ∧ BoxM wr (w.heap.size + 1 + 1 + 1) ((l.take j).foldl mset m0) ∧ w2.grownBy wr (some (w.heap.size + 1 + 1 + 1))) (fun i _ => l.length - (intOf i).toNat)
  case atStart => exact ⟨0, rfl, Nat.zero_le _, hM2, World.grownBy.refl _ _⟩
  case round =>
    clear hM2
    obtain ⟨j, rfl, hj, hM2, hg⟩ := hrel
    have hgs := hg.size
    by_cases hlt : j < l.length
    · obtain ⟨f, hf⟩ : ∃ f, l[j]? = some f := ⟨_, List.getElem?_eq_getElem hlt⟩
      obtain ⟨i, hi8, hfn, hf1⟩ := hnum f (List.mem_of_getElem? hf)
      have hft : (l.take (j + 1)).foldl mset m0 = mset ((l.take j).foldl mset m0) f := by rw [List.take_add_one, hf]; simp
      obtain ⟨b1, o1, rfl, hb1, g0, g1, g2, g3⟩ := fld_at (rd_other hr2 (Nat.le_refl _) hAge hg) hf
      obtain ⟨p, hp, hpb, hcf, htake⟩ := takes_any i hi8 (w.heap.size + 1 + 1 + 1 + 1) f hfn hf1
      obtain ⟨q0, q1, q2, q3⟩ := prt_cell ((hg.block _ (by omega) (fun e => by have := Option.some.inj e; omega)).trans hrow2) hp
      have hbx := bxs_other hX2 (by intro x hx; obtain ⟨k, _, rfl⟩ := List.mem_map.1 hx; simp; omega) hg (p.box, i) (by rw [hpb]; exact List.mem_map.2 ⟨i, by simpa using hi8, rfl⟩)
      obtain ⟨fn, fk, fv, ft⟩ := f
      obtain ⟨pn, pk, pt, pa, pb⟩ := p
      simp only at hfn g0 g1 g2 g3 hpb hcf htake q0 q1 q2 q3 hbx
      subst hpb
      have hw2 : IntKind.i64.wrap (fn - 1) = (i : Int) := by rw [show fn - 1 = (i : Int) by omega]; exact wrap_small i (by omega)
      have HFN := Lib.hid hfn
      clear hfn
      have HFT := Lib.hid hft
      clear hft hf hp hf1
      have HM2 := Lib.hid hM2
      have hF := BoxF.new wr fn fk fv ft
      have hpb := (Below.refl wr.heap.size wr).alloc (Nat.le_refl _) (Obj.cells #[.int .i64 fn, .int .i64 fk, .int .u64 fv, .string ft] 49)
      clear q0 q1 q2
      go_wp2_with fail
      generalize hWp : wr.alloc (Obj.cells #[.int .i64 fn, .int .i64 fk, .int .u64 fv, .string ft] 49) = Wp at *
      obtain ⟨d0, d1, d2, d3⟩ := hF.cells
      have q3' := (hpb.cell (by simp; omega)).trans q3
      clear g0 g1 g2 g3 q3 hWp
      have hi8' : (i : Int) < 8 := by omega
      go_still_tail 8, (by kernel_rfl)
      change wpList _ _ _ _ _ Wp.drew
      go_wp2_with fail
      have hMd : BoxM Wp.drew (w.heap.size + 1 + 1 + 1) ((l.take j).foldl mset m0) := HM2.out.below hpb.drew HM2.out.lt
      refine (htake _ _ Wp.drew ((hpb.cell hbx.2).trans hbx.1) hMd).mono ?_
      rintro e w3 ⟨rfl, hM3, hg3⟩
      have hg4 : w2.grownBy w3 (some (w.heap.size + 1 + 1 + 1)) := (hg.trans (grown_below hpb)).trans ⟨hg3.os, hg3.tape, hg3.output, hg3.size, hg3.block⟩
      rw [← HFT.out] at hM3
      clear hMd hg3 htake hcf d0 d1 d2 d3 q3'
      go_wp2_with fail
      go_roundw
      case rel => exact ⟨j + 1, by go_num, by omega, hM3, hg4⟩
      case measure => simp [intOf]; omega
    · rw [List.take_of_length_le (by omega)] at hM2
      have hW3 := below_of_grown hW2 hg (by omega) (Nat.le_refl _)
      rw [HMM.out] at hM2
      obtain ⟨x0, x1, x2, x3, x4, x5, x6, x7⟩ : wr.cell? ⟨w.heap.size + 1 + 1 + 1, 0, none⟩ = some (.bool c1) ∧ wr.cell? ⟨w.heap.size + 1 + 1 + 1, 1, none⟩ = some (.string c2) ∧ wr.cell? ⟨w.heap.size + 1 + 1 + 1, 2, none⟩ = some (.int .u64 c3) ∧ wr.cell? ⟨w.heap.size + 1 + 1 + 1, 3, none⟩ = some (.int .u64 c4) ∧
          wr.cell? ⟨w.heap.size + 1 + 1 + 1, 4, none⟩ = some (.string c5) ∧ wr.cell? ⟨w.heap.size + 1 + 1 + 1, 5, none⟩ = some (.string c6) ∧ wr.cell? ⟨w.heap.size + 1 + 1 + 1, 6, none⟩ = some (.string c7) ∧ wr.cell? ⟨w.heap.size + 1 + 1 + 1, 7, none⟩ = some (.string c8) :=
        ⟨hM2.cell 0, hM2.cell 1, hM2.cell 2, hM2.cell 3, hM2.cell 4, hM2.cell 5, hM2.cell 6, hM2.cell 7⟩
      have hMr3 : BoxM wr (w.heap.size + 1 + 1) _ := (hg.block _ (by omega) (fun e => by have := Option.some.inj e; omega)).trans hMr2
      obtain ⟨y0, y1, y2, y3, y4, y5, y6, y7⟩ : wr.cell? ⟨w.heap.size + 1 + 1, 0, none⟩ = some (.bool false) ∧ wr.cell? ⟨w.heap.size + 1 + 1, 1, none⟩ = some (.string ⟨#[]⟩) ∧ wr.cell? ⟨w.heap.size + 1 + 1, 2, none⟩ = some (.int .u64 0) ∧ wr.cell? ⟨w.heap.size + 1 + 1, 3, none⟩ = some (.int .u64 0) ∧
          wr.cell? ⟨w.heap.size + 1 + 1, 4, none⟩ = some (.string ⟨#[]⟩) ∧ wr.cell? ⟨w.heap.size + 1 + 1, 5, none⟩ = some (.string ⟨#[]⟩) ∧ wr.cell? ⟨w.heap.size + 1 + 1, 6, none⟩ = some (.string ⟨#[]⟩) ∧ wr.cell? ⟨w.heap.size + 1 + 1, 7, none⟩ = some (.string ⟨#[]⟩) :=
        ⟨hMr3.cell 0, hMr3.cell 1, hMr3.cell 2, hMr3.cell 3, hMr3.cell 4, hMr3.cell 5, hMr3.cell 6, hMr3.cell 7⟩
      have hz : ∀ i, wr.frozen? ⟨w.heap.size + 1 + 1, i, none⟩ = false := fun i => by simp [World.frozen?, show wr.heap[w.heap.size + 1 + 1]? = _ from hMr3]
      have z0 := hz 0
      have z1 := hz 1
      have z2 := hz 2
      have z3 := hz 3
      have z4 := hz 4
      have z5 := hz 5
      have z6 := hz 6
      have z7 := hz 7
      clear hz hMr3 hMr2 hX2 hrow2 hnum hM2
      go_wp2_with fail
      (try simp only [Exit.inBlock, Exit.then])
      refine bodyPost_ret (v := .agg #[.bool c1, .string c2, .int .u64 c3, .int .u64 c4, .string c5, .string c6, .string c7, .string c8]) ?_ rfl ⟨rfl, ?_⟩
      · rw [results_cell rfl]; go_simp
      · exact (((((((hW3.setCell (by show w.heap.size ≤ w.heap.size + 1 + 1; omega) _).setCell (by show w.heap.size ≤ w.heap.size + 1 + 1; omega) _).setCell (by show w.heap.size ≤ w.heap.size + 1 + 1; omega) _).setCell (by show w.heap.size ≤ w.heap.size + 1 + 1; omega) _).setCell (by show w.heap.size ≤ w.heap.size + 1 + 1; omega) _).setCell (by show w.heap.size ≤ w.heap.size + 1 + 1; omega) _).setCell (by show w.heap.size ≤ w.heap.size + 1 + 1; omega) _).setCell (by show w.heap.size ≤ w.heap.size + 1 + 1; omega) _
end Go.Proofs.Ytkanhggmhjldmaa
