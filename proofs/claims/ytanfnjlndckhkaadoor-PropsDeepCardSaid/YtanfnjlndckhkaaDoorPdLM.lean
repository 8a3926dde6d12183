/- LAW WALK: PropsDeep -/
import Derived.Test.YtanfnjlndckhkaaDoorPdPM
import Derived.Test.YtanfnjlndckhkaaDoorPbLM
namespace Go.Proofs.YtanfnjlndckhkaaDoor
open Go.RowKit Plain

/-- properties within one another, built -/
structure NestIs (v k : Nat) (l : Ps) (A : Option Addr) (W : World) : Prop where
  strip : l.strip = nest v k
  len : l.list.length = 1
  at_ : l.At W W.heap.size A
  ok : l.Ok
theorem NestIs.below {v k : Nat} {l : Ps} {A : Option Addr} {W W' : World} (h : NestIs v k l A W) (hb : Below W.heap.size W W') : NestIs v k l A W' := ⟨h.strip, h.len, (h.at_.below hb (Nat.le_refl _)).more hb.size, h.ok⟩
theorem NestIs.base {v : Nat} (hv : v < 4294967296) (W : World) :
    NestIs v 0 (.cons ⟨#[97]⟩ 0 false ⟨1, v, ⟨#[]⟩⟩ none 0 .nil .nil) (some ⟨W.heap.size, 0, none⟩) (W.alloc (.cells #[.string ⟨#[97]⟩, .int .u32 0, .bool false, .int .i64 1, .int .u64 v, .string ⟨#[]⟩, .slice none 0 0] 75)) :=
  ⟨rfl, rfl, ⟨by have := Rd.cells W #[.string ⟨#[97]⟩, .int .u32 0, .bool false, .int .i64 1, .int .u64 v, .string ⟨#[]⟩, .slice none 0 0] 75; rw [World.size_alloc]; exact this, Rd.nil, trivial, trivial⟩,
    ⟨by omega, ⟨by simp, by simp, by simp; omega⟩, by simp [Ps.list], trivial, trivial⟩⟩
theorem NestIs.step {v k : Nat} {l : Ps} {A : Option Addr} {W : World} (h : NestIs v k l A W) :
    NestIs v (k + 1) (.cons ⟨#[98]⟩ 0 false ⟨8, 0, ⟨#[]⟩⟩ A 1 l .nil) (some ⟨W.heap.size, 0, none⟩) (W.alloc (.cells #[.string ⟨#[98]⟩, .int .u32 0, .bool false, .int .i64 8, .int .u64 0, .string ⟨#[]⟩, .slice A 1 1] 75)) := by
  have hB := (Below.refl W.heap.size W).alloc (Nat.le_refl _) (Obj.cells #[.string ⟨#[98]⟩, .int .u32 0, .bool false, .int .i64 8, .int .u64 0, .string ⟨#[]⟩, .slice A 1 1] 75)
  have h2 := h.below hB
  refine ⟨by rw [Ps.strip, h.strip]; rfl, rfl, ⟨?_, h2.at_.rd, h2.at_.subs, trivial⟩, ⟨by omega, ⟨by simp, by simp, by simp⟩, by rw [h.len]; omega, h.ok, trivial⟩⟩
  have := Rd.cells W #[.string ⟨#[98]⟩, .int .u32 0, .bool false, .int .i64 8, .int .u64 0, .string ⟨#[]⟩, .slice A 1 1] 75
  rw [World.size_alloc]
  show Rd _ _ _ (pcl [⟨⟨#[98]⟩, 0, false, ⟨8, 0, ⟨#[]⟩⟩, A, 1, l⟩])
  simp only [pcl, List.flatMap_cons, List.flatMap_nil, List.append_nil, Pn.cells, h.len]
  exact this
set_option maxRecDepth 100000 in
set_option maxHeartbeats 2000000 in
theorem nested7_any (k v : Nat) (hk : 1 ≤ k) (hk2 : k ≤ 12) (hv : v < 4294967296) (w : World) :
    Calls Tryd.prog 31 #[.int .i64 k, .agg #[.int .i64 1, .int .u64 v, .string ⟨#[]⟩]] w fun e w' => ∃ l A, e = .returned (.slice A 1 1) ∧ NestIs v (k - 1) l A w' ∧ Below w.heap.size w w' := by
  have hE := (Below.refl w.heap.size w).alloc (Nat.le_refl _) (Obj.cells #[.int .i64 1, .int .u64 v, .string ⟨#[]⟩] 42)
  have HV := Lib.hid hv
  go_enter Tryd.func31, Tryd.ntmps31
  go_wp2_with fail
  go_loopw [5, 6] (fun lv i wr => ∃ (j : Nat) (l : Ps) (A : Option Addr), lv = .slice A 1 1 ∧ i = .int .i64 ((j : Int) + 1) ∧ j + 1 ≤ k ∧ NestIs v j l A wr ∧ Below w.heap.size w wr) (fun _ i _ => k - (intOf i).toNat)
  case atStart =>
    have hb := NestIs.base HV.out (w.alloc (Obj.cells #[.int .i64 1, .int .u64 v, .string ⟨#[]⟩] 42))
    rw [World.size_alloc] at hb
    exact ⟨0, _, _, rfl, rfl, by omega, hb, hE.alloc (by simp) _⟩
  case round =>
    obtain ⟨j, l, A, rfl, rfl, hj, hn, hB⟩ := hrel
    have hs := hB.size
    have HNI := Lib.hid hn
    clear hn hE
    by_cases hlt : j + 1 < k
    · have hstep := HNI.out.step
      have hd : decide ((j : Int) + 1 < (k : Int)) = true := decide_eq_true (by omega)
      go_wp2_with fail
      go_roundw
      case rel => exact ⟨j + 1, _, _, rfl, by go_num, by omega, hstep, hB.alloc hs _⟩
      case measure => simp [intOf]; omega
    · have hd : decide ((j : Int) + 1 < (k : Int)) = false := decide_eq_false (by omega)
      obtain rfl : k = j + 1 := by omega
      go_wp2_with fail
      go_ret
      exact ⟨l, A, rfl, HNI.out, hB⟩
/-- one field, two fields, in a block of their own -/
theorem rd_f1 (W : World) (a b : Int) (s : ByteArray) : Rd (W.alloc (.cells #[.int .i64 a, .int .i64 b, .int .u64 0, .string s] 64)) (W.alloc (.cells #[.int .i64 a, .int .i64 b, .int .u64 0, .string s] 64)).heap.size (some ⟨W.heap.size, 0, none⟩) (flc [⟨a, b, 0, s⟩]) := by
  have := Rd.cells W #[.int .i64 a, .int .i64 b, .int .u64 0, .string s] 64
  rw [World.size_alloc]
  exact this
theorem rd_f2 (W : World) (a b a' b' : Int) (s s' : ByteArray) : Rd (W.alloc (.cells #[.int .i64 a, .int .i64 b, .int .u64 0, .string s, .int .i64 a', .int .i64 b', .int .u64 0, .string s'] 64)) (W.alloc (.cells #[.int .i64 a, .int .i64 b, .int .u64 0, .string s, .int .i64 a', .int .i64 b', .int .u64 0, .string s'] 64)).heap.size (some ⟨W.heap.size, 0, none⟩) (flc [⟨a, b, 0, s⟩, ⟨a', b', 0, s'⟩]) := by
  have := Rd.cells W #[.int .i64 a, .int .i64 b, .int .u64 0, .string s, .int .i64 a', .int .i64 b', .int .u64 0, .string s'] 64
  rw [World.size_alloc]
  exact this
/-- bytes that are read: a slice's block, and its bounds -/
structure BRd (W : World) (A : Option Addr) (n c : Nat) (L : List UInt8) : Prop where
  len : L.length = n
  cap : n ≤ c
  max : c ≤ 9223372036854775807
  rd : Rd W W.heap.size A (bcl L)
theorem BRd.below {W W' : World} {A : Option Addr} {n c : Nat} {L : List UInt8} (h : BRd W A n c L) (hb : Below W.heap.size W W') : BRd W' A n c L := ⟨h.len, h.cap, h.max, (h.rd.below hb (Nat.le_refl _)).more hb.size⟩
theorem BRd.of_own {w : World} {base : Nat} {A : Option Addr} {n c : Nat} {L : List UInt8} (h : w.ownsRow base 5 1 (.slice A n c) n (bcl L)) (hn : L.length = n) : BRd w A n c L :=
  ⟨hn, (own_cap h).1, (own_cap h).2, Rd.of_own h⟩
theorem fld_text {n : Int} (h1 : 1 ≤ n) (h2 : n < 1000) (s : ByteArray) : FldOk ⟨n, 2, 0, s⟩ := ⟨by simp only; omega, by simp only; omega, by simp⟩
theorem put_v (c : List UInt8) (hc : c.length ≤ 3000) (W : World) : Calls Tryd.prog 32 #[.slice (some ⟨W.heap.size, 0, none⟩) 1 1] (W.alloc (.cells #[.int .i64 9, .int .i64 2, .int .u64 0, .string ⟨c.toArray⟩] 64)) fun e w' =>
    ∃ A n k, e = .returned (.tuple #[.slice A n k, .int .i64 0]) ∧ BRd w' A n k (wrapv c) ∧ Below W.heap.size W w' := by
  refine (rputs_any [⟨9, 2, 0, ⟨c.toArray⟩⟩] (some ⟨W.heap.size, 0, none⟩) 1 (by simp) (fun f hf => by
    simp at hf
    subst hf
    exact fld_text (by omega) (by omega) _) _ (rd_f1 W 9 2 ⟨c.toArray⟩)).mono ?_
  rintro e w' ⟨A, k, rfl, ho, hB⟩
  have hw : wput [⟨((9 : Nat) : Int), 2, 0, ⟨c.toArray⟩⟩] = (wrapv c, 0) := put_wrapv c hc
  have hw2 : wput [⟨9, 2, 0, ⟨c.toArray⟩⟩] = (wrapv c, 0) := hw
  rw [hw2] at ho ⊢
  exact ⟨A, _, k, rfl, BRd.of_own ho rfl, ((Below.refl _ W).alloc (Nat.le_refl _) _).trans (hB.mono (by simp))⟩
theorem put_c (c : List UInt8) (hc : c.length ≤ 3000) (W : World) : Calls Tryd.prog 32 #[.slice (some ⟨W.heap.size, 0, none⟩) 2 2] (W.alloc (.cells #[.int .i64 1, .int .i64 2, .int .u64 0, .string ⟨#[98]⟩, .int .i64 2, .int .i64 2, .int .u64 0, .string ⟨(wrapv c).toArray⟩] 64)) fun e w' =>
    ∃ A n k, e = .returned (.tuple #[.slice A n k, .int .i64 0]) ∧ BRd w' A n k (wrapc c) ∧ Below W.heap.size W w' := by
  refine (rputs_any [⟨1, 2, 0, ⟨#[98]⟩⟩, ⟨2, 2, 0, ⟨(wrapv c).toArray⟩⟩] (some ⟨W.heap.size, 0, none⟩) 2 (by simp) (fun f hf => by
    simp at hf
    rcases hf with rfl | rfl <;> exact fld_text (by omega) (by omega) _) _ (rd_f2 W 1 2 2 2 ⟨#[98]⟩ ⟨(wrapv c).toArray⟩)).mono ?_
  rintro e w' ⟨A, k, rfl, ho, hB⟩
  have hw : wput [⟨1, 2, 0, ⟨#[98]⟩⟩, ⟨2, 2, 0, ⟨(wrapv c).toArray⟩⟩] = (wrapc c, 0) := put_wrapc c hc
  rw [hw] at ho ⊢
  exact ⟨A, _, k, rfl, BRd.of_own ho rfl, ((Below.refl _ W).alloc (Nat.le_refl _) _).trans (hB.mono (by simp))⟩
theorem nest_list {v k : Nat} {l : Ps} {A : Option Addr} {W : World} (h : NestIs v k l A W) : l.put 1 = (nest v k).put 1 := by rw [← Ps.put_strip, h.strip]
set_option maxRecDepth 100000 in
set_option maxHeartbeats 4000000 in
theorem pdeep_any (d v : Nat) (hd : d < 256) (hv : v < 4294967296) (w : World) (hK : Kinds w) :
    Calls Tryd.prog 11 #[.int .u8 d, .int .u32 v] w fun e w' => e = .returned (.bool true) ∧ Below w.heap.size w w' := by
  obtain ⟨k, hk⟩ : ∃ k, 1 + d % 12 = k := ⟨_, rfl⟩
  have hk1 : 1 ≤ k := by omega
  have hk2 : k ≤ 12 := by omega
  have HK := Lib.hid hK
  have HV := Lib.hid hv
  clear hK hv
  have hwr : IntKind.u64.wrap (v : Int) = (v : Int) := wrap_u64 _ (by have := HV.out; omega)
  have hkk : 1 + (d : Int) % 12 = (k : Int) := by omega
  have HKK := Lib.hid hkk
  obtain ⟨K0, hK0⟩ : ∃ K0, k - 1 = K0 := ⟨_, rfl⟩
  have hn1 := nested7_any k v hk1 hk2 HV.out w
  rw [hK0] at hn1
  clear hk
  go_enter Tryd.func11, Tryd.ntmps11
  go_wp2_with fail
  refine hn1.mono ?_
  rintro e w1 ⟨l, A, rfl, hN, hW1⟩
  have hp := pPut_any l A 1 w1 hN.ok (by rw [hN.len]; omega) hN.at_ (HK.out.below hW1 HK.out.pos)
  rw [hN.len, nest_list hN] at hp
  have HNI := Lib.hid hN
  clear hn1 hN hkk
  by_cases h8 : k ≤ 8
  · rw [nest_put HV.out K0 1 (by omega)] at hp
    unfold BPost at hp
    simp only at hp
    have hdl : decide ((k : Int) ≤ 8) = true := decide_eq_true (by omega)
    obtain ⟨L, hL⟩ : ∃ L, wraps K0 (leafc v) = L := ⟨_, rfl⟩
    rw [hL] at hp
    have HL := Lib.hid hL
    obtain ⟨n, hn⟩ : ∃ n, L.length = n := ⟨_, rfl⟩
    rw [hn] at hp
    have HN := Lib.hid hn
    clear hL hn
    go_wp2_with fail
    refine hp.mono ?_
    rintro e w2 ⟨B, c, rfl, ho, hB2⟩
    have hW2 := bel_step hW1 hB2
    have HNI2 := Lib.hid (HNI.out.below hB2)
    have HBR := Lib.hid (BRd.of_own ho HN.out)
    have hdep := depth_any l A 1 w2 (by rw [← Ps.depth_strip, HNI.out.strip, nest_depth]; omega) HNI2.out.ok (by rw [HNI2.out.len]; omega) HNI2.out.at_
    rw [← Ps.depth_strip l, HNI.out.strip, nest_depth, HNI.out.len, show K0 + 1 = k by omega] at hdep
    clear hp ho hB2 HNI
    go_wp2_with fail
    refine hdep.mono ?_
    rintro e w3 ⟨rfl, hB3⟩
    have hW3 := bel_step hW2 hB3
    have HNI3 := Lib.hid (HNI2.out.below hB3)
    have hbr := HBR.out.below hB3
    have hof := pOf_any L B n c hbr.len hbr.cap hbr.max w3 hbr.rd (HK.out.below hW3 HK.out.pos)
    have hback := Ps.put_back l 8 1 rfl HNI3.out.ok (by rw [nest_list HNI3.out, nest_put HV.out K0 1 (by omega)])
    rw [nest_list HNI3.out, nest_put HV.out K0 1 (by omega), HL.out] at hback
    simp only at hback
    rw [hback] at hof
    unfold POPost at hof
    simp only at hof
    clear hdep hB3 HNI2 HBR hbr hback
    go_wp2_with fail
    refine hof.mono ?_
    rintro e w4 ⟨m, A2, c2, rfl, hat4, hok4, hlen4, hst4, hB4⟩
    have hW4 := bel_step hW3 hB4
    have HNI4 := Lib.hid (HNI3.out.below hB4)
    have hsm := psame_any l m A A2 1 c2 w4 (by rw [HNI4.out.len]; omega) (by omega) HNI4.out.ok hok4 HNI4.out.at_ hat4.at_
    rw [Ps.same_of_strip hst4.symm, HNI4.out.len] at hsm
    clear hof hB4 HNI3 hat4 hok4 hlen4 hst4
    generalize m.list.length = mn at *
    go_wp2_with fail
    refine hsm.mono ?_
    rintro e w5 ⟨rfl, hB5⟩
    have hW5 := bel_step hW4 hB5
    clear hsm hB5 HNI4
    go_wp2_with fail
    refine (awake7_any w5 (HK.out.below hW5 HK.out.pos)).mono ?_
    rintro e w6 ⟨rfl, hB6⟩
    go_wp2_with fail
    go_ret
    exact ⟨rfl, bel_step hW5 hB6⟩
  · rw [nest_too v K0 1 (by omega)] at hp
    unfold BPost at hp
    simp only [List.length_nil] at hp
    have hdl : decide ((k : Int) ≤ 8) = false := decide_eq_false (by omega)
    go_wp2_with fail
    refine hp.mono ?_
    rintro e w2 ⟨B, c, rfl, ho, hB2⟩
    have hW2 := bel_step hW1 hB2
    have HNI2 := Lib.hid (HNI.out.below hB2)
    have hdep := depth_any l A 1 w2 (by rw [← Ps.depth_strip, HNI.out.strip, nest_depth]; omega) HNI2.out.ok (by rw [HNI2.out.len]; omega) HNI2.out.at_
    rw [← Ps.depth_strip l, HNI.out.strip, nest_depth, HNI.out.len, show K0 + 1 = k by omega] at hdep
    clear hp ho hB2 HNI
    go_wp2_with fail
    refine hdep.mono ?_
    rintro e w3 ⟨rfl, hB3⟩
    have hW3 := bel_step hW2 hB3
    have hn2 := nested7_any 8 v (by omega) (by omega) HV.out w3
    rw [show ((8 : Nat) : Int) = 8 from rfl] at hn2
    clear hdep hB3 HNI2
    go_wp2_with fail
    with_reducible refine hn2.mono ?_
    rintro e w4 ⟨l2, A2, rfl, hN2, hB4⟩
    have hW4 := bel_step hW3 hB4
    have hp2 := rpPut_any l2 A2 1 w4 hN2.ok (by rw [hN2.len]; omega) hN2.at_
    rw [hN2.len, nest_list hN2, nest_put HV.out 7 1 (by omega)] at hp2
    unfold BPost at hp2
    simp only at hp2
    obtain ⟨n7, hn7⟩ : ∃ n, (wraps 7 (leafc v)).length = n := ⟨_, rfl⟩
    rw [hn7] at hp2
    have HN7 := Lib.hid hn7
    clear hn2 hB4 hN2 hn7
    go_wp2_with fail
    refine hp2.mono ?_
    rintro e w5 ⟨C, cc, rfl, ho5, hB5⟩
    have hW5 := bel_step hW4 hB5
    have HB5 := Lib.hid (BRd.of_own ho5 HN7.out)
    clear hp2 ho5 hB5
    go_wp2_with fail
    go_loopw [11, 13] (fun cv i wr => ∃ (j n c' : Nat) (C : Option Addr), cv = .slice C n c' ∧ i = .int .i64 (j : Int) ∧ 8 ≤ j ∧ j ≤ k ∧ BRd wr C n c' (wraps (j - 1) (leafc v)) ∧ Below w.heap.size w wr) (fun _ i _ => k - (intOf i).toNat)
    case atStart => exact ⟨8, _, _, _, rfl, rfl, Nat.le_refl _, by omega, HB5.out, hW5⟩
    case round =>
      obtain ⟨j, n, c', C, rfl, rfl, hj8, hj, hbr, hB⟩ := hrel
      have hlen := wraps_len (leafc v) (j - 1)
      have hlf := leafc_len v
      obtain ⟨L, hL⟩ : ∃ L, wraps (j - 1) (leafc v) = L := ⟨_, rfl⟩
      rw [hL] at hbr hlen
      have HL := Lib.hid hL
      have HBR := Lib.hid hbr
      clear hL hbr HB5 HN7
      by_cases hlt : j < k
      · have hstr := strB HBR.out.rd HBR.out.len c'
        have hpv := put_v L (by omega) wr
        have HLEN := Lib.hid hlen
        clear hlen hlf
        go_wp2_with fail
        with_reducible refine hpv.mono ?_
        rintro e w6 ⟨A6, n6, c6, rfl, hb6, hB6⟩
        have hWr6 := bel_step hB hB6
        have hstr6 := strB hb6.rd hb6.len c6
        have hpc := put_c L (by have := HLEN.out; have := leafc_len v; omega) w6
        clear hpv hstr hb6 hB6
        go_wp2_with fail
        with_reducible refine hpc.mono ?_
        rintro e w7 ⟨A7, n7, c7, rfl, hb7, hB7⟩
        have hWr7 := bel_step hWr6 hB7
        clear hpc hB7 hstr6
        go_wp2_with fail
        go_roundw
        case rel => exact ⟨j + 1, n7, c7, A7, rfl, by go_num, by omega, by omega, by rw [show j + 1 - 1 = (j - 1) + 1 by omega, wraps, HL.out]; exact hb7, hWr7⟩
        case measure => simp [intOf]; omega
      · obtain rfl : j = k := by omega
        have hdp := wraps_deep (leafc v) 8 (j - 1) (by omega) (by omega)
        rw [HL.out] at hdp
        have hof := pOf_any L C n c' HBR.out.len HBR.out.cap HBR.out.max wr HBR.out.rd (HK.out.below hB HK.out.pos)
        rw [hdp] at hof
        unfold POPost at hof
        simp only at hof
        clear hlen hlf hdp
        go_wp2_with fail
        refine hof.mono ?_
        rintro e w8 ⟨m, A8, c8, rfl, hat8, hok8, hlen8, hst8, hB8⟩
        have hW8 := bel_step hB hB8
        have hm0 : m.list.length = 0 := by rw [← Ps.strip_len, hst8]; rfl
        rw [hm0]
        clear hof hB8 hat8 hok8 hlen8 hst8 hm0
        go_wp2_with fail
        refine (awake7_any w8 (HK.out.below hW8 HK.out.pos)).mono ?_
        rintro e w9 ⟨rfl, hB9⟩
        go_wp2_with fail
        go_ret
        exact ⟨rfl, bel_step hW8 hB9⟩
end Go.Proofs.YtanfnjlndckhkaaDoor
