/- WALKS: payload.Bd, crierref10.Bd; the law PayloadTold (printed by genplg.py) -/
import Derived.Test.YtaahhommfpohhaaPlG
import Derived.Test.YtaahhommfpohhaaPlA
namespace Go.Proofs.Ytaahhommfpohhaa
open Go.RowKit

/-- the number of a life, of the metric that tells it -/
def pbdm (x : Nd) : Nat × Bool := if x.h.null = true then (0, false) else if x.h.v.k = 1 ∨ x.h.v.k = 2 then psmall x.h.v.n else (0, false)
def pbd (p : Pl) : Nat × Bool := pbdm (pgot (pfind ⟨#[98, 100, 83, 101, 113]⟩ p.mets.list))
set_option maxRecDepth 100000 in
set_option maxHeartbeats 2000000 in
theorem plbd_any (p : Pl) (hp : p.Ok) (w : World) (hat : p.At w w.heap.size) :
    Calls Try.prog 22 #[p.agg] w fun e w' => e = .returned (.tuple #[.int .i64 (pbd p).1, .bool (pbd p).2]) ∧ Below w.heap.size w w' := by
  have hcc := fun W (hB : Below w.heap.size w W) => plfind_any p hp ⟨#[98, 100, 83, 101, 113]⟩ W (Pl.at2 hat hB)
  have hnb : ∀ x, pfind ⟨#[98, 100, 83, 101, 113]⟩ p.mets.list = some x → x.h.v.n < 18446744073709551616 := fun x hx => (Tr.ok_mok hp.ok (pfind_mem hx)).h.v.2.2
  unfold pbd
  generalize pfind ⟨#[98, 100, 83, 101, 113]⟩ p.mets.list = q at *
  clear hat hp
  obtain ⟨xtime, xhas, xseq, xuuid, xbody, xadr, xcap, xmets⟩ := p
  unfold Pl.agg at hcc ⊢
  simp only at hcc ⊢
  generalize xmets.list.length = xml at *
  have hE0 : Below w.heap.size w (w.alloc (Obj.cells #[.int .u64 xtime, .bool xhas, .int .u64 xseq, .string xuuid, .string xbody, .slice xadr xml xcap] 43)) := (Below.refl _ w).alloc (Nat.le_refl _) _
  have hc := hcc _ hE0
  clear hcc
  cases q with
  | none =>
    have hmg : (pgot none).magg = .agg #[.string ⟨#[]⟩, .bool false, .int .u64 0, .int .u64 0, .int .u32 0, .bool false, .bool false, .bool false, .slice none 0 0, .slice none 0 0, .int .i64 0, .int .u64 0, .string ⟨#[]⟩, .slice none 0 0, .slice none 0 0] := rfl
    rw [hmg] at hc
    simp only [Option.isSome] at hc
    clear hmg hnb
    rw [show pbdm (pgot none) = (0, false) from rfl]
    go_enter Try.func22, Try.ntmps22
    go_wp2_with fail
    refine hc.mono ?_
    rintro e w1 ⟨rfl, hB1⟩
    have hW1 := bel_step hE0 hB1
    clear hc
    go_wp2_with fail
    go_ret2
    exact ⟨rfl, hW1.alloc hW1.size _⟩
  | some x =>
    have hn := hnb x rfl
    have hmg : (pgot (some x)).magg = .agg #[.string x.h.name, .bool x.h.has, .int .u64 x.h.al, .int .u64 x.h.time, .int .u32 x.h.type, .bool x.h.hist, .bool x.h.trans, .bool x.h.null, .slice x.h.ma x.h.metas.length x.h.mc, .slice x.h.pa x.h.props.list.length x.h.pc, .int .i64 x.h.v.k, .int .u64 x.h.v.n, .string x.h.v.s, .slice x.h.sa x.h.sets.length x.h.sc, .slice x.adr x.sub.list.length x.cap] := rfl
    rw [hmg] at hc
    simp only [Option.isSome] at hc
    rw [show pgot (some x) = x from rfl]
    unfold pbdm
    clear hmg hnb
    generalize x.h.name = xV0 at *
    generalize x.h.has = xV1 at *
    generalize x.h.al = xV2 at *
    generalize x.h.time = xV3 at *
    generalize x.h.type = xV4 at *
    generalize x.h.hist = xV5 at *
    generalize x.h.trans = xV6 at *
    generalize x.h.null = xV7 at *
    generalize x.h.metas.length = xL8 at *
    generalize x.h.ma = xA8 at *
    generalize x.h.mc = xV8 at *
    generalize x.h.props.list.length = xL9 at *
    generalize x.h.pa = xA9 at *
    generalize x.h.pc = xV9 at *
    generalize x.h.v.k = xV10 at *
    generalize x.h.v.n = xV11 at *
    generalize x.h.v.s = xV12 at *
    generalize x.h.sets.length = xL13 at *
    generalize x.h.sa = xA13 at *
    generalize x.h.sc = xV13 at *
    generalize x.sub.list.length = xL14 at *
    generalize x.adr = xA14 at *
    generalize x.cap = xV14 at *
    cases xV7
    case true =>
      rw [if_pos rfl]
      go_enter Try.func22, Try.ntmps22
      go_wp2_with fail
      refine hc.mono ?_
      rintro e w1 ⟨rfl, hB1⟩
      have hW1 := bel_step hE0 hB1
      clear hc hE0 hB1
      go_wp2_with fail
      go_ret2
      exact ⟨rfl, hW1.alloc hW1.size _⟩
    rw [if_neg (by decide)]
    by_cases h1 : xV10 = 1
    · subst h1
      rw [if_pos (.inl rfl)]
      go_enter Try.func22, Try.ntmps22
      go_wp2_with fail
      refine hc.mono ?_
      rintro e w1 ⟨rfl, hB1⟩
      have hW1 := bel_step hE0 hB1
      clear hc hE0 hB1
      go_wp2_with fail
      refine (small_any xV11 hn _).mono ?_
      rintro e w3 ⟨rfl, hB3⟩
      have hW3 := bel_step (hW1.alloc hW1.size _) hB3
      go_wp2_with fail
      go_ret2
      exact ⟨rfl, hW3⟩
    by_cases h2 : xV10 = 2
    · subst h2
      rw [if_pos (.inr rfl)]
      go_enter Try.func22, Try.ntmps22
      go_wp2_with fail
      refine hc.mono ?_
      rintro e w1 ⟨rfl, hB1⟩
      have hW1 := bel_step hE0 hB1
      clear hc hE0 hB1
      go_wp2_with fail
      refine (small_any xV11 hn _).mono ?_
      rintro e w3 ⟨rfl, hB3⟩
      have hW3 := bel_step (hW1.alloc hW1.size _) hB3
      go_wp2_with fail
      go_ret2
      exact ⟨rfl, hW3⟩
    have hb1 : (xV10 == 1) = false := by simpa using h1
    have hb2 : (xV10 == 2) = false := by simpa using h2
    rw [if_neg (by omega)]
    clear h1 h2
    go_enter Try.func22, Try.ntmps22
    go_wp2_with fail
    refine hc.mono ?_
    rintro e w1 ⟨rfl, hB1⟩
    have hW1 := bel_step hE0 hB1
    clear hc hE0 hB1
    go_wp2_with fail
    go_ret2
    exact ⟨rfl, hW1.alloc hW1.size _⟩
set_option maxRecDepth 100000 in
set_option maxHeartbeats 2000000 in
theorem rplbd_any (p : Pl) (hp : p.Ok) (w : World) (hat : p.At w w.heap.size) :
    Calls Try.prog 23 #[p.agg] w fun e w' => e = .returned (.tuple #[.int .i64 (pbd p).1, .bool (pbd p).2]) ∧ Below w.heap.size w w' := by
  have hcc := fun W (hB : Below w.heap.size w W) => rplfind_any p hp ⟨#[98, 100, 83, 101, 113]⟩ W (Pl.at2 hat hB)
  have hnb : ∀ x, pfind ⟨#[98, 100, 83, 101, 113]⟩ p.mets.list = some x → x.h.v.n < 18446744073709551616 := fun x hx => (Tr.ok_mok hp.ok (pfind_mem hx)).h.v.2.2
  unfold pbd
  generalize pfind ⟨#[98, 100, 83, 101, 113]⟩ p.mets.list = q at *
  clear hat hp
  obtain ⟨xtime, xhas, xseq, xuuid, xbody, xadr, xcap, xmets⟩ := p
  unfold Pl.agg at hcc ⊢
  simp only at hcc ⊢
  generalize xmets.list.length = xml at *
  have hE0 : Below w.heap.size w (w.alloc (Obj.cells #[.int .u64 xtime, .bool xhas, .int .u64 xseq, .string xuuid, .string xbody, .slice xadr xml xcap] 43)) := (Below.refl _ w).alloc (Nat.le_refl _) _
  have hc := hcc _ hE0
  clear hcc
  cases q with
  | none =>
    have hmg : (pgot none).magg = .agg #[.string ⟨#[]⟩, .bool false, .int .u64 0, .int .u64 0, .int .u32 0, .bool false, .bool false, .bool false, .slice none 0 0, .slice none 0 0, .int .i64 0, .int .u64 0, .string ⟨#[]⟩, .slice none 0 0, .slice none 0 0] := rfl
    rw [hmg] at hc
    simp only [Option.isSome] at hc
    clear hmg hnb
    rw [show pbdm (pgot none) = (0, false) from rfl]
    go_enter Try.func23, Try.ntmps23
    go_wp2_with fail
    refine hc.mono ?_
    rintro e w1 ⟨rfl, hB1⟩
    have hW1 := bel_step hE0 hB1
    clear hc
    go_wp2_with fail
    go_ret2
    exact ⟨rfl, hW1.alloc hW1.size _⟩
  | some x =>
    have hn := hnb x rfl
    have hmg : (pgot (some x)).magg = .agg #[.string x.h.name, .bool x.h.has, .int .u64 x.h.al, .int .u64 x.h.time, .int .u32 x.h.type, .bool x.h.hist, .bool x.h.trans, .bool x.h.null, .slice x.h.ma x.h.metas.length x.h.mc, .slice x.h.pa x.h.props.list.length x.h.pc, .int .i64 x.h.v.k, .int .u64 x.h.v.n, .string x.h.v.s, .slice x.h.sa x.h.sets.length x.h.sc, .slice x.adr x.sub.list.length x.cap] := rfl
    rw [hmg] at hc
    simp only [Option.isSome] at hc
    rw [show pgot (some x) = x from rfl]
    unfold pbdm
    clear hmg hnb
    generalize x.h.name = xV0 at *
    generalize x.h.has = xV1 at *
    generalize x.h.al = xV2 at *
    generalize x.h.time = xV3 at *
    generalize x.h.type = xV4 at *
    generalize x.h.hist = xV5 at *
    generalize x.h.trans = xV6 at *
    generalize x.h.null = xV7 at *
    generalize x.h.metas.length = xL8 at *
    generalize x.h.ma = xA8 at *
    generalize x.h.mc = xV8 at *
    generalize x.h.props.list.length = xL9 at *
    generalize x.h.pa = xA9 at *
    generalize x.h.pc = xV9 at *
    generalize x.h.v.k = xV10 at *
    generalize x.h.v.n = xV11 at *
    generalize x.h.v.s = xV12 at *
    generalize x.h.sets.length = xL13 at *
    generalize x.h.sa = xA13 at *
    generalize x.h.sc = xV13 at *
    generalize x.sub.list.length = xL14 at *
    generalize x.adr = xA14 at *
    generalize x.cap = xV14 at *
    unfold psmall
    cases xV7
    case true =>
      rw [if_pos rfl]
      go_enter Try.func23, Try.ntmps23
      go_wp2_with fail
      refine hc.mono ?_
      rintro e w1 ⟨rfl, hB1⟩
      have hW1 := bel_step hE0 hB1
      clear hc hE0 hB1
      go_wp2_with fail
      go_ret2
      exact ⟨rfl, hW1.alloc hW1.size _⟩
    rw [if_neg (by decide)]
    by_cases h1 : xV10 = 1
    · subst h1
      rw [if_pos (.inl rfl)]
      by_cases hg : 256 ≤ xV11
      · have hgb : decide ((255 : Int) < (xV11 : Int)) = true := decide_eq_true (by omega)
        rw [if_pos hg]
        clear hg
        go_enter Try.func23, Try.ntmps23
        go_wp2_with fail
        refine hc.mono ?_
        rintro e w1 ⟨rfl, hB1⟩
        have hW1 := bel_step hE0 hB1
        clear hc hE0 hB1
        go_wp2_with fail
        go_ret2
        exact ⟨rfl, hW1.alloc hW1.size _⟩
      · have hgb : decide ((255 : Int) < (xV11 : Int)) = false := decide_eq_false (by omega)
        have hw : IntKind.i64.wrap (xV11 : Int) = (xV11 : Int) := wrap_small xV11 (by omega)
        rw [if_neg hg]
        clear hg hn
        go_enter Try.func23, Try.ntmps23
        go_wp2_with fail
        refine hc.mono ?_
        rintro e w1 ⟨rfl, hB1⟩
        have hW1 := bel_step hE0 hB1
        clear hc hE0 hB1
        go_wp2_with fail
        go_ret2
        exact ⟨rfl, hW1.alloc hW1.size _⟩
    by_cases h2 : xV10 = 2
    · subst h2
      rw [if_pos (.inr rfl)]
      by_cases hg : 256 ≤ xV11
      · have hgb : decide ((255 : Int) < (xV11 : Int)) = true := decide_eq_true (by omega)
        rw [if_pos hg]
        clear hg
        go_enter Try.func23, Try.ntmps23
        go_wp2_with fail
        refine hc.mono ?_
        rintro e w1 ⟨rfl, hB1⟩
        have hW1 := bel_step hE0 hB1
        clear hc hE0 hB1
        go_wp2_with fail
        go_ret2
        exact ⟨rfl, hW1.alloc hW1.size _⟩
      · have hgb : decide ((255 : Int) < (xV11 : Int)) = false := decide_eq_false (by omega)
        have hw : IntKind.i64.wrap (xV11 : Int) = (xV11 : Int) := wrap_small xV11 (by omega)
        rw [if_neg hg]
        clear hg hn
        go_enter Try.func23, Try.ntmps23
        go_wp2_with fail
        refine hc.mono ?_
        rintro e w1 ⟨rfl, hB1⟩
        have hW1 := bel_step hE0 hB1
        clear hc hE0 hB1
        go_wp2_with fail
        go_ret2
        exact ⟨rfl, hW1.alloc hW1.size _⟩
    have hb1 : (xV10 != 1) = true := by simpa using h1
    have hb2 : (xV10 != 2) = true := by simpa using h2
    rw [if_neg (by omega)]
    clear h1 h2
    go_enter Try.func23, Try.ntmps23
    go_wp2_with fail
    refine hc.mono ?_
    rintro e w1 ⟨rfl, hB1⟩
    have hW1 := bel_step hE0 hB1
    clear hc hE0 hB1
    go_wp2_with fail
    go_ret2
    exact ⟨rfl, hW1.alloc hW1.size _⟩
theorem zero_mat (W : World) (B : Nat) : Nd.zero.MAt W B := ⟨⟨Rd.nil, ⟨Rd.nil, trivial⟩, Rd.nil, (fun d hd => by cases hd)⟩, ⟨Rd.nil, trivial⟩⟩
theorem zero_mok : Nd.zero.MOk := ⟨⟨by simp [Nd.zero, MH.zero], by simp [Nd.zero, MH.zero], by simp [Nd.zero, MH.zero], by simp [Nd.zero, MH.zero], (fun x hx => by cases hx), by simp [Nd.zero, MH.zero, Ps.list], trivial, ⟨by simp [Nd.zero, MH.zero, VV.zero], by simp [Nd.zero, MH.zero, VV.zero], by simp [Nd.zero, MH.zero, VV.zero]⟩, by simp [Nd.zero, MH.zero], (fun x hx => by cases hx)⟩, by simp [Nd.zero, Tr.list], trivial⟩
theorem got_mat {p : Pl} {w : World} {B : Nat} (hat : p.At w B) (name : ByteArray) : (pgot (pfind name p.mets.list)).MAt w B := by
  cases h : pfind name p.mets.list with
  | none => exact zero_mat w B
  | some x => exact Tr.At.mat hat (pfind_mem h)
theorem got_mok {p : Pl} (hp : p.Ok) (name : ByteArray) : (pgot (pfind name p.mets.list)).MOk := by
  cases h : pfind name p.mets.list with
  | none => exact zero_mok
  | some x => exact Tr.ok_mok hp.ok (pfind_mem h)
set_option maxRecDepth 100000 in
set_option maxHeartbeats 4000000 in
theorem ptold_any (p : Pl) (name : ByteArray) (hp : p.Ok) (w : World) (hat : p.At w w.heap.size) :
    Calls Try.prog 6 #[p.agg, .string name] w fun e w' => e = .returned (.bool true) ∧ Below w.heap.size w w' := by
  have e1 := fun W => plseq_any p hp W
  have e2 := fun W => rplseq_any p W
  have e3 := fun W (hB : Below w.heap.size w W) => plbd_any p hp W (Pl.at2 hat hB)
  have e4 := fun W (hB : Below w.heap.size w W) => rplbd_any p hp W (Pl.at2 hat hB)
  have e5 := fun W (hB : Below w.heap.size w W) => plfind_any p hp name W (Pl.at2 hat hB)
  have e6 := fun W (hB : Below w.heap.size w W) => rplfind_any p hp name W (Pl.at2 hat hB)
  have e7 := fun W (hB : Below w.heap.size w W) => rsameM_any (pgot (pfind name p.mets.list)) (pgot (pfind name p.mets.list)) W (got_mat (Pl.at2 hat hB) name) (got_mat (Pl.at2 hat hB) name) (got_mok hp name) (got_mok hp name)
  rw [nsame_refl] at e7
  generalize pseq p = s at *
  generalize pbd p = b at *
  generalize (pfind name p.mets.list).isSome = r at *
  generalize pgot (pfind name p.mets.list) = x at *
  obtain ⟨s1, s2⟩ := s
  obtain ⟨t1, t2⟩ := b
  clear hp hat
  obtain ⟨xtime, xhas, xseq, xuuid, xbody, xadr, xcap, xmets⟩ := p
  unfold Pl.agg at e1 e2 e3 e4 e5 e6 ⊢
  simp only at e1 e2 e3 e4 e5 e6 ⊢
  generalize xmets.list.length = xml at *
  have hmg : x.magg = .agg #[.string x.h.name, .bool x.h.has, .int .u64 x.h.al, .int .u64 x.h.time, .int .u32 x.h.type, .bool x.h.hist, .bool x.h.trans, .bool x.h.null, .slice x.h.ma x.h.metas.length x.h.mc, .slice x.h.pa x.h.props.list.length x.h.pc, .int .i64 x.h.v.k, .int .u64 x.h.v.n, .string x.h.v.s, .slice x.h.sa x.h.sets.length x.h.sc, .slice x.adr x.sub.list.length x.cap] := rfl
  rw [hmg] at e5 e6 e7
  clear hmg
  generalize x.h.name = xV0 at *
  generalize x.h.has = xV1 at *
  generalize x.h.al = xV2 at *
  generalize x.h.time = xV3 at *
  generalize x.h.type = xV4 at *
  generalize x.h.hist = xV5 at *
  generalize x.h.trans = xV6 at *
  generalize x.h.null = xV7 at *
  generalize x.h.metas.length = xL8 at *
  generalize x.h.ma = xA8 at *
  generalize x.h.mc = xV8 at *
  generalize x.h.props.list.length = xL9 at *
  generalize x.h.pa = xA9 at *
  generalize x.h.pc = xV9 at *
  generalize x.h.v.k = xV10 at *
  generalize x.h.v.n = xV11 at *
  generalize x.h.v.s = xV12 at *
  generalize x.h.sets.length = xL13 at *
  generalize x.h.sa = xA13 at *
  generalize x.h.sc = xV13 at *
  generalize x.sub.list.length = xL14 at *
  generalize x.adr = xA14 at *
  generalize x.cap = xV14 at *
  have hE0 : Below w.heap.size w (w.alloc (Obj.cells #[.int .u64 xtime, .bool xhas, .int .u64 xseq, .string xuuid, .string xbody, .slice xadr xml xcap] 43)) := (Below.refl _ w).alloc (Nat.le_refl _) _
  have hD : BoxC (w.alloc (Obj.cells #[.int .u64 xtime, .bool xhas, .int .u64 xseq, .string xuuid, .string xbody, .slice xadr xml xcap] 43)) w.heap.size #[.int .u64 xtime, .bool xhas, .int .u64 xseq, .string xuuid, .string xbody, .slice xadr xml xcap] 43 := World.alloc_heap_new w _
  go_enter Try.func6, Try.ntmps6
  go_wp2_with fail
  refine (e1 _).mono ?_
  rintro e w1 ⟨rfl, hB1⟩
  have hW1 := bel_step hE0 hB1
  have hD1 := hD.below hB1
  have x1_0 : w1.cell? ⟨w.heap.size, 0, none⟩ = some (.int .u64 xtime) := hD1.cell 0
  have x1_1 : w1.cell? ⟨w.heap.size, 1, none⟩ = some (.bool xhas) := hD1.cell 1
  have x1_2 : w1.cell? ⟨w.heap.size, 2, none⟩ = some (.int .u64 xseq) := hD1.cell 2
  have x1_3 : w1.cell? ⟨w.heap.size, 3, none⟩ = some (.string xuuid) := hD1.cell 3
  have x1_4 : w1.cell? ⟨w.heap.size, 4, none⟩ = some (.string xbody) := hD1.cell 4
  have x1_5 : w1.cell? ⟨w.heap.size, 5, none⟩ = some (.slice xadr xml xcap) := hD1.cell 5
  clear hB1 hD hE0
  go_wp2_with fail
  refine (e2 _).mono ?_
  rintro e w2 ⟨rfl, hB2⟩
  clear x1_0 x1_1 x1_2 x1_3 x1_4 x1_5
  have hW2 := bel_step hW1 hB2
  have hD2 := hD1.below hB2
  have x2_0 : w2.cell? ⟨w.heap.size, 0, none⟩ = some (.int .u64 xtime) := hD2.cell 0
  have x2_1 : w2.cell? ⟨w.heap.size, 1, none⟩ = some (.bool xhas) := hD2.cell 1
  have x2_2 : w2.cell? ⟨w.heap.size, 2, none⟩ = some (.int .u64 xseq) := hD2.cell 2
  have x2_3 : w2.cell? ⟨w.heap.size, 3, none⟩ = some (.string xuuid) := hD2.cell 3
  have x2_4 : w2.cell? ⟨w.heap.size, 4, none⟩ = some (.string xbody) := hD2.cell 4
  have x2_5 : w2.cell? ⟨w.heap.size, 5, none⟩ = some (.slice xadr xml xcap) := hD2.cell 5
  clear hB2 hD1 hW1
  go_wp2_with fail
  refine (e3 _ hW2).mono ?_
  rintro e w3 ⟨rfl, hB3⟩
  clear x2_0 x2_1 x2_2 x2_3 x2_4 x2_5
  have hW3 := bel_step hW2 hB3
  have hD3 := hD2.below hB3
  have x3_0 : w3.cell? ⟨w.heap.size, 0, none⟩ = some (.int .u64 xtime) := hD3.cell 0
  have x3_1 : w3.cell? ⟨w.heap.size, 1, none⟩ = some (.bool xhas) := hD3.cell 1
  have x3_2 : w3.cell? ⟨w.heap.size, 2, none⟩ = some (.int .u64 xseq) := hD3.cell 2
  have x3_3 : w3.cell? ⟨w.heap.size, 3, none⟩ = some (.string xuuid) := hD3.cell 3
  have x3_4 : w3.cell? ⟨w.heap.size, 4, none⟩ = some (.string xbody) := hD3.cell 4
  have x3_5 : w3.cell? ⟨w.heap.size, 5, none⟩ = some (.slice xadr xml xcap) := hD3.cell 5
  clear hB3 hD2 hW2
  go_wp2_with fail
  refine (e4 _ hW3).mono ?_
  rintro e w4 ⟨rfl, hB4⟩
  clear x3_0 x3_1 x3_2 x3_3 x3_4 x3_5
  have hW4 := bel_step hW3 hB4
  have hD4 := hD3.below hB4
  have x4_0 : w4.cell? ⟨w.heap.size, 0, none⟩ = some (.int .u64 xtime) := hD4.cell 0
  have x4_1 : w4.cell? ⟨w.heap.size, 1, none⟩ = some (.bool xhas) := hD4.cell 1
  have x4_2 : w4.cell? ⟨w.heap.size, 2, none⟩ = some (.int .u64 xseq) := hD4.cell 2
  have x4_3 : w4.cell? ⟨w.heap.size, 3, none⟩ = some (.string xuuid) := hD4.cell 3
  have x4_4 : w4.cell? ⟨w.heap.size, 4, none⟩ = some (.string xbody) := hD4.cell 4
  have x4_5 : w4.cell? ⟨w.heap.size, 5, none⟩ = some (.slice xadr xml xcap) := hD4.cell 5
  clear hB4 hD3 hW3
  go_wp2_with fail
  refine (e5 _ hW4).mono ?_
  rintro e w5 ⟨rfl, hB5⟩
  clear x4_0 x4_1 x4_2 x4_3 x4_4 x4_5
  have hW5 := bel_step hW4 hB5
  have hD5 := hD4.below hB5
  have hA5 := (Below.refl w5.heap.size w5).alloc (Nat.le_refl _) (Obj.cells #[.string xV0, .bool xV1, .int .u64 xV2, .int .u64 xV3, .int .u32 xV4, .bool xV5, .bool xV6, .bool xV7, .slice xA8 xL8 xV8, .slice xA9 xL9 xV9, .int .i64 xV10, .int .u64 xV11, .string xV12, .slice xA13 xL13 xV13, .slice xA14 xL14 xV14] 31)
  have hM5 : BoxC (w5.alloc (Obj.cells #[.string xV0, .bool xV1, .int .u64 xV2, .int .u64 xV3, .int .u32 xV4, .bool xV5, .bool xV6, .bool xV7, .slice xA8 xL8 xV8, .slice xA9 xL9 xV9, .int .i64 xV10, .int .u64 xV11, .string xV12, .slice xA13 xL13 xV13, .slice xA14 xL14 xV14] 31)) w5.heap.size #[.string xV0, .bool xV1, .int .u64 xV2, .int .u64 xV3, .int .u32 xV4, .bool xV5, .bool xV6, .bool xV7, .slice xA8 xL8 xV8, .slice xA9 xL9 xV9, .int .i64 xV10, .int .u64 xV11, .string xV12, .slice xA13 xL13 xV13, .slice xA14 xL14 xV14] 31 := World.alloc_heap_new w5 _
  have hlt5 := hD5.lt
  have hW5a := bel_step hW5 hA5
  have x5_0 : w5.cell? ⟨w.heap.size, 0, none⟩ = some (.int .u64 xtime) := hD5.cell 0
  have x5_1 : w5.cell? ⟨w.heap.size, 1, none⟩ = some (.bool xhas) := hD5.cell 1
  have x5_2 : w5.cell? ⟨w.heap.size, 2, none⟩ = some (.int .u64 xseq) := hD5.cell 2
  have x5_3 : w5.cell? ⟨w.heap.size, 3, none⟩ = some (.string xuuid) := hD5.cell 3
  have x5_4 : w5.cell? ⟨w.heap.size, 4, none⟩ = some (.string xbody) := hD5.cell 4
  have x5_5 : w5.cell? ⟨w.heap.size, 5, none⟩ = some (.slice xadr xml xcap) := hD5.cell 5
  clear hB5 hD4 hW4
  go_wp2_with fail
  refine (e6 _ hW5a).mono ?_
  rintro e w6 ⟨rfl, hB6⟩
  have hW6 := bel_step hW5a hB6
  have hM6 := hM5.below hB6
  have hA6 := (Below.refl w6.heap.size w6).alloc (Nat.le_refl _) (Obj.cells #[.string xV0, .bool xV1, .int .u64 xV2, .int .u64 xV3, .int .u32 xV4, .bool xV5, .bool xV6, .bool xV7, .slice xA8 xL8 xV8, .slice xA9 xL9 xV9, .int .i64 xV10, .int .u64 xV11, .string xV12, .slice xA13 xL13 xV13, .slice xA14 xL14 xV14] 31)
  have hW6a := bel_step hW6 hA6
  have hlt6 := hM6.lt
  clear x5_0 x5_1 x5_2 x5_3 x5_4 x5_5 hB6 hM5
  have mx0 : w6.cell? ⟨w5.heap.size, 0, none⟩ = some (.string xV0) := hM6.cell 0
  have mx1 : w6.cell? ⟨w5.heap.size, 1, none⟩ = some (.bool xV1) := hM6.cell 1
  have mx2 : w6.cell? ⟨w5.heap.size, 2, none⟩ = some (.int .u64 xV2) := hM6.cell 2
  have mx3 : w6.cell? ⟨w5.heap.size, 3, none⟩ = some (.int .u64 xV3) := hM6.cell 3
  have mx4 : w6.cell? ⟨w5.heap.size, 4, none⟩ = some (.int .u32 xV4) := hM6.cell 4
  have mx5 : w6.cell? ⟨w5.heap.size, 5, none⟩ = some (.bool xV5) := hM6.cell 5
  have mx6 : w6.cell? ⟨w5.heap.size, 6, none⟩ = some (.bool xV6) := hM6.cell 6
  have mx7 : w6.cell? ⟨w5.heap.size, 7, none⟩ = some (.bool xV7) := hM6.cell 7
  have mx8 : w6.cell? ⟨w5.heap.size, 8, none⟩ = some (.slice xA8 xL8 xV8) := hM6.cell 8
  have mx9 : w6.cell? ⟨w5.heap.size, 9, none⟩ = some (.slice xA9 xL9 xV9) := hM6.cell 9
  have mx10 : w6.cell? ⟨w5.heap.size, 10, none⟩ = some (.int .i64 xV10) := hM6.cell 10
  have mx11 : w6.cell? ⟨w5.heap.size, 11, none⟩ = some (.int .u64 xV11) := hM6.cell 11
  have mx12 : w6.cell? ⟨w5.heap.size, 12, none⟩ = some (.string xV12) := hM6.cell 12
  have mx13 : w6.cell? ⟨w5.heap.size, 13, none⟩ = some (.slice xA13 xL13 xV13) := hM6.cell 13
  have mx14 : w6.cell? ⟨w5.heap.size, 14, none⟩ = some (.slice xA14 xL14 xV14) := hM6.cell 14
  go_wp2_with fail
  refine (e7 _ hW6a).mono ?_
  rintro e w7 ⟨rfl, hB7⟩
  have hW7 := bel_step hW6a hB7
  go_wp2_with fail
  refine (awake10_any w7).mono ?_
  rintro e w8 ⟨rfl, hB8⟩
  go_wp2_with fail
  go_ret
  exact ⟨rfl, bel_step hW7 hB8⟩
end Go.Proofs.Ytaahhommfpohhaa
