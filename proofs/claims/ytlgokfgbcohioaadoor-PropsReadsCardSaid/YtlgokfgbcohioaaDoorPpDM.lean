/- WALKS: props.Depth, crierref07.Depth -/
import Derived.Test.YtlgokfgbcohioaaDoorPpAM
namespace Go.Proofs.YtlgokfgbcohioaaDoor
open Go.RowKit Plain

theorem drop_cons7 {α : Type} {l : List α} {j : Nat} {f : α} (h : l[j]? = some f) : l.drop j = f :: l.drop (j + 1) := by
  obtain ⟨hlt, rfl⟩ := List.getElem?_eq_some_iff.1 h
  rw [List.drop_eq_getElem_cons hlt]
theorem mx3 (d s : Nat) : Value.int .i64 (if (if (d : Int) < 2 then 2 else (d : Int)) < 1 + (s : Int) then 1 + (s : Int) else if (d : Int) < 2 then 2 else (d : Int)) = Value.int .i64 ((max d (max 2 (1 + s)) : Nat) : Int) := by
  congr 1
  split <;> split at * <;> omega
theorem mx2 (d s : Nat) : Value.int .i64 (if (d : Int) < 1 + (if 1 < (s : Int) then (s : Int) else 1) then 1 + (if 1 < (s : Int) then (s : Int) else 1) else (d : Int)) = Value.int .i64 ((max d (max 2 (1 + s)) : Nat) : Int) := by
  congr 1
  split <;> split at * <;> omega
theorem pdepth_pos {ps : List Pn} (h : ¬ ps.length = 0) : 1 ≤ pdeep ps := by
  cases ps with
  | nil => exact absurd rfl h
  | cons p ps => have := pdeep_mem (l := p :: ps) p (by simp); unfold pone at this; split at this <;> omega
set_option maxRecDepth 100000 in
set_option maxHeartbeats 2000000 in
theorem depth_step (l : Ps) (ih : ∀ p ∈ l.list, ∀ (A : Option Addr) (c : Nat) (w : World), p.sub.depth ≤ 4000000 → p.sub.Ok → p.sub.list.length ≤ 9223372036854775807 → p.sub.At w w.heap.size A →
      Calls Tryd.prog 19 #[.slice A p.sub.list.length c] w fun e w' => e = .returned (.int .i64 p.sub.depth) ∧ Below w.heap.size w w')
    (A : Option Addr) (c : Nat) (w : World) (hd : l.depth ≤ 4000000) (hok : l.Ok) (hlen : l.list.length ≤ 9223372036854775807) (hat : l.At w w.heap.size A) :
    Calls Tryd.prog 19 #[.slice A l.list.length c] w fun e w' => e = .returned (.int .i64 l.depth) ∧ Below w.heap.size w w' := by
  rw [Ps.depth_list] at hd ⊢
  have hrec : ∀ p ∈ l.list, p.v.k = 8 → ∀ W, Below w.heap.size w W → p.sub.depth ≤ 4000000 ∧ Calls Tryd.prog 19 #[.slice p.adr p.sub.list.length p.cap] W fun e w' => e = .returned (.int .i64 p.sub.depth) ∧ Below W.heap.size W w' := by
    intro p hp hk W hB
    obtain ⟨h1, h2, h3, h4⟩ := Ps.ok_mem hok p hp
    have hm := pdeep_mem p hp
    unfold pone at hm
    rw [if_pos hk] at hm
    exact ⟨by omega, ih p hp p.adr p.cap W (by omega) h4 h3 (((hat.sub hp).below hB (Nat.le_refl _)).more hB.size)⟩
  have HREC := Lib.hid hrec
  have HR := Lib.hid hat.rd
  clear ih hok hat hrec
  generalize l.list = ps at *
  obtain ⟨n, hn⟩ : ∃ n, ps.length = n := ⟨_, rfl⟩
  obtain ⟨D, hD⟩ : ∃ D, pdeep ps = D := ⟨_, rfl⟩
  rw [hn] at hlen ⊢
  rw [hD] at hd ⊢
  have HN := Lib.hid hn
  have HD := Lib.hid hD
  by_cases h0 : n = 0
  · subst h0
    have hps : ps = [] := List.eq_nil_of_length_eq_zero hn
    have hD0 : D = 0 := by rw [← hD, hps]; rfl
    subst hD0
    clear hn hD hps
    go_enter Tryd.func19, Tryd.ntmps19
    go_wp2_with fail
    go_ret
    exact ⟨rfl, Below.refl _ _⟩
  · have hb0 : ((n : Int) == 0) = false := by simp; omega
    have hD1 : 1 ≤ D := by
      rw [← hD]
      cases ps with
      | nil => exact absurd hn.symm h0
      | cons p ps => have := pdeep_mem (l := p :: ps) p (by simp); unfold pone at this; split at this <;> omega
    clear hn hD h0
    go_enter Tryd.func19, Tryd.ntmps19
    go_wp2_with fail
    go_loopw [3, 11] (fun m i wr => ∃ (j d : Nat), i = .int .i64 j ∧ m = .int .i64 d ∧ j ≤ n ∧ 1 ≤ d ∧ d ≤ D ∧ max d (pdeep (ps.drop j)) = D ∧ Below w.heap.size w wr) (fun _ i _ => n - (intOf i).toNat)
    case atStart => exact ⟨0, 1, rfl, rfl, Nat.zero_le _, Nat.le_refl _, hD1, by have := HD.out; rw [List.drop_zero]; omega, Below.refl _ _⟩
    case round =>
      obtain ⟨j, d, rfl, rfl, hj, hd1, hdD, hmx, hB⟩ := hrel
      have hs := hB.size
      have HMX := Lib.hid hmx
      clear hmx
      by_cases hlt : j < n
      · obtain ⟨p, hp⟩ : ∃ p, ps[j]? = some p := ⟨_, List.getElem?_eq_getElem (by rw [HN.out]; exact hlt)⟩
        have hrec := HREC.out p (List.mem_of_getElem? hp)
        obtain ⟨b1, o1, rfl, hb1, hpa⟩ := prop_at (HR.out.below hB (Nat.le_refl _)) hp
        obtain ⟨g0, g1, g2, g3, g4, g5, g6⟩ := hpa
        have HS : Hid (max d (max (pone p.v p.sub.depth) (pdeep (ps.drop (j + 1)))) = D) := Lib.hid (by have := HMX.out; rw [drop_cons7 hp, pdeep] at this; exact this)
        clear hp HMX
        obtain ⟨key, type, null, ⟨pk, pn, pss⟩, adr, cap, sub⟩ := p
        simp only at hrec g0 g1 g2 g3 g4 g5 g6 HS
        unfold pone at HS
        simp only at HS
        have hBa := hB.alloc hs (Obj.cells #[.string key, .int .u32 type, .bool null, .int .i64 pk, .int .u64 pn, .string pss, .slice adr sub.list.length cap] 82)
        by_cases hk : pk = 8
        · subst hk
          obtain ⟨hsd, hcall⟩ := hrec rfl _ hBa
          have HS2 : Hid (max d (max (1 + max 1 sub.depth) (pdeep (ps.drop (j + 1)))) = D) := Lib.hid (by have := HS.out; rwa [if_pos rfl] at this)
          clear HS hrec
          generalize sub.list.length = SL at *
          generalize sub.depth = sd at *
          go_wp2_with fail
          refine hcall.mono ?_
          rintro e w1 ⟨rfl, hB1⟩
          have hB2 := bel_step hB (((Below.refl _ wr).alloc (Nat.le_refl _) _).trans (hB1.mono (by simp)))
          clear hcall hB1 hBa g0 g1 g2 g3 g4 g5 g6
          go_wp2_with fail
          go_roundw
          case rel => exact ⟨j + 1, max d (max 2 (1 + sd)), by go_num, mx3 d sd, by omega, by omega, by have := HS2.out; omega, by have := HS2.out; omega, hB2⟩
          case measure => simp [intOf]; omega
        · have hbk : (pk == 8) = false := by simpa using hk
          have HS2 : Hid (max d (max 1 (pdeep (ps.drop (j + 1)))) = D) := Lib.hid (by have := HS.out; rwa [if_neg hk] at this)
          clear HS hrec hk
          generalize sub.list.length = SL at *
          go_wp2_with fail
          go_roundw
          case rel => exact ⟨j + 1, d, by go_num, rfl, by omega, hd1, hdD, by have := HS2.out; omega, hBa⟩
          case measure => simp [intOf]; omega
      · obtain rfl : j = n := by omega
        have hdd : d = D := by
          have := HMX.out
          rw [List.drop_eq_nil_of_le (by rw [HN.out]; exact Nat.le_refl _), pdeep] at this
          omega
        subst hdd
        clear hlt HMX
        go_wp2_with fail
        go_ret
        exact ⟨rfl, hB⟩
theorem depth_any : ∀ (l : Ps) (A : Option Addr) (c : Nat) (w : World), l.depth ≤ 4000000 → l.Ok → l.list.length ≤ 9223372036854775807 → l.At w w.heap.size A →
    Calls Tryd.prog 19 #[.slice A l.list.length c] w fun e w' => e = .returned (.int .i64 l.depth) ∧ Below w.heap.size w w' :=
  Ps.ind fun l ih A c w h1 h2 h3 h4 => depth_step l ih A c w h1 h2 h3 h4
set_option maxRecDepth 100000 in
set_option maxHeartbeats 2000000 in
theorem rdepth_step (l : Ps) (ih : ∀ p ∈ l.list, ∀ (A : Option Addr) (c : Nat) (w : World), p.sub.depth ≤ 4000000 → p.sub.Ok → p.sub.list.length ≤ 9223372036854775807 → p.sub.At w w.heap.size A →
      Calls Tryd.prog 20 #[.slice A p.sub.list.length c] w fun e w' => e = .returned (.int .i64 p.sub.depth) ∧ Below w.heap.size w w')
    (A : Option Addr) (c : Nat) (w : World) (hd : l.depth ≤ 4000000) (hok : l.Ok) (hlen : l.list.length ≤ 9223372036854775807) (hat : l.At w w.heap.size A) :
    Calls Tryd.prog 20 #[.slice A l.list.length c] w fun e w' => e = .returned (.int .i64 l.depth) ∧ Below w.heap.size w w' := by
  rw [Ps.depth_list] at hd ⊢
  have hrec : ∀ p ∈ l.list, p.v.k = 8 → ∀ W, Below w.heap.size w W → p.sub.depth ≤ 4000000 ∧ Calls Tryd.prog 20 #[.slice p.adr p.sub.list.length p.cap] W fun e w' => e = .returned (.int .i64 p.sub.depth) ∧ Below W.heap.size W w' := by
    intro p hp hk W hB
    obtain ⟨h1, h2, h3, h4⟩ := Ps.ok_mem hok p hp
    have hm := pdeep_mem p hp
    unfold pone at hm
    rw [if_pos hk] at hm
    exact ⟨by omega, ih p hp p.adr p.cap W (by omega) h4 h3 (((hat.sub hp).below hB (Nat.le_refl _)).more hB.size)⟩
  have HREC := Lib.hid hrec
  have HR := Lib.hid hat.rd
  clear ih hok hat hrec
  generalize l.list = ps at *
  obtain ⟨n, hn⟩ : ∃ n, ps.length = n := ⟨_, rfl⟩
  obtain ⟨D, hD⟩ : ∃ D, pdeep ps = D := ⟨_, rfl⟩
  rw [hn] at hlen ⊢
  rw [hD] at hd ⊢
  have HN := Lib.hid hn
  have HD := Lib.hid hD
  by_cases h0 : n = 0
  · subst h0
    have hps : ps = [] := List.eq_nil_of_length_eq_zero hn
    have hD0 : D = 0 := by rw [← hD, hps]; rfl
    subst hD0
    clear hn hD hps
    go_enter Tryd.func20, Tryd.ntmps20
    go_wp2_with fail
    go_ret
    exact ⟨rfl, Below.refl _ _⟩
  · have hb0 : ((n : Int) == 0) = false := by simp; omega
    have hD1 : 1 ≤ D := by
      rw [← hD]
      cases ps with
      | nil => exact absurd hn.symm h0
      | cons p ps => have := pdeep_mem (l := p :: ps) p (by simp); unfold pone at this; split at this <;> omega
    clear hn hD h0
    go_enter Tryd.func20, Tryd.ntmps20
    go_wp2_with fail
    go_loopw [3, 4] (fun m i wr => ∃ (j d : Nat), i = .int .i64 j ∧ m = .int .i64 d ∧ j ≤ n ∧ 1 ≤ d ∧ d ≤ D ∧ max d (pdeep (ps.drop j)) = D ∧ Below w.heap.size w wr) (fun _ i _ => n - (intOf i).toNat)
    case atStart => exact ⟨0, 1, rfl, rfl, Nat.zero_le _, Nat.le_refl _, hD1, by have := HD.out; rw [List.drop_zero]; omega, Below.refl _ _⟩
    case round =>
      obtain ⟨j, d, rfl, rfl, hj, hd1, hdD, hmx, hB⟩ := hrel
      have hs := hB.size
      have HMX := Lib.hid hmx
      clear hmx
      by_cases hlt : j < n
      · obtain ⟨p, hp⟩ : ∃ p, ps[j]? = some p := ⟨_, List.getElem?_eq_getElem (by rw [HN.out]; exact hlt)⟩
        have hrec := HREC.out p (List.mem_of_getElem? hp)
        obtain ⟨b1, o1, rfl, hb1, hpa⟩ := prop_at (HR.out.below hB (Nat.le_refl _)) hp
        obtain ⟨g0, g1, g2, g3, g4, g5, g6⟩ := hpa
        have HS : Hid (max d (max (pone p.v p.sub.depth) (pdeep (ps.drop (j + 1)))) = D) := Lib.hid (by have := HMX.out; rw [drop_cons7 hp, pdeep] at this; exact this)
        clear hp HMX
        obtain ⟨key, type, null, ⟨pk, pn, pss⟩, adr, cap, sub⟩ := p
        simp only at hrec g0 g1 g2 g3 g4 g5 g6 HS
        unfold pone at HS
        simp only at HS
        by_cases hk : pk = 8
        · subst hk
          obtain ⟨hsd, hcall⟩ := hrec rfl _ hB
          have HS2 : Hid (max d (max (1 + max 1 sub.depth) (pdeep (ps.drop (j + 1)))) = D) := Lib.hid (by have := HS.out; rwa [if_pos rfl] at this)
          clear HS hrec
          generalize sub.list.length = SL at *
          generalize sub.depth = sd at *
          go_wp2_with fail
          refine hcall.mono ?_
          rintro e w1 ⟨rfl, hB1⟩
          have hB2 := bel_step hB hB1
          clear hcall hB1 g0 g1 g2 g3 g4 g5 g6
          go_wp2_with fail
          go_roundw
          case rel => exact ⟨j + 1, max d (max 2 (1 + sd)), by go_num, mx2 d sd, by omega, by omega, by have := HS2.out; omega, by have := HS2.out; omega, hB2⟩
          case measure => simp [intOf]; omega
        · have hbk : (pk == 8) = false := by simpa using hk
          have HS2 : Hid (max d (max 1 (pdeep (ps.drop (j + 1)))) = D) := Lib.hid (by have := HS.out; rwa [if_neg hk] at this)
          clear HS hrec hk
          generalize sub.list.length = SL at *
          go_wp2_with fail
          go_roundw
          case rel => exact ⟨j + 1, d, by go_num, rfl, by omega, hd1, hdD, by have := HS2.out; omega, hB⟩
          case measure => simp [intOf]; omega
      · obtain rfl : j = n := by omega
        have hdd : d = D := by
          have := HMX.out
          rw [List.drop_eq_nil_of_le (by rw [HN.out]; exact Nat.le_refl _), pdeep] at this
          omega
        subst hdd
        clear hlt HMX
        go_wp2_with fail
        go_ret
        exact ⟨rfl, hB⟩
theorem rdepth_any : ∀ (l : Ps) (A : Option Addr) (c : Nat) (w : World), l.depth ≤ 4000000 → l.Ok → l.list.length ≤ 9223372036854775807 → l.At w w.heap.size A →
    Calls Tryd.prog 20 #[.slice A l.list.length c] w fun e w' => e = .returned (.int .i64 l.depth) ∧ Below w.heap.size w w' :=
  Ps.ind fun l ih A c w h1 h2 h3 h4 => rdepth_step l ih A c w h1 h2 h3 h4
end Go.Proofs.YtlgokfgbcohioaaDoor
