/- WALKS: dataset.wrong, slices.ContainsFunc over read's closure -/
import Derived.Test.YtlgokfgbcohioaaDoorDsOM
namespace Go.Proofs.YtlgokfgbcohioaaDoor
open Go.RowKit Plain

set_option maxRecDepth 100000 in
set_option maxHeartbeats 4000000 in
theorem dwrong_any (f : Fld) (w : World) : Calls Tryd.prog 86 #[f.agg] w fun e w' => e = .returned (.int .i64 (dwrong f)) ∧ Below w.heap.size w w' := by
  obtain ⟨q, hq⟩ : ∃ q, dwrong f = q := ⟨_, rfl⟩
  rw [hq]
  unfold dwrong at hq
  obtain ⟨num, kind, val, text⟩ := f
  unfold Fld.agg
  simp only at hq ⊢
  have hE := (Below.refl w.heap.size w).alloc (Nat.le_refl _) (Obj.cells #[.int .i64 num, .int .i64 kind, .int .u64 val, .string text] 73)
  by_cases n1 : num = 1
  · subst n1
    rw [if_pos (.inl rfl)] at hq
    by_cases hk : kind = 0
    · subst hk
      rw [if_pos rfl, if_neg (by intro h; exact absurd h.1 (by decide))] at hq
      subst hq
      go_enter Tryd.func86, Tryd.ntmps86
      go_wp2_with fail
      go_ret
      exact ⟨rfl, hE⟩
    · rw [if_neg hk] at hq
      have hb : (kind != 0) = true := by simpa using hk
      clear hk
      subst hq
      go_enter Tryd.func86, Tryd.ntmps86
      go_wp2_with fail
      go_ret
      exact ⟨rfl, hE⟩
  by_cases n3 : num = 3
  · subst n3
    rw [if_pos (.inr rfl)] at hq
    by_cases hk : kind = 0
    · subst hk
      rw [if_pos rfl] at hq
      by_cases hv : 4294967295 < val
      · rw [if_pos ⟨rfl, hv⟩] at hq
        have hb : decide ((4294967295 : Int) < (val : Int)) = true := decide_eq_true (by omega)
        clear hv n1
        subst hq
        go_enter Tryd.func86, Tryd.ntmps86
        go_wp2_with fail
        go_ret
        exact ⟨rfl, hE⟩
      · rw [if_neg (fun h => hv h.2)] at hq
        have hb : decide ((4294967295 : Int) < (val : Int)) = false := decide_eq_false (by omega)
        clear hv n1
        subst hq
        go_enter Tryd.func86, Tryd.ntmps86
        go_wp2_with fail
        go_ret
        exact ⟨rfl, hE⟩
    · rw [if_neg hk] at hq
      have hb : (kind != 0) = true := by simpa using hk
      clear hk
      subst hq
      go_enter Tryd.func86, Tryd.ntmps86
      go_wp2_with fail
      go_ret
      exact ⟨rfl, hE⟩
  have h1 : (num == 1) = false := by simpa using n1
  have h3 : (num == 3) = false := by simpa using n3
  rw [if_neg (fun h => h.elim n1 n3)] at hq
  by_cases n24 : num = 2 ∨ num = 4
  · rw [if_pos n24] at hq
    by_cases hk : kind = 2
    · subst hk
      rw [if_pos rfl] at hq
      subst hq
      rcases n24 with rfl | rfl
      all_goals
        clear n1 n3
        go_enter Tryd.func86, Tryd.ntmps86
        go_wp2_with fail
        go_ret
        exact ⟨rfl, hE⟩
    · rw [if_neg hk] at hq
      have hb : (kind != 2) = true := by simpa using hk
      clear hk
      subst hq
      rcases n24 with rfl | rfl
      all_goals
        clear n1 n3
        go_enter Tryd.func86, Tryd.ntmps86
        go_wp2_with fail
        go_ret
        exact ⟨rfl, hE⟩
  · rw [if_neg n24] at hq
    have h2 : (num == 2) = false := by simp; intro h; exact n24 (.inl h)
    have h4 : (num == 4) = false := by simp; intro h; exact n24 (.inr h)
    clear n1 n3 n24
    subst hq
    go_enter Tryd.func86, Tryd.ntmps86
    go_wp2_with fail
    go_ret
    exact ⟨rfl, hE⟩
theorem cfr1 (args : Array Value) (W : World) : (callFunc 90 args).run Tryd.prog W = .ok (.enter 90 args) W := by go_simp
set_option maxRecDepth 100000 in
theorem read1_any (f : Fld) (w : World) : Calls Tryd.prog 90 #[f.agg] w fun e w' => e = .returned (.bool (f.kind != 2)) ∧ Below w.heap.size w w' := by
  obtain ⟨num, kind, val, text⟩ := f
  unfold Fld.agg
  simp only
  have hE := (Below.refl w.heap.size w).alloc (Nat.le_refl _) (Obj.cells #[.int .i64 num, .int .i64 kind, .int .u64 val, .string text] 73)
  go_enter Tryd.func90, Tryd.ntmps90
  go_wp2_with fail
  go_ret
  exact ⟨rfl, hE⟩
/-- the place of the first that is no text; -1: there is none -/
def dplace : List Fld → Nat → Int
  | [], _ => -1
  | f :: l, j => if f.kind = 2 then dplace l (j + 1) else j
theorem dplace_texts : ∀ (l : List Fld) (j : Nat), decide (0 ≤ dplace l j) = !dtexts l := by
  intro l
  induction l with
  | nil => intro j; rfl
  | cons f l ih =>
    intro j
    rw [dplace, dtexts, List.all_cons]
    by_cases h : f.kind = 2
    · rw [if_pos h, ih, h]; rfl
    · rw [if_neg h, show (f.kind == 2) = false by simpa using h]
      simp
set_option maxRecDepth 100000 in
set_option maxHeartbeats 2000000 in
theorem dindex_any (l : List Fld) (A : Option Addr) (c : Nat) (hl : l.length ≤ 1000) (w : World) (hr : Rd w w.heap.size A (flc l)) :
    Calls Tryd.prog 111 #[.slice A l.length c, .func (.func 90) #[] #[]] w fun e w' => e = .returned (.int .i64 (dplace l 0)) ∧ Below w.heap.size w w' := by
  obtain ⟨q, hq⟩ : ∃ q, dplace l 0 = q := ⟨_, rfl⟩
  rw [hq]
  have hcf := cfr1
  have HQ := Lib.hid hq
  have HR := Lib.hid hr
  obtain ⟨n, hn⟩ : ∃ n, l.length = n := ⟨_, rfl⟩
  rw [hn] at hl ⊢
  have HN := Lib.hid hn
  clear hq hr hn
  go_enter Tryd.func111, Tryd.ntmps111
  go_wp2_with fail
  go_loopw [8] (fun i wr => ∃ j : Nat, i = .int .i64 j ∧ j ≤ n ∧ dplace (l.drop j) j = q ∧ Below w.heap.size w wr) (fun i _ => n - (intOf i).toNat)
  case atStart => exact ⟨0, rfl, Nat.zero_le _, HQ.out, Below.refl _ _⟩
  case round =>
    obtain ⟨j, rfl, hj, he, hB⟩ := hrel
    have HE := Lib.hid he
    clear he
    by_cases hlt : j < n
    · obtain ⟨f, hf⟩ : ∃ f, l[j]? = some f := ⟨_, List.getElem?_eq_getElem (by rw [HN.out]; exact hlt)⟩
      obtain ⟨b1, o1, rfl, hb1, g0, g1, g2, g3⟩ := fld_at (HR.out.below hB (Nat.le_refl _)) hf
      have he2 := HE.out
      rw [drop_cons hf, dplace] at he2
      have hc := read1_any f wr
      unfold Fld.agg at hc
      obtain ⟨num, kind, val, text⟩ := f
      simp only at g0 g1 g2 g3 hc he2
      clear hf HE
      by_cases hk : kind = 2
      · rw [if_pos hk] at he2
        subst hk
        have hc2 : Calls Tryd.prog 90 #[.agg #[.int .i64 num, .int .i64 2, .int .u64 val, .string text]] wr fun e w' => e = .returned (.bool false) ∧ Below wr.heap.size wr w' := hc
        have HE := Lib.hid he2
        clear he2 hc
        go_wp2_with fail
        refine hc2.mono ?_
        rintro e w1 ⟨rfl, hB1⟩
        have hB2 := bel_step hB hB1
        clear hc2 hB1
        go_wp2_with fail
        go_roundw
        case rel => exact ⟨j + 1, by go_num, by omega, HE.out, hB2⟩
        case measure => simp [intOf]; omega
      · rw [if_neg hk] at he2
        subst he2
        have hb : (kind != 2) = true := by simpa using hk
        rw [hb] at hc
        clear hk
        go_wp2_with fail
        refine hc.mono ?_
        rintro e w1 ⟨rfl, hB1⟩
        have hB2 := bel_step hB hB1
        clear hc hB1
        go_wp2_with fail
        go_ret
        exact ⟨rfl, hB2⟩
    · rw [List.drop_eq_nil_of_le (by rw [HN.out]; omega)] at HE
      have hq : (-1 : Int) = q := HE.out
      subst hq
      clear HE
      go_wp2_with fail
      go_ret
      exact ⟨rfl, hB⟩
set_option maxRecDepth 100000 in
theorem dcontains_any (l : List Fld) (A : Option Addr) (c : Nat) (hl : l.length ≤ 1000) (w : World) (hr : Rd w w.heap.size A (flc l)) :
    Calls Tryd.prog 89 #[.slice A l.length c, .func (.func 90) #[] #[]] w fun e w' => e = .returned (.bool (!dtexts l)) ∧ Below w.heap.size w w' := by
  have h := dindex_any l A c hl w hr
  rw [← dplace_texts l 0]
  generalize dplace l 0 = q at *
  generalize l.length = n at *
  clear hr
  go_enter Tryd.func89, Tryd.ntmps89
  go_wp2_with fail
  refine h.mono ?_
  rintro e w1 ⟨rfl, hB⟩
  go_wp2_with fail
  go_ret
  exact ⟨rfl, hB⟩
end Go.Proofs.YtlgokfgbcohioaaDoor
