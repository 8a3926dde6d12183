/- Several texts in one: words, plain laws and walks that the statement's proof imports. -/
import Derived.Test.YtanfnjlndckhkaaDoorK5
import Derived.Test.YtanfnjlndckhkaaDoorK4
import Derived.Test.YtanfnjlndckhkaaDoorK3
import Derived.Laws.MakeOwn
import Derived.Test.YtanfnjlndckhkaaDoorK6
/- WALKS: dataset.wrong, slices.ContainsFunc over read's closure -/
namespace Go.Proofs.YtanfnjlndckhkaaDoor
open Go.RowKit Plain

set_option maxRecDepth 100000 in
set_option maxHeartbeats 4000000 in
theorem dwrong_any (f : Fld) (w : World) : Calls Tryd.prog 69 #[f.agg] w fun e w' => e = .returned (.int .i64 (dwrong f)) ∧ Below w.heap.size w w' := by
  obtain ⟨q, hq⟩ : ∃ q, dwrong f = q := ⟨_, rfl⟩
  rw [hq]
  unfold dwrong at hq
  obtain ⟨num, kind, val, text⟩ := f
  unfold Fld.agg
  simp only at hq ⊢
  have hE := (Below.refl w.heap.size w).alloc (Nat.le_refl _) (Obj.cells #[.int .i64 num, .int .i64 kind, .int .u64 val, .string text] 64)
  by_cases n1 : num = 1
  · subst n1
    rw [if_pos (.inl rfl)] at hq
    by_cases hk : kind = 0
    · subst hk
      rw [if_pos rfl, if_neg (by intro h; exact absurd h.1 (by decide))] at hq
      subst hq
      go_enter Tryd.func69, Tryd.ntmps69
      go_wp2_with fail
      go_ret
      exact ⟨rfl, hE⟩
    · rw [if_neg hk] at hq
      have hb : (kind != 0) = true := by simpa using hk
      clear hk
      subst hq
      go_enter Tryd.func69, Tryd.ntmps69
      go_wp2_with fail
      go_ret
      exact ⟨rfl, hE⟩
  by_cases n3 : num = 3
  · subst n3
    rw [if_pos (.inr rfl)] at hq
    by_cases hk : kind = 0
    · subst hk
      rw [if_pos rfl] at hq
      by_cases hv : 4294967295 < val
      · rw [if_pos ⟨rfl, hv⟩] at hq
        have hb : decide ((4294967295 : Int) < (val : Int)) = true := decide_eq_true (by omega)
        clear hv n1
        subst hq
        go_enter Tryd.func69, Tryd.ntmps69
        go_wp2_with fail
        go_ret
        exact ⟨rfl, hE⟩
      · rw [if_neg (fun h => hv h.2)] at hq
        have hb : decide ((4294967295 : Int) < (val : Int)) = false := decide_eq_false (by omega)
        clear hv n1
        subst hq
        go_enter Tryd.func69, Tryd.ntmps69
        go_wp2_with fail
        go_ret
        exact ⟨rfl, hE⟩
    · rw [if_neg hk] at hq
      have hb : (kind != 0) = true := by simpa using hk
      clear hk
      subst hq
      go_enter Tryd.func69, Tryd.ntmps69
      go_wp2_with fail
      go_ret
      exact ⟨rfl, hE⟩
  have h1 : (num == 1) = false := by simpa using n1
  have h3 : (num == 3) = false := by simpa using n3
  rw [if_neg (fun h => h.elim n1 n3)] at hq
  by_cases n24 : num = 2 ∨ num = 4
  · rw [if_pos n24] at hq
    by_cases hk : kind = 2
    · subst hk
      rw [if_pos rfl] at hq
      subst hq
      rcases n24 with rfl | rfl
      all_goals
        clear n1 n3
        go_enter Tryd.func69, Tryd.ntmps69
        go_wp2_with fail
        go_ret
        exact ⟨rfl, hE⟩
    · rw [if_neg hk] at hq
      have hb : (kind != 2) = true := by simpa using hk
      clear hk
      subst hq
      rcases n24 with rfl | rfl
      all_goals
        clear n1 n3
        go_enter Tryd.func69, Tryd.ntmps69
        go_wp2_with fail
        go_ret
        exact ⟨rfl, hE⟩
  · rw [if_neg n24] at hq
    have h2 : (num == 2) = false := by simp; intro h; exact n24 (.inl h)
    have h4 : (num == 4) = false := by simp; intro h; exact n24 (.inr h)
    clear n1 n3 n24
    subst hq
    go_enter Tryd.func69, Tryd.ntmps69
    go_wp2_with fail
    go_ret
    exact ⟨rfl, hE⟩
theorem cfr1 (args : Array Value) (W : World) : (callFunc 73 args).run Tryd.prog W = .ok (.enter 73 args) W := by go_simp
set_option maxRecDepth 100000 in
theorem read1_any (f : Fld) (w : World) : Calls Tryd.prog 73 #[f.agg] w fun e w' => e = .returned (.bool (f.kind != 2)) ∧ Below w.heap.size w w' := by
  obtain ⟨num, kind, val, text⟩ := f
  unfold Fld.agg
  simp only
  have hE := (Below.refl w.heap.size w).alloc (Nat.le_refl _) (Obj.cells #[.int .i64 num, .int .i64 kind, .int .u64 val, .string text] 64)
  go_enter Tryd.func73, Tryd.ntmps73
  go_wp2_with fail
  go_ret
  exact ⟨rfl, hE⟩
/-- the place of the first that is no text; -1: there is none -/
def dplace : List Fld → Nat → Int
  | [], _ => -1
  | f :: l, j => if f.kind = 2 then dplace l (j + 1) else j
theorem dplace_texts : ∀ (l : List Fld) (j : Nat), decide (0 ≤ dplace l j) = !dtexts l := by
  intro l
  induction l with
  | nil => intro j; rfl
  | cons f l ih =>
    intro j
    rw [dplace, dtexts, List.all_cons]
    by_cases h : f.kind = 2
    · rw [if_pos h, ih, h]; rfl
    · rw [if_neg h, show (f.kind == 2) = false by simpa using h]
      simp
set_option maxRecDepth 100000 in
set_option maxHeartbeats 2000000 in
theorem dindex_any (l : List Fld) (A : Option Addr) (c : Nat) (hl : l.length ≤ 1000) (w : World) (hr : Rd w w.heap.size A (flc l)) :
    Calls Tryd.prog 98 #[.slice A l.length c, .func (.func 73) #[] #[]] w fun e w' => e = .returned (.int .i64 (dplace l 0)) ∧ Below w.heap.size w w' := by
  obtain ⟨q, hq⟩ : ∃ q, dplace l 0 = q := ⟨_, rfl⟩
  rw [hq]
  have hcf := cfr1
  have HQ := Lib.hid hq
  have HR := Lib.hid hr
  obtain ⟨n, hn⟩ : ∃ n, l.length = n := ⟨_, rfl⟩
  rw [hn] at hl ⊢
  have HN := Lib.hid hn
  clear hq hr hn
  go_enter Tryd.func98, Tryd.ntmps98
  go_wp2_with fail
  go_loopw [8] (fun i wr => ∃ j : Nat, i = .int .i64 j ∧ j ≤ n ∧ dplace (l.drop j) j = q ∧ Below w.heap.size w wr) (fun i _ => n - (intOf i).toNat)
  case atStart => exact ⟨0, rfl, Nat.zero_le _, HQ.out, Below.refl _ _⟩
  case round =>
    obtain ⟨j, rfl, hj, he, hB⟩ := hrel
    have HE := Lib.hid he
    clear he
    by_cases hlt : j < n
    · obtain ⟨f, hf⟩ : ∃ f, l[j]? = some f := ⟨_, List.getElem?_eq_getElem (by rw [HN.out]; exact hlt)⟩
      obtain ⟨b1, o1, rfl, hb1, g0, g1, g2, g3⟩ := fld_at (HR.out.below hB (Nat.le_refl _)) hf
      have he2 := HE.out
      rw [drop_cons hf, dplace] at he2
      have hc := read1_any f wr
      unfold Fld.agg at hc
      obtain ⟨num, kind, val, text⟩ := f
      simp only at g0 g1 g2 g3 hc he2
      clear hf HE
      by_cases hk : kind = 2
      · rw [if_pos hk] at he2
        subst hk
        have hc2 : Calls Tryd.prog 73 #[.agg #[.int .i64 num, .int .i64 2, .int .u64 val, .string text]] wr fun e w' => e = .returned (.bool false) ∧ Below wr.heap.size wr w' := hc
        have HE := Lib.hid he2
        clear he2 hc
        go_wp2_with fail
        refine hc2.mono ?_
        rintro e w1 ⟨rfl, hB1⟩
        have hB2 := bel_step hB hB1
        clear hc2 hB1
        go_wp2_with fail
        go_roundw
        case rel => exact ⟨j + 1, by go_num, by omega, HE.out, hB2⟩
        case measure => simp [intOf]; omega
      · rw [if_neg hk] at he2
        subst he2
        have hb : (kind != 2) = true := by simpa using hk
        rw [hb] at hc
        clear hk
        go_wp2_with fail
        refine hc.mono ?_
        rintro e w1 ⟨rfl, hB1⟩
        have hB2 := bel_step hB hB1
        clear hc hB1
        go_wp2_with fail
        go_ret
        exact ⟨rfl, hB2⟩
    · rw [List.drop_eq_nil_of_le (by rw [HN.out]; omega)] at HE
      have hq : (-1 : Int) = q := HE.out
      subst hq
      clear HE
      go_wp2_with fail
      go_ret
      exact ⟨rfl, hB⟩
set_option maxRecDepth 100000 in
theorem dcontains_any (l : List Fld) (A : Option Addr) (c : Nat) (hl : l.length ≤ 1000) (w : World) (hr : Rd w w.heap.size A (flc l)) :
    Calls Tryd.prog 72 #[.slice A l.length c, .func (.func 73) #[] #[]] w fun e w' => e = .returned (.bool (!dtexts l)) ∧ Below w.heap.size w w' := by
  have h := dindex_any l A c hl w hr
  rw [← dplace_texts l 0]
  generalize dplace l 0 = q at *
  generalize l.length = n at *
  clear hr
  go_enter Tryd.func72, Tryd.ntmps72
  go_wp2_with fail
  refine h.mono ?_
  rintro e w1 ⟨rfl, hB⟩
  go_wp2_with fail
  go_ret
  exact ⟨rfl, hB⟩
end Go.Proofs.YtanfnjlndckhkaaDoor

/- A slice of fields that a call makes whole and then fills from two places; regions walked over 'all but one block is kept'. -/
namespace Go.Proofs.YtanfnjlndckhkaaDoor
open Go.RowKit Plain

def outl (n : Nat) (a b : List Fld) : List Fld := (a ++ List.replicate (n - a.length) zfld) ++ (b ++ List.replicate (n - b.length) zfld)
theorem outl_len {n : Nat} {a b : List Fld} (ha : a.length ≤ n) (hb : b.length ≤ n) : (outl n a b).length = n + n := by
  unfold outl; simp; omega
theorem outl_full {n : Nat} {a b : List Fld} (ha : a.length = n) (hb : b.length = n) : outl n a b = a ++ b := by
  unfold outl; rw [ha, hb]; simp
theorem outl_nil (n : Nat) : outl n [] [] = List.replicate (n + n) zfld := by
  unfold outl; simp [List.replicate_append_replicate]
theorem half_set {n : Nat} {a : List Fld} {f : Fld} (h : a.length < n) : (a ++ List.replicate (n - a.length) zfld).set a.length f = (a ++ [f]) ++ List.replicate (n - (a ++ [f]).length) zfld := by
  obtain ⟨m, hm⟩ : ∃ m, n - a.length = m + 1 := ⟨n - a.length - 1, by omega⟩
  rw [hm, show n - (a ++ [f]).length = m by simp; omega, List.replicate_succ, List.set_append_right _ _ (Nat.le_refl _), Nat.sub_self]
  simp
theorem outl_set1 {n : Nat} {a b : List Fld} {f : Fld} (h : a.length < n) : (outl n a b).set a.length f = outl n (a ++ [f]) b := by
  unfold outl
  rw [List.set_append_left _ _ (by simp; omega), half_set h]
theorem outl_set2 {n : Nat} {a b : List Fld} {f : Fld} (ha : a.length ≤ n) (h : b.length < n) : (outl n a b).set (n + b.length) f = outl n a (b ++ [f]) := by
  unfold outl
  have hl : (a ++ List.replicate (n - a.length) zfld).length = n := by simp; omega
  rw [List.set_append_right _ _ (by omega), hl, show n + b.length - n = b.length by omega, half_set h]
theorem flc_set : ∀ {L : List Fld} {i : Nat} {f : Fld}, i < L.length → ((((flc L).set (i * 4) (.int .i64 f.num)).set (i * 4 + 1) (.int .i64 f.kind)).set (i * 4 + 2) (.int .u64 f.val)).set (i * 4 + 3) (.string f.text) = flc (L.set i f) := by
  intro L
  induction L with
  | nil => intro i f h; simp at h
  | cons x L ih =>
    intro i f h
    cases i with
    | zero => rfl
    | succ i =>
      have h2 := ih (i := i) (f := f) (by simpa using h)
      rw [List.set_cons_succ]
      show ((((x.cells ++ flc L).set ((i + 1) * 4) _).set ((i + 1) * 4 + 1) _).set ((i + 1) * 4 + 2) _).set ((i + 1) * 4 + 3) _ = x.cells ++ flc (L.set i f)
      have hx : x.cells.length = 4 := rfl
      rw [List.set_append_right _ _ (by omega), List.set_append_right _ _ (by omega), List.set_append_right _ _ (by omega), List.set_append_right _ _ (by omega), ← h2, hx]
      rw [show (i + 1) * 4 - 4 = i * 4 by omega, show (i + 1) * 4 + 1 - 4 = i * 4 + 1 by omega, show (i + 1) * 4 + 2 - 4 = i * 4 + 2 by omega, show (i + 1) * 4 + 3 - 4 = i * 4 + 3 by omega]
/-- block B is the row of these fields -/
def OutAt (W : World) (B : Nat) (L : List Fld) : Prop := W.heap[B]? = some (.cells (flc L).toArray 64 (0, 0))
theorem OutAt.lt {W : World} {B : Nat} {L : List Fld} (h : OutAt W B L) : B < W.heap.size := (Array.getElem?_eq_some_iff.1 h).1
theorem OutAt.below {W W' : World} {B : Nat} {L : List Fld} (h : OutAt W B L) (hb : Below W.heap.size W W') : OutAt W' B L := (hb.block B h.lt).trans h
theorem OutAt.room {W : World} {B : Nat} {L : List Fld} {i : Nat} (h : OutAt W B L) (hi : i < L.length) : ∃ f : Fld,
    (W.cell? ⟨B, i * 4, none⟩ = some (.int .i64 f.num) ∧ W.cell? ⟨B, i * 4 + 1, none⟩ = some (.int .i64 f.kind) ∧ W.cell? ⟨B, i * 4 + 2, none⟩ = some (.int .u64 f.val) ∧ W.cell? ⟨B, i * 4 + 3, none⟩ = some (.string f.text)) ∧
    W.frozen? ⟨B, i * 4, none⟩ = false ∧ W.frozen? ⟨B, i * 4 + 1, none⟩ = false ∧ W.frozen? ⟨B, i * 4 + 2, none⟩ = false ∧ W.frozen? ⟨B, i * 4 + 3, none⟩ = false := by
  have hz : ∀ i, W.frozen? ⟨B, i, none⟩ = false := fun i => by simp [World.frozen?, show W.heap[B]? = _ from h]
  have hc : ∀ i, W.cell? ⟨B, i, none⟩ = (flc L)[i]? := fun i => by simp [World.cell?, show W.heap[B]? = _ from h]
  have hf : L[i]? = some L[i] := List.getElem?_eq_getElem hi
  have hw : ∀ j, j < 4 → W.cell? ⟨B, i * 4 + j, none⟩ = L[i].cells[j]? := fun j hj => by
    rw [hc, Nat.mul_comm]; exact flc_at hf j hj
  exact ⟨L[i], ⟨hw 0 (by omega), hw 1 (by omega), hw 2 (by omega), hw 3 (by omega)⟩, hz _, hz _, hz _, hz _⟩
theorem OutAt.set {W : World} {B : Nat} {L : List Fld} {i : Nat} (h : OutAt W B L) (hi : i < L.length) (f : Fld) :
    OutAt ((((W.setCell ⟨B, i * 4, none⟩ (.int .i64 f.num)).setCell ⟨B, i * 4 + 1, none⟩ (.int .i64 f.kind)).setCell ⟨B, i * 4 + 2, none⟩ (.int .u64 f.val)).setCell ⟨B, i * 4 + 3, none⟩ (.string f.text)) B (L.set i f) := by
  unfold OutAt
  rw [← flc_set hi, ← List.setIfInBounds_toArray, ← List.setIfInBounds_toArray, ← List.setIfInBounds_toArray, ← List.setIfInBounds_toArray]
  exact heap_setCell_same _ B _ _ _ _ (heap_setCell_same _ B _ _ _ _ (heap_setCell_same _ B _ _ _ _ (heap_setCell_same W B _ _ _ _ h)))
theorem OutAt.rd {W : World} {B : Nat} {L : List Fld} (h : OutAt W B L) : Rd W W.heap.size (some ⟨B, 0, none⟩) (flc L) := by
  refine .inr ⟨B, 0, rfl, h.lt, fun i _ => ?_⟩
  simp [World.cell?, show W.heap[B]? = _ from h]
theorem made_flds (k : Nat) : madeCells (Value.agg #[.int .i64 0, .int .i64 0, .int .u64 0, .string ⟨#[]⟩]).cells (k * 4) = (flc (List.replicate k zfld)).toArray := by
  have hl : (flc (List.replicate k zfld)).length = 4 * k := by rw [flc_len, List.length_replicate]
  apply Array.ext
  · rw [size_madeCells]; simp [hl]; omega
  · intro i h1 h2
    rw [size_madeCells] at h1
    have hq : i / 4 < k := by omega
    have := flc_at (l := List.replicate k zfld) (i := i / 4) (f := zfld) (by simp [hq]) (i % 4) (Nat.mod_lt _ (by omega))
    rw [Nat.div_add_mod] at this
    have e2 : (flc (List.replicate k zfld)).toArray[i] = (flc (List.replicate k zfld))[i]'(by simpa using h2) := by simp
    rw [e2]
    apply Option.some.inj
    rw [← List.getElem?_eq_getElem, this]
    simp only [madeCells, Value.cells, Array.getElem_map, Array.getElem_range]
    have hm : i % 4 = 0 ∨ i % 4 = 1 ∨ i % 4 = 2 ∨ i % 4 = 3 := by omega
    rcases hm with h | h | h | h <;> simp [h, zfld, Fld.cells]
theorem run_mkflds (W : World) (n : Nat) (hn : n ≤ 1000) : (Instr.makeSlice 65 (.int .i64 (2 * (n : Int))) (.int .i64 (2 * (n : Int)))).run Tryd.prog W = .ok (.slice (some ⟨W.heap.size, 0, none⟩) (n + n) (n + n)) (W.alloc (.cells (flc (outl n [] [])).toArray 64)) := by
  obtain ⟨i, hi, hz, hs, hb⟩ := elemF.info
  have h := run_make (P := Tryd.prog) W _ _ i _ elemF.ht hi hz .i64 .i64 (2 * (n : Int)) (2 * (n : Int)) (by omega) (Int.le_refl _) (by rw [hb]; omega) (by omega)
  rw [h, hs, outl_nil, show (2 * (n : Int)).toNat = n + n by omega, made_flds]

/-- every block but one is kept -/
def Ex (B : Nat) (w w' : World) : Prop := w.heap.size ≤ w'.heap.size ∧ ∀ k, k < w.heap.size → k ≠ B → w'.heap[k]? = w.heap[k]?
theorem Ex.refl (B : Nat) (w : World) : Ex B w w := ⟨Nat.le_refl _, fun _ _ _ => rfl⟩
theorem Ex.trans {B : Nat} {a b c : World} (h : Ex B a b) (k : Ex B b c) : Ex B a c := ⟨Nat.le_trans h.1 k.1, fun j hj hne => (k.2 j (Nat.lt_of_lt_of_le hj h.1) hne).trans (h.2 j hj hne)⟩
theorem Ex.below {B : Nat} {a b : World} (h : Below a.heap.size a b) : Ex B a b := ⟨h.size, fun j hj _ => h.block j hj⟩
theorem Ex.set4 {B x y z t : Nat} (W : World) (u v s r : Value) : Ex B W ((((W.setCell ⟨B, x, none⟩ u).setCell ⟨B, y, none⟩ v).setCell ⟨B, z, none⟩ s).setCell ⟨B, t, none⟩ r) :=
  ⟨by simp, fun j _ hne => by
    rw [heap_setCell_other _ ⟨B, t, none⟩ j _ (fun e => hne e), heap_setCell_other _ ⟨B, z, none⟩ j _ (fun e => hne e), heap_setCell_other _ ⟨B, y, none⟩ j _ (fun e => hne e), heap_setCell_other _ ⟨B, x, none⟩ j _ (fun e => hne e)]⟩
def exB (B : Nat) : Rel := ⟨Ex B, Ex.refl B, Ex.trans⟩
theorem Ex.cell {B : Nat} {a b : World} (h : Ex B a b) {k i : Nat} (hk : k < a.heap.size) (hne : k ≠ B) : b.cell? ⟨k, i, none⟩ = a.cell? ⟨k, i, none⟩ := by
  simp only [World.cell?, h.2 k hk hne]
theorem Ex.own {B base : Nat} {a b : World} {e : TypeId} {size n : Nat} {v : Value} {xs : List Value} (h : Ex B a b) (ho : a.ownsRow base e size v n xs) (hB : B < base) : b.ownsRow base e size v n xs := by
  refine ⟨ho.1, ?_⟩
  rcases ho.2 with h2 | ⟨g, cap, cur, hv, hg, hh, r⟩
  · exact .inl h2
  · exact .inr ⟨g, cap, cur, hv, hg, (h.2 g (Array.getElem?_eq_some_iff.1 hh).1 (by omega)).trans hh, r⟩
end Go.Proofs.YtanfnjlndckhkaaDoor

/- WALK: dataset.read -/
namespace Go.Proofs.YtanfnjlndckhkaaDoor
open Go.RowKit Plain

theorem pad_set {α : Type} {z f : α} {n : Nat} {a : List α} (h : a.length < n) : (a ++ List.replicate (n - a.length) z).set a.length f = (a ++ [f]) ++ List.replicate (n - (a ++ [f]).length) z := by
  obtain ⟨m, hm⟩ : ∃ m, n - a.length = m + 1 := ⟨n - a.length - 1, by omega⟩
  rw [hm, show n - (a ++ [f]).length = m by simp; omega, List.replicate_succ, List.set_append_right _ _ (Nat.le_refl _), Nat.sub_self]
  simp
theorem vvl_set : ∀ {L : List VV} {i : Nat} {f : VV}, i < L.length → (((vvl L).set (i * 3) (.int .i64 f.k)).set (i * 3 + 1) (.int .u64 f.n)).set (i * 3 + 2) (.string f.s) = vvl (L.set i f) := by
  intro L
  induction L with
  | nil => intro i f h; simp at h
  | cons x L ih =>
    intro i f h
    cases i with
    | zero => rfl
    | succ i =>
      have h2 := ih (i := i) (f := f) (by simpa using h)
      rw [List.set_cons_succ]
      show (((x.cells.toList ++ vvl L).set ((i + 1) * 3) _).set ((i + 1) * 3 + 1) _).set ((i + 1) * 3 + 2) _ = x.cells.toList ++ vvl (L.set i f)
      have hx : x.cells.toList.length = 3 := rfl
      rw [List.set_append_right _ _ (by omega), List.set_append_right _ _ (by omega), List.set_append_right _ _ (by omega), ← h2, hx]
      rw [show (i + 1) * 3 - 3 = i * 3 by omega, show (i + 1) * 3 + 1 - 3 = i * 3 + 1 by omega, show (i + 1) * 3 + 2 - 3 = i * 3 + 2 by omega]
/-- block B is the row of these values -/
def VOutAt (W : World) (B : Nat) (L : List VV) : Prop := W.heap[B]? = some (.cells (vvl L).toArray 42 (0, 0))
theorem VOutAt.lt {W : World} {B : Nat} {L : List VV} (h : VOutAt W B L) : B < W.heap.size := (Array.getElem?_eq_some_iff.1 h).1
theorem VOutAt.below {W W' : World} {B : Nat} {L : List VV} (h : VOutAt W B L) (hb : Below W.heap.size W W') : VOutAt W' B L := (hb.block B h.lt).trans h
theorem VOutAt.room {W : World} {B : Nat} {L : List VV} {i : Nat} (h : VOutAt W B L) (hi : i < L.length) : ∃ f : VV,
    (W.cell? ⟨B, i * 3, none⟩ = some (.int .i64 f.k) ∧ W.cell? ⟨B, i * 3 + 1, none⟩ = some (.int .u64 f.n) ∧ W.cell? ⟨B, i * 3 + 2, none⟩ = some (.string f.s)) ∧
    W.frozen? ⟨B, i * 3, none⟩ = false ∧ W.frozen? ⟨B, i * 3 + 1, none⟩ = false ∧ W.frozen? ⟨B, i * 3 + 2, none⟩ = false := by
  have hz : ∀ i, W.frozen? ⟨B, i, none⟩ = false := fun i => by simp [World.frozen?, show W.heap[B]? = _ from h]
  have hc : ∀ i, W.cell? ⟨B, i, none⟩ = (vvl L)[i]? := fun i => by simp [World.cell?, show W.heap[B]? = _ from h]
  have hf : L[i]? = some L[i] := List.getElem?_eq_getElem hi
  have hw : ∀ j, j < 3 → W.cell? ⟨B, i * 3 + j, none⟩ = L[i].cells[j]? := fun j hj => by
    rw [hc, Nat.mul_comm]; exact vvl_at hf j hj
  exact ⟨L[i], ⟨hw 0 (by omega), hw 1 (by omega), hw 2 (by omega)⟩, hz _, hz _, hz _⟩
theorem VOutAt.set {W : World} {B : Nat} {L : List VV} {i : Nat} (h : VOutAt W B L) (hi : i < L.length) (f : VV) :
    VOutAt (((W.setCell ⟨B, i * 3, none⟩ (.int .i64 f.k)).setCell ⟨B, i * 3 + 1, none⟩ (.int .u64 f.n)).setCell ⟨B, i * 3 + 2, none⟩ (.string f.s)) B (L.set i f) := by
  unfold VOutAt
  rw [← vvl_set hi, ← List.setIfInBounds_toArray, ← List.setIfInBounds_toArray, ← List.setIfInBounds_toArray]
  exact heap_setCell_same _ B _ _ _ _ (heap_setCell_same _ B _ _ _ _ (heap_setCell_same W B _ _ _ _ h))
theorem VOutAt.own {W : World} {B base n : Nat} {L : List VV} (h : VOutAt W B L) (hl : L.length = n) (hn : n ≤ 1000) (hb : base ≤ B) : W.ownsRow base 42 3 (.slice (some ⟨B, 0, none⟩) n n) n (vvl L) := by
  have h3 := vvl_len L
  refine ⟨by omega, .inr ⟨B, n, (vvl L).toArray, rfl, hb, h, Nat.le_refl _, by unfold maxLen; omega, by simp; omega, ?_⟩⟩
  rw [show (vvl L).toArray.toList = vvl L from rfl, List.take_of_length_le (by omega)]
theorem made_vals (k : Nat) : madeCells (Value.agg #[.int .i64 0, .int .u64 0, .string ⟨#[]⟩]).cells (k * 3) = (vvl (List.replicate k VV.zero)).toArray := by
  have hl : (vvl (List.replicate k VV.zero)).length = 3 * k := by rw [vvl_len, List.length_replicate]
  apply Array.ext
  · rw [size_madeCells]; simp [hl]; omega
  · intro i h1 h2
    rw [size_madeCells] at h1
    have hq : i / 3 < k := by omega
    have := vvl_at (l := List.replicate k VV.zero) (i := i / 3) (f := VV.zero) (by simp [hq]) (i % 3) (Nat.mod_lt _ (by omega))
    rw [Nat.div_add_mod] at this
    have e2 : (vvl (List.replicate k VV.zero)).toArray[i] = (vvl (List.replicate k VV.zero))[i]'(by simpa using h2) := by simp
    rw [e2]
    apply Option.some.inj
    rw [← List.getElem?_eq_getElem, this]
    simp only [madeCells, Value.cells, Array.getElem_map, Array.getElem_range]
    have hm : i % 3 = 0 ∨ i % 3 = 1 ∨ i % 3 = 2 := by omega
    rcases hm with h | h | h <;> simp [h, VV.zero, VV.cells]
theorem elemVV : Elem Tryd.prog 45 42 (.agg #[.int .i64 0, .int .u64 0, .string ⟨#[]⟩]) 3 32 :=
  ⟨Tryd.underlying45, info_parts (show (Tryd.prog.info? 42).map (fun i => (i.zero, i.size, i.bytes)) = some (some (.agg #[.int .i64 0, .int .u64 0, .string ⟨#[]⟩]), 3, 32) by kernel_rfl), rfl, by omega⟩
theorem run_mkvals (W : World) (n : Nat) (hn : n ≤ 1000) : (Instr.makeSlice 45 (.int .i64 (n : Int)) (.int .i64 (n : Int))).run Tryd.prog W = .ok (.slice (some ⟨W.heap.size, 0, none⟩) n n) (W.alloc (.cells (vvl (List.replicate n VV.zero)).toArray 42)) := by
  obtain ⟨i, hi, hz, hs, hb⟩ := elemVV.info
  have h := run_make (P := Tryd.prog) W _ _ i _ elemVV.ht hi hz .i64 .i64 (n : Int) (n : Int) (by omega) (Int.le_refl _) (by rw [hb]; omega) (by omega)
  rw [h, hs, Int.toNat_natCast, made_vals]
/-- values and an error, the values in a row of the call's own -/
def RPost (q : List VV × Int) (w : World) (e : Ending) (w' : World) : Prop :=
  ∃ A c, e = .returned (.tuple #[.slice A q.1.length c, .int .i64 q.2]) ∧ w'.ownsRow w.heap.size 42 3 (.slice A q.1.length c) q.1.length (vvl q.1) ∧ Below w.heap.size w w'
theorem rpost_err {q : List VV × Int} {w w' : World} {e : Int} (h : q = ([], e)) (hB : Below w.heap.size w w') : RPost q w (.returned (.tuple #[.slice none 0 0, .int .i64 e])) w' :=
  ⟨none, 0, by rw [h]; rfl, by rw [h]; exact World.ownsRow_nil w' _ _ _, hB⟩
theorem below_set3v {B R a b c : Nat} {w W : World} (h : Below B w W) (hB : B ≤ R) (v0 v1 v2 : Value) : Below B w (((W.setCell ⟨R, a, none⟩ v0).setCell ⟨R, b, none⟩ v1).setCell ⟨R, c, none⟩ v2) :=
  ((h.setCell (p := ⟨R, a, none⟩) hB _).setCell (p := ⟨R, b, none⟩) hB _).setCell (p := ⟨R, c, none⟩) hB _
theorem wof_flds {b : List UInt8} {num : Int} : ∀ f ∈ wall num (wof b).1, -9223372036854775808 ≤ f.num ∧ f.num ≤ 9223372036854775807 ∧ f.val < 18446744073709551616 := fun _ hf => wrd_ok (wall_mem hf).1
set_option maxRecDepth 100000 in
set_option maxHeartbeats 4000000 in
theorem dread_any (s : ByteArray) (n : Nat) (hs : s.size ≤ 4096) (hn : n ≤ 1000) (w : World) (hK : Kinds w) :
    Calls Tryd.prog 50 #[.string s, .int .i64 n] w (RPost (drd s.data.toList n) w) := by
  obtain ⟨q, hq⟩ : ∃ q, drd s.data.toList n = q := ⟨_, rfl⟩
  rw [hq]
  unfold drd at hq
  obtain ⟨c0, W0, hcv, hr0, hB0, hc0, hc1⟩ := run_bytes w s
  have hof := of_any s.data.toList (some ⟨w.heap.size, 0, none⟩) s.size c0 (by simp) hc0 (by have := hc1 (by unfold maxLen; omega); unfold maxLen at this; exact this) W0 hr0
  unfold OfPost at hof
  have HRD := Lib.hid (wof_rd s.data.toList)
  have hl256 := wof_256R s.data.toList
  obtain ⟨o, ho⟩ : ∃ o, wof s.data.toList = o := ⟨_, rfl⟩
  rw [ho] at hof hq HRD hl256
  obtain ⟨l, er⟩ := o
  simp only at hof hq HRD hl256
  clear ho hr0 hc0 hc1
  obtain ⟨m, hm⟩ : ∃ m, l.length = m := ⟨_, rfl⟩
  rw [hm] at hof hl256
  have HM := Lib.hid hm
  have HQ := Lib.hid hq
  clear hm hq
  go_enter Tryd.func50, Tryd.ntmps50
  go_wp2_with fail
  refine hof.mono ?_
  rintro e w1 ⟨A1, c1, rfl, ho1, hB1⟩
  have hW1 := bel_step hB0 hB1
  clear hof hcv hB0 hB1
  by_cases he : er = 0
  · subst he
    have hall := all_any 1 l A1 c1 (by rw [HM.out]; omega) w1 (Rd.of_own ho1)
    have HQ2 : Hid ((if (wall 1 l).length = n ∧ dtexts (wall 1 l) = true then (if ferr ((wall 1 l).map fun f => (dcv f).2) = 0 then ((wall 1 l).map fun f => (dcv f).1, 0) else ([], ferr ((wall 1 l).map fun f => (dcv f).2))) else ([], 4)) = q) := Lib.hid (by have := HQ.out; rwa [if_pos rfl] at this)
    have HT : Hid (∀ f ∈ wall 1 l, f.text.size ≤ 4096) := Lib.hid fun f hf => by
      obtain ⟨_, _, _, _, _, h⟩ := HRD.out f (wall_mem hf).1
      exact h
    have hwl := wall_len 1 l
    rw [HM.out] at hall hwl
    generalize wall 1 l = cl at *
    obtain ⟨k, hk⟩ : ∃ k, cl.length = k := ⟨_, rfl⟩
    rw [hk] at hall hwl
    have HKL := Lib.hid hk
    clear hk HQ ho1
    go_wp2_with fail
    refine hall.mono ?_
    rintro e w2 ⟨A2, c2, rfl, ho2, hB2⟩
    have hW2 := bel_step hW1 hB2
    clear hall hB2
    by_cases hkn : k = n
    · subst hkn
      have hcon := dcontains_any cl A2 c2 (by rw [HKL.out]; exact hn) w2 (by have := Rd.of_own ho2; exact this)
      rw [HKL.out] at hcon
      have HQ3 : Hid ((if dtexts cl = true then (if ferr (cl.map fun f => (dcv f).2) = 0 then (cl.map fun f => (dcv f).1, 0) else ([], ferr (cl.map fun f => (dcv f).2))) else ([], 4)) = q) := Lib.hid (by
        have := HQ2.out
        rw [HKL.out] at this
        by_cases hd : dtexts cl = true
        · rwa [if_pos ⟨rfl, hd⟩, ← if_pos (c := dtexts cl = true) (t := (if ferr (cl.map fun f => (dcv f).2) = 0 then (cl.map fun f => (dcv f).1, 0) else ([], ferr (cl.map fun f => (dcv f).2)))) (e := (([] : List VV), (4 : Int))) hd] at this
        · rw [if_neg (fun h => hd h.2)] at this
          rw [if_neg hd]; exact this)
      obtain ⟨tx, htx⟩ : ∃ t, dtexts cl = t := ⟨_, rfl⟩
      rw [htx] at hcon HQ3
      clear htx HQ2
      have hmk := fun W => run_mkvals W k hn
      go_wp2_with fail
      refine hcon.mono ?_
      rintro e w3 ⟨rfl, hB3⟩
      have hW3 := bel_step hW2 hB3
      have hr3 := (Rd.of_own ho2).below hB3 (Nat.le_refl _)
      have hs3 := hB3.size
      clear hcon
      cases tx
      case false =>
        have HQ4 : Hid (q = ([], 4)) := Lib.hid (by have := HQ3.out; rw [if_neg (by decide)] at this; exact this.symm)
        clear HQ3 hmk
        go_wp2_with fail
        go_ret2
        exact rpost_err HQ4.out hW3
      have HQ4 : Hid ((if ferr (cl.map fun f => (dcv f).2) = 0 then (cl.map fun f => (dcv f).1, 0) else ([], ferr (cl.map fun f => (dcv f).2))) = q) := Lib.hid (by have := HQ3.out; rwa [if_pos rfl] at this)
      have HR := Lib.hid (hr3.more hs3)
      clear HQ3 ho2 hr3 hB3 hs3
      go_wp2_with fail
      have hO0 : VOutAt (w3.alloc (.cells (vvl (List.replicate k VV.zero)).toArray 42)) w3.heap.size (List.replicate k VV.zero) := World.alloc_heap_new w3 _
      have hE0 : Below w3.heap.size w3 (w3.alloc (.cells (vvl (List.replicate k VV.zero)).toArray 42)) := (Below.refl _ w3).alloc (Nat.le_refl _) _
      clear hmk
      go_loopw [34] (fun i wr => ∃ (j : Nat) (L : List VV), i = .int .i64 j ∧ j ≤ k ∧ L = (cl.take j).map (fun f => (dcv f).1) ++ List.replicate (k - j) VV.zero ∧ ferr (cl.map fun f => (dcv f).2) = ferr ((cl.drop j).map fun f => (dcv f).2) ∧ VOutAt wr w3.heap.size L ∧ Below w3.heap.size w3 wr) (fun i _ => k - (intOf i).toNat)
      case atStart => exact ⟨0, _, rfl, Nat.zero_le _, by simp, rfl, hO0, hE0⟩
      case round =>
        clear hO0 hE0
        obtain ⟨j, L, rfl, hj, hL, he, hO, hB⟩ := hrel
        have hs := hB.size
        have HL := Lib.hid hL
        have HE := Lib.hid he
        clear hL he
        by_cases hlt : j < k
        · obtain ⟨f, hf⟩ : ∃ f, cl[j]? = some f := ⟨_, List.getElem?_eq_getElem (by rw [HKL.out]; exact hlt)⟩
          obtain ⟨b1, o1, rfl, hb1, g0, g1, g2, g3⟩ := fld_at (HR.out.below hB (Nat.le_refl _)) hf
          have hft := HT.out f (List.mem_of_getElem? hf)
          have HEC : Hid (ferr (cl.map fun f => (dcv f).2) = if (dcv f).2 = 0 then ferr ((cl.drop (j + 1)).map fun f => (dcv f).2) else (dcv f).2) := Lib.hid (by rw [HE.out, ferr_cons (f := fun f => (dcv f).2) hf])
          have hLl : L.length = k := by rw [HL.out]; simp [HKL.out]; omega
          have HLN : Hid (L.set j (dcv f).1 = (cl.take (j + 1)).map (fun f => (dcv f).1) ++ List.replicate (k - (j + 1)) VV.zero) := Lib.hid (by
            have h := pad_set (z := VV.zero) (f := (dcv f).1) (n := k) (a := (cl.take j).map fun f => (dcv f).1) (by simp [HKL.out]; omega)
            have e : ((cl.take j).map fun f => (dcv f).1).length = j := by simp [HKL.out]; omega
            rw [List.length_append, e] at h
            rw [HL.out, h, List.take_add_one, hf]
            simp)
          have HLL := Lib.hid hLl
          obtain ⟨num, kind, val, text⟩ := f
          simp only at g0 g1 g2 g3 hft
          obtain ⟨c5, W5, hcv, hr5, hB5, hc5, hc6⟩ := run_bytes wr text
          have hof := of_any text.data.toList (some ⟨wr.heap.size, 0, none⟩) text.size c5 (by simp) hc5 (by have := hc6 (by unfold maxLen; omega); unfold maxLen at this; exact this) W5 hr5
          unfold OfPost at hof
          have hrd := fun f (h : f ∈ (wof text.data.toList).1) => wrd_ok h
          have h256 := wof_256R text.data.toList
          have HDC : Hid (dcv ⟨num, kind, val, text⟩ = if (wof text.data.toList).2 = 0 then vof 1 false (wof text.data.toList).1 else (VV.zero, (wof text.data.toList).2)) := Lib.hid rfl
          obtain ⟨o, ho⟩ : ∃ o, wof text.data.toList = o := ⟨_, rfl⟩
          rw [ho] at hof hrd h256 HDC
          obtain ⟨tl, te⟩ := o
          simp only at hof hrd h256 HDC
          obtain ⟨dq, hdq⟩ : ∃ d, dcv ⟨num, kind, val, text⟩ = d := ⟨_, rfl⟩
          rw [hdq] at HDC HEC HLN
          obtain ⟨⟨vk, vn, vs⟩, ve⟩ := dq
          simp only at HDC HEC HLN
          obtain ⟨tm, htm⟩ : ∃ m, tl.length = m := ⟨_, rfl⟩
          rw [htm] at hof h256
          have HTM := Lib.hid htm
          have HRD2 := Lib.hid hrd
          have hO5 := hO.below hB5
          have hB6 := bel_step' hB (Nat.le_refl _) hB5
          clear ho hdq htm hf hrd hr5 hc5 hc6 hLl HE hB5
          go_wp2_with fail
          refine hof.mono ?_
          rintro e w6 ⟨A6, c6, rfl, ho6, hB7⟩
          have hO6 := hO5.below hB7
          have hB8 := bel_step hB6 hB7
          clear hof hcv hO5 hB6 hB7 hO g0 g1 g2 g3
          by_cases he : te = 0
          · subst he
            have HDC2 : Hid (vof 1 false tl = (⟨vk, vn, vs⟩, ve)) := Lib.hid (by have := HDC.out; rw [if_pos rfl] at this; exact this.symm)
            have hv := vof_any tl A6 c6 1 false (by rw [HTM.out]; omega) HRD2.out w6 (Rd.of_own ho6) (hK.below (bel_step hW3 hB8) hK.pos)
            rw [HDC2.out, HTM.out] at hv
            unfold VV.cells at hv
            simp only at hv
            clear HDC HDC2 ho6
            go_wp2_with fail
            refine hv.mono ?_
            rintro e w7 ⟨rfl, hB9⟩
            have hO7 := hO6.below hB9
            have hB10 := bel_step hB8 hB9
            obtain ⟨fz, ⟨z0, z1, z2⟩, y0, y1, y2⟩ := hO7.room (i := j) (by rw [HLL.out]; exact hlt)
            have HO8 := Lib.hid (hO7.set (i := j) (by rw [HLL.out]; exact hlt) ⟨vk, vn, vs⟩)
            clear hv hO6 hO7 hB8 hB9
            by_cases hve : ve = 0
            · subst hve
              have HEC2 : Hid (ferr (cl.map fun f => (dcv f).2) = ferr ((cl.drop (j + 1)).map fun f => (dcv f).2)) := Lib.hid (by have := HEC.out; rwa [if_pos rfl] at this)
              clear HEC
              go_wp2_with fail
              go_roundw
              case rel => exact ⟨j + 1, _, by go_num, by omega, HLN.out, HEC2.out, HO8.out, below_set3v hB10 (Nat.le_refl _) _ _ _⟩
              case measure => simp [intOf]; omega
            · have hbe : (ve != 0) = true := by simpa using hve
              have HQ5 : Hid (q = ([], ve)) := Lib.hid (by
                have h1 := HEC.out
                rw [if_neg hve] at h1
                rw [← HQ4.out, h1, if_neg hve])
              clear hve HEC
              go_wp2_with fail
              go_ret2
              exact rpost_err HQ5.out (bel_step hW3 (below_set3v hB10 (Nat.le_refl _) _ _ _))
          · have hbe : ((te : Int) != 0) = true := by simp; omega
            have HQ5 : Hid (q = ([], (te : Int))) := Lib.hid (by
              have h0 := HDC.out
              rw [if_neg he] at h0
              have h2 : ve = (te : Int) := congrArg Prod.snd h0
              have h1 := HEC.out
              rw [if_neg (by rw [h2]; omega), h2] at h1
              rw [← HQ4.out, h1, if_neg (by omega)])
            clear he HEC HDC ho6
            go_wp2_with fail
            go_ret2
            exact rpost_err HQ5.out (bel_step hW3 hB8)
        · obtain rfl : j = k := by omega
          have hz : ferr (cl.map fun f => (dcv f).2) = 0 := by rw [HE.out, List.drop_eq_nil_of_le (by rw [HKL.out]; exact Nat.le_refl _)]; rfl
          have hLe : L = cl.map fun f => (dcv f).1 := by
            rw [HL.out, List.take_of_length_le (by rw [HKL.out]; exact Nat.le_refl _)]; simp
          have hq : q = (L, 0) := by rw [hLe, ← HQ4.out, if_pos hz]
          have hll : L.length = j := by rw [hLe]; simp [HKL.out]
          subst hq
          have ho := hO.own hll hn (Nat.le_refl _)
          clear hlt HE HL hLe hz HQ4 hO
          go_wp2_with fail
          go_ret2
          refine ⟨some ⟨w3.heap.size, 0, none⟩, j, ?_, ?_, bel_step hW3 hB⟩
          · show _ = Ending.returned (.tuple #[.slice _ L.length j, .int .i64 0])
            rw [hll]; rfl
          · show World.ownsRow _ _ _ _ (.slice _ L.length j) L.length _
            rw [hll]; exact own_base ho hW3.size
    · have hbe : ((k : Int) != (n : Int)) = true := by simp; omega
      have HQ3 : Hid (q = ([], 4)) := Lib.hid (by have := HQ2.out; rw [if_neg (by rw [HKL.out]; exact fun h => hkn h.1)] at this; exact this.symm)
      clear hkn HQ2 ho2
      go_wp2_with fail
      go_ret2
      exact rpost_err HQ3.out hW2
  · have hbe : ((er : Int) != 0) = true := by simp; omega
    have HQ2 : Hid (q = ([], (er : Int))) := Lib.hid (by have := HQ.out; rw [if_neg he] at this; exact this.symm)
    clear he HQ ho1
    go_wp2_with fail
    go_ret2
    exact rpost_err HQ2.out hW1
end Go.Proofs.YtanfnjlndckhkaaDoor

/- WALK: dataset.sort -/
namespace Go.Proofs.YtanfnjlndckhkaaDoor
open Go.RowKit Plain

def BoxS (W : World) (B : Nat) (x y z : Value) : Prop := W.heap[B]? = some (.cells #[x, y, z] 86 (0, 0))
theorem BoxS.lt {W : World} {B : Nat} {x y z : Value} (h : BoxS W B x y z) : B < W.heap.size := (Array.getElem?_eq_some_iff.1 h).1
theorem BoxS.below {W W' : World} {B : Nat} {x y z : Value} (h : BoxS W B x y z) (hb : Below W.heap.size W W') : BoxS W' B x y z := (hb.block B h.lt).trans h
theorem BoxS.cells {W : World} {B : Nat} {x y z : Value} (h : BoxS W B x y z) : (W.cell? ⟨B, 0, none⟩ = some x ∧ W.cell? ⟨B, 1, none⟩ = some y ∧ W.cell? ⟨B, 2, none⟩ = some z) ∧ W.frozen? ⟨B, 0, none⟩ = false ∧ W.frozen? ⟨B, 1, none⟩ = false ∧ W.frozen? ⟨B, 2, none⟩ = false := by
  refine ⟨⟨?_, ?_, ?_⟩, ?_, ?_, ?_⟩ <;> first | (simp only [World.cell?, show W.heap[B]? = _ from h]; rfl) | (simp [World.frozen?, show W.heap[B]? = _ from h])
/-- what sort answers -/
def SPost (l : List Fld) (w : World) (e : Ending) (w' : World) : Prop :=
  ∃ (N T R : List Fld) (A1 : Option Addr) (c1 : Nat) (A2 : Option Addr) (c2 : Nat) (A3 : Option Addr) (c3 : Nat),
    e = .returned (.tuple #[.agg #[.slice A1 N.length c1, .slice A2 T.length c2, .slice A3 R.length c3], .int .i64 (dsorted l)]) ∧
    (Rd w' w'.heap.size A1 (flc N) ∧ Rd w' w'.heap.size A2 (flc T) ∧ Rd w' w'.heap.size A3 (flc R)) ∧ (dsorted l = 0 → N = wall 2 l ∧ T = wall 3 l ∧ R = wall 4 l) ∧ Below w.heap.size w w'
theorem spost_err {l : List Fld} {w w' : World} {e : Int} (h : dsorted l = e) (he : ¬ e = 0) (hB : Below w.heap.size w w') : SPost l w (.returned (.tuple #[.agg #[.slice none 0 0, .slice none 0 0, .slice none 0 0], .int .i64 e])) w' :=
  ⟨[], [], [], none, 0, none, 0, none, 0, by rw [h]; rfl, ⟨Rd.nil, Rd.nil, Rd.nil⟩, fun h0 => absurd (h.symm.trans h0) he, hB⟩
theorem bel_sa {B R a b c : Nat} {w W : World} {v0 v1 v2 : Value} {o : Obj} (h : Below B w W) (hB : B ≤ R) (hs : B ≤ W.heap.size := by exact Below.size ‹_›) : Below B w ((((W.setCell ⟨R, a, none⟩ v0).setCell ⟨R, b, none⟩ v1).setCell ⟨R, c, none⟩ v2).alloc o) :=
  (below_set3v h hB v0 v1 v2).alloc (by simp; exact hs) o
theorem own_low {W : World} {B i base : Nat} {e : TypeId} {size n : Nat} {v : Value} {xs : List Value} (h : W.ownsRow base e size v n xs) (hB : B < base) (x : Value) : (W.setCell ⟨B, i, none⟩ x).ownsRow base e size v n xs := by
  refine ⟨h.1, ?_⟩
  rcases h.2 with h2 | ⟨g, cap, cur, hv, hg, hh, r⟩
  · exact .inl h2
  · refine .inr ⟨g, cap, cur, hv, hg, ?_, r⟩
    rw [heap_setCell_other W ⟨B, i, none⟩ g x (by simp; omega)]
    exact hh
theorem own_rd2 {base : Nat} {W W' : World} {size n c : Nat} {A : Option Addr} {e : TypeId} {xs : List Value} (h : W.ownsRow base e size (.slice A n c) n xs) (hb : Below W.heap.size W W') : Rd W' W'.heap.size A xs := ((Rd.of_own h).below hb (Nat.le_refl _)).more hb.size
set_option maxRecDepth 100000 in
set_option maxHeartbeats 4000000 in
theorem dsort_any (l : List Fld) (A : Option Addr) (c : Nat) (hl : l.length ≤ 256) (w : World) (hr : Rd w w.heap.size A (flc l)) (hval : ∀ f ∈ l, f.val < 18446744073709551616) :
    Calls Tryd.prog 49 #[.slice A l.length c] w (SPost l w) := by
  have hw : ∀ f : Fld, ∀ W, Calls Tryd.prog 69 #[f.agg] W fun e w' => e = .returned (.int .i64 (dwrong f)) ∧ Below W.heap.size W w' := fun f W => dwrong_any f W
  have h2 := fun W (hB : Below w.heap.size w W) => all_any 2 l A c (by omega) W ((hr.below hB (Nat.le_refl _)).more hB.size)
  have h3 := fun W (hB : Below w.heap.size w W) => all_any 3 l A c (by omega) W ((hr.below hB (Nat.le_refl _)).more hB.size)
  have h4 := fun W (hB : Below w.heap.size w W) => all_any 4 l A c (by omega) W ((hr.below hB (Nat.le_refl _)).more hB.size)
  have hla := fun W (hB : Below w.heap.size w W) => last_any 1 l A c (by omega) W ((hr.below hB (Nat.le_refl _)).more hB.size)
  have hn2 := wall_len 2 l
  have hn3 := wall_len 3 l
  have hn4 := wall_len 4 l
  obtain ⟨n, hn⟩ : ∃ n, l.length = n := ⟨_, rfl⟩
  rw [hn] at hl h2 h3 h4 hla hn2 hn3 hn4 ⊢
  have HN := Lib.hid hn
  have HR := Lib.hid hr
  have HW := Lib.hid hw
  have HA := Lib.hid (And.intro h2 (And.intro h3 (And.intro h4 hla)))
  have HLE := Lib.hid (And.intro hn2 (And.intro hn3 hn4))
  clear hn hr hw h2 h3 h4 hla hn2 hn3 hn4
  have hX0 : BoxS (w.alloc (.cells #[.slice none 0 0, .slice none 0 0, .slice none 0 0] 86)) w.heap.size (.slice none 0 0) (.slice none 0 0) (.slice none 0 0) := World.alloc_heap_new w _
  have hE0 : Below w.heap.size w (w.alloc (.cells #[.slice none 0 0, .slice none 0 0, .slice none 0 0] 86)) := (Below.refl _ w).alloc (Nat.le_refl _) _
  go_enter Tryd.func49, Tryd.ntmps49
  go_wp2_with fail
  go_loopw [12] (fun i wr => ∃ (j : Nat), i = .int .i64 j ∧ j ≤ n ∧ ferr (l.map dwrong) = ferr ((l.drop j).map dwrong) ∧ BoxS wr w.heap.size (.slice none 0 0) (.slice none 0 0) (.slice none 0 0) ∧ Below w.heap.size w wr) (fun i _ => n - (intOf i).toNat)
  case atStart => exact ⟨0, rfl, Nat.zero_le _, rfl, hX0, hE0⟩
  case round =>
    clear hX0 hE0
    obtain ⟨j, rfl, hj, he, hX, hB⟩ := hrel
    have hs := hB.size
    have HE := Lib.hid he
    clear he
    by_cases hlt : j < n
    · obtain ⟨f, hf⟩ : ∃ f, l[j]? = some f := ⟨_, List.getElem?_eq_getElem (by rw [HN.out]; exact hlt)⟩
      obtain ⟨b1, o1, rfl, hb1, g0, g1, g2, g3⟩ := fld_at (HR.out.below hB (Nat.le_refl _)) hf
      have HEC : Hid (ferr (l.map dwrong) = if dwrong f = 0 then ferr ((l.drop (j + 1)).map dwrong) else dwrong f) := Lib.hid (by rw [HE.out, ferr_cons (f := dwrong) hf])
      have hc := HW.out f
      obtain ⟨er, her⟩ : ∃ e, dwrong f = e := ⟨_, rfl⟩
      rw [her] at HEC hc
      obtain ⟨num, kind, val, text⟩ := f
      unfold Fld.agg at hc
      simp only at g0 g1 g2 g3 hc
      have hXa := hX.below ((Below.refl wr.heap.size wr).alloc (Nat.le_refl _) (Obj.cells #[.int .i64 num, .int .i64 kind, .int .u64 val, .string text] 64))
      have hBa := hB.alloc hs (Obj.cells #[.int .i64 num, .int .i64 kind, .int .u64 val, .string text] 64)
      clear hf her HE hX
      go_wp2_with fail
      refine (hc _).mono ?_
      rintro e w1 ⟨rfl, hB1⟩
      have hX1 := hXa.below hB1
      have hB2 := bel_step hBa hB1
      clear hc hXa hBa hB1 g0 g1 g2 g3
      by_cases h0 : er = 0
      · subst h0
        have HEC2 : Hid (ferr (l.map dwrong) = ferr ((l.drop (j + 1)).map dwrong)) := Lib.hid (by have := HEC.out; rwa [if_pos rfl] at this)
        clear HEC
        go_wp2_with fail
        go_roundw
        case rel => exact ⟨j + 1, by go_num, by omega, HEC2.out, hX1, hB2⟩
        case measure => simp [intOf]; omega
      · have hbe : (er != 0) = true := by simpa using h0
        have hds : dsorted l = er := by
          have h1 := HEC.out
          rw [if_neg h0] at h1
          unfold dsorted
          rw [if_neg (by rw [h1]; exact h0), h1]
        have HDS := Lib.hid (And.intro hds h0)
        obtain ⟨⟨x0, x1, x2⟩, y0, y1, y2⟩ := hX1.cells
        clear h0 HEC hds hX1
        go_wp2_with fail
        refine bodyPost_ret (v := .tuple #[.agg #[.slice none 0 0, .slice none 0 0, .slice none 0 0], .int .i64 er]) ?_ rfl (spost_err HDS.out.1 HDS.out.2 (below_set3v hB2 (Nat.le_refl _) _ _ _))
        rw [results_cell_tmp rfl]; go_simp
    · obtain rfl : j = n := by omega
      have hz : ferr (l.map dwrong) = 0 := by rw [HE.out, List.drop_eq_nil_of_le (by rw [HN.out]; exact Nat.le_refl _)]; rfl
      have HDS : Hid (dsorted l = if 16 < (wall 2 l).length ∨ 16 < (wall 3 l).length ∨ 32 < (wall 4 l).length then 6 else if (wall 2 l).length = (wall 3 l).length ∧ (wlast 1 l).1.val = (wall 2 l).length then 0 else 4) := Lib.hid (by unfold dsorted; rw [if_pos hz])
      obtain ⟨h2, h3, h4, hla⟩ := HA.out
      obtain ⟨k2, k3, k4⟩ := HLE.out
      have HW2 : Hid (wall 2 l = wall 2 l ∧ wall 3 l = wall 3 l ∧ wall 4 l = wall 4 l) := Lib.hid ⟨rfl, rfl, rfl⟩
      have hvl : (wlast 1 l).1.val < 18446744073709551616 := by
        unfold wlast
        cases hg : (wall 1 l).getLast? with
        | none => simp
        | some f => exact hval f (wall_mem (List.mem_of_getLast? hg)).1
      obtain ⟨L1, hL1⟩ : ∃ L, wlast 1 l = L := ⟨_, rfl⟩
      obtain ⟨N, hN⟩ : ∃ N, wall 2 l = N := ⟨_, rfl⟩
      obtain ⟨T, hT⟩ : ∃ N, wall 3 l = N := ⟨_, rfl⟩
      obtain ⟨R, hR⟩ : ∃ N, wall 4 l = N := ⟨_, rfl⟩
      rw [hL1] at hla HDS hvl
      rw [hN] at h2 k2 HDS
      rw [hT] at h3 k3 HDS
      rw [hR] at h4 k4 HDS
      have HEQ := Lib.hid (And.intro hN.symm (And.intro hT.symm hR.symm))
      obtain ⟨⟨lnum, lkind, lval, ltext⟩, lok⟩ := L1
      unfold Fld.agg at hla
      simp only at hla HDS hvl
      have HKEEP : Hid (∃ a b c : Nat, a = N.length ∧ b = T.length ∧ c = R.length) := Lib.hid ⟨_, _, _, rfl, rfl, rfl⟩
      obtain ⟨nn, hnn⟩ : ∃ k, N.length = k := ⟨_, rfl⟩
      obtain ⟨nt, hnt⟩ : ∃ k, T.length = k := ⟨_, rfl⟩
      obtain ⟨nr, hnr⟩ : ∃ k, R.length = k := ⟨_, rfl⟩
      rw [hnn] at h2 k2 HDS
      rw [hnt] at h3 k3 HDS
      rw [hnr] at h4 k4 HDS
      have HLN := Lib.hid (And.intro hnn (And.intro hnt hnr))
      clear hL1 hN hT hR hz HE HKEEP hnn hnt hnr HW2 hlt
      go_wp2_with fail
      refine (h2 _ hB).mono ?_
      rintro e w1 ⟨A1, c1, rfl, ho1, hB1⟩
      have hX1 := hX.below hB1
      have hW1 := bel_step hB hB1
      have hB1s := hB1.size
      have hxr := hX.lt
      clear h2 hX hB1
      go_wp2_with fail
      refine (h3 _ hW1).mono ?_
      rintro e w2 ⟨A2, c2, rfl, ho2, hB2⟩
      have hX2 := hX1.below hB2
      have hW2 := bel_step hW1 hB2
      have hp1 := own_kept ho1 hB2 (Nat.le_refl _)
      have hbase2 := hB1s
      clear h3 hX1 ho1
      go_wp2_with fail
      refine (h4 _ hW2).mono ?_
      rintro e w3 ⟨A3, c3, rfl, ho3, hB3⟩
      have hX3 := hX2.below hB3
      have hW3 := bel_step hW2 hB3
      have hq1 := own_kept hp1 hB3 (Nat.le_refl _)
      have hq2 := own_base (own_kept ho2 hB3 (Nat.le_refl _)) hB1s
      have hq3 := own_base ho3 (Nat.le_trans hB1s hB2.size)
      clear h4 hX2 ho2 ho3 hp1 hbase2 hB2 hB3
      have hBs := (Below.refl w3.heap.size w3).alloc (Nat.le_refl _) (Obj.cells #[.slice A1 nn c1, .slice A2 nt c2, .slice A3 nr c3] 86)
      have hS4 : BoxS (w3.alloc (Obj.cells #[.slice A1 nn c1, .slice A2 nt c2, .slice A3 nr c3] 86)) w3.heap.size (.slice A1 nn c1) (.slice A2 nt c2) (.slice A3 nr c3) := World.alloc_heap_new w3 _
      have hX4 := hX3.below hBs
      have hW4 := bel_step hW3 hBs
      have hxl := hX3.lt
      have HRD := Lib.hid (And.intro (hq1.alloc (Obj.cells #[.slice A1 nn c1, .slice A2 nt c2, .slice A3 nr c3] 86)) (And.intro (hq2.alloc (Obj.cells #[.slice A1 nn c1, .slice A2 nt c2, .slice A3 nr c3] 86)) (hq3.alloc (Obj.cells #[.slice A1 nn c1, .slice A2 nt c2, .slice A3 nr c3] 86))))
      clear hX3 hq1 hq2 hq3 hBs
      go_wp2_with fail
      refine (hla _ hW4).mono ?_
      rintro e w5 ⟨rfl, hB5⟩
      have hX5 := hX4.below hB5
      have hS5 := hS4.below hB5
      have hW5 := bel_step hW4 hB5
      obtain ⟨⟨x0, x1, x2⟩, y0, y1, y2⟩ := hX5.cells
      obtain ⟨⟨s0, s1, s2⟩, _, _, _⟩ := hS5.cells
      have hxl5 := hX5.lt
      have hsl5 := hS5.lt
      have hW6 := hW5.alloc hW5.size (Obj.cells #[.int .i64 lnum, .int .i64 lkind, .int .u64 lval, .string ltext] 64)
      have HRD6 : Hid (Below w5.heap.size w5 w5) := Lib.hid (Below.refl _ _)
      have HB5 := Lib.hid hB5
      clear hla hX4 hS4 hW4 hB5 hX5 hS5 HRD6
      by_cases b1 : 16 < nn ∨ 16 < nt
      · by_cases hNT : nn < nt
        · have hd : decide ((16 : Int) < (nt : Int)) = true := decide_eq_true (by omega)
          have hds : dsorted l = 6 := by rw [HDS.out]; rw [if_pos (by omega)]
          have HQ := Lib.hid hds
          clear hds
          go_wp2_with fail
          refine bodyPost_ret (v := .tuple #[.agg #[.slice none 0 0, .slice none 0 0, .slice none 0 0], .int .i64 6]) ?_ rfl (spost_err HQ.out (by decide) (bel_sa hW5 (Nat.le_refl _)))
          rw [results_cell_tmp rfl]; go_simp
        · have hd : decide ((16 : Int) < (nn : Int)) = true := decide_eq_true (by omega)
          have hds : dsorted l = 6 := by rw [HDS.out]; rw [if_pos (by omega)]
          have HQ := Lib.hid hds
          clear hds
          go_wp2_with fail
          refine bodyPost_ret (v := .tuple #[.agg #[.slice none 0 0, .slice none 0 0, .slice none 0 0], .int .i64 6]) ?_ rfl (spost_err HQ.out (by decide) (bel_sa hW5 (Nat.le_refl _)))
          rw [results_cell_tmp rfl]; go_simp
      have hd : decide ((16 : Int) < (nn : Int)) = false := decide_eq_false (by omega)
      have hdt : decide ((16 : Int) < (nt : Int)) = false := decide_eq_false (by omega)
      by_cases b2 : 32 < nr
      · have hd2 : decide ((32 : Int) < (nr : Int)) = true := decide_eq_true (by omega)
        by_cases hNT : nn < nt
        all_goals
          have hds : dsorted l = 6 := by rw [HDS.out]; rw [if_pos (by omega)]
          have HQ := Lib.hid hds
          clear hds
          go_wp2_with fail
          refine bodyPost_ret (v := .tuple #[.agg #[.slice none 0 0, .slice none 0 0, .slice none 0 0], .int .i64 6]) ?_ rfl (spost_err HQ.out (by decide) (bel_sa hW5 (Nat.le_refl _)))
          rw [results_cell_tmp rfl]; go_simp
      have hd2 : decide ((32 : Int) < (nr : Int)) = false := decide_eq_false (by omega)
      by_cases b3 : nn = nt
      rotate_left
      · have hb3 : ((nn : Int) != (nt : Int)) = true := by simp; omega
        by_cases hNT : nn < nt
        all_goals
          have hds : dsorted l = 4 := by rw [HDS.out]; rw [if_neg (by omega), if_neg (fun h => b3 h.1)]
          have HQ := Lib.hid hds
          clear hds
          go_wp2_with fail
          refine bodyPost_ret (v := .tuple #[.agg #[.slice none 0 0, .slice none 0 0, .slice none 0 0], .int .i64 4]) ?_ rfl (spost_err HQ.out (by decide) (bel_sa hW5 (Nat.le_refl _)))
          rw [results_cell_tmp rfl]; go_simp
      subst b3
      clear hdt
      by_cases b4 : lval = nn
      rotate_left
      · have hb4 : ((lval : Int) != (nn : Int)) = true := by simp; omega
        have hds : dsorted l = 4 := by rw [HDS.out]; rw [if_neg (by omega), if_neg (fun h => b4 h.2)]
        have HQ := Lib.hid hds
        clear hds
        go_wp2_with fail
        refine bodyPost_ret (v := .tuple #[.agg #[.slice none 0 0, .slice none 0 0, .slice none 0 0], .int .i64 4]) ?_ rfl (spost_err HQ.out (by decide) (bel_sa hW5 (Nat.le_refl _)))
        rw [results_cell_tmp rfl]; go_simp
      subst b4
      have hds : dsorted l = 0 := by rw [HDS.out, if_neg (by omega), if_pos ⟨rfl, rfl⟩]
      have HQ := Lib.hid hds
      clear hds b1 b2
      go_wp2_with fail
      refine bodyPost_ret (v := .tuple #[.agg #[.slice A1 lval c1, .slice A2 lval c2, .slice A3 nr c3], .int .i64 0]) ?_ rfl ?_
      · rw [results_cell_tmp rfl]; go_simp
      · obtain ⟨e1, e2, e3⟩ := HLN.out
        obtain ⟨r1, r2, r3⟩ := HRD.out
        have hb := HB5.out
        have hk : ∀ (A : Option Addr) (m c : Nat) (xs : List Value), (w3.alloc (Obj.cells #[.slice A1 lval c1, .slice A2 lval c2, .slice A3 nr c3] 86)).ownsRow wr.heap.size 64 4 (.slice A m c) m xs → Rd ((((w5.setCell ⟨w.heap.size, 0, none⟩ (.slice A1 lval c1)).setCell ⟨w.heap.size, 1, none⟩ (.slice A2 lval c2)).setCell ⟨w.heap.size, 2, none⟩ (.slice A3 nr c3)).alloc (Obj.cells #[.int .i64 lnum, .int .i64 lkind, .int .u64 lval, .string ltext] 64)) ((((w5.setCell ⟨w.heap.size, 0, none⟩ (.slice A1 lval c1)).setCell ⟨w.heap.size, 1, none⟩ (.slice A2 lval c2)).setCell ⟨w.heap.size, 2, none⟩ (.slice A3 nr c3)).alloc (Obj.cells #[.int .i64 lnum, .int .i64 lkind, .int .u64 lval, .string ltext] 64)).heap.size A xs := fun A m c xs h =>
          Rd.of_own ((own_low (own_low (own_low (own_kept h hb (Nat.le_refl _)) hxr _) hxr _) hxr _).alloc _)
        exact ⟨N, T, R, A1, c1, A2, c2, A3, c3, by rw [HQ.out, e1, e2, e3], ⟨hk _ _ _ _ r1, hk _ _ _ _ r2, hk _ _ _ _ r3⟩, fun _ => HEQ.out, bel_sa hW5 (Nat.le_refl _)⟩
end Go.Proofs.YtanfnjlndckhkaaDoor

/- append of a list of fields onto a row of the call's own -/
namespace Go.Proofs.YtanfnjlndckhkaaDoor
open Go.RowKit Plain

section
variable {w : World} {ops : Array Oper} {rest : List Oper} {o : Oper} {a : Act} {Q : Exit → Act → World → Prop}
theorem wp_appF {K : Act → World → Prop} (s x : Operand)
    (ho : o.op = .call { callee := .builtin .append, args := #[s, x], argTypes := #[65, 65] })
    {base n c : Nat} {A : Option Addr} {l : List Fld} (hs : a.eval s = .slice A n c)
    (hown : w.ownsRow base 64 4 (.slice A n c) n (flc l)) {B m c2 : Nat} {A2 : Option Addr} {l2 : List Fld} (hx : a.eval x = .slice A2 m c2) (hr : Rd w B A2 (flc l2)) (hl : l2.length = m)
    (N : Nat) (hN : n + m = N) (hbd : N ≤ 1000000) (hbase : base ≤ w.heap.size)
    (h : ∀ A' c' w', w'.ownsRow base 64 4 (.slice A' N c') N (flc (l ++ l2)) → w.grownBy w' (Value.slice A n c).ownBlock → K (a.put o.dst (.slice A' N c')) w') :
    Oper.wp Tryd.prog o a w K Q := by
  subst hN
  refine wp_app s x _ ho elemF hs hown hx hr (by rw [flc_len]; omega) (fld_one l2) (by unfold maxLen; omega) (by omega) hbase fun A' c' w' h1 h2 _ => h A' c' w' ?_ h2
  rw [show flc (l ++ l2) = flc l ++ flc l2 by simp [flc]]
  exact h1
theorem wpList_appF_on (hw : Region.wanted o (yielded ops a.tmps) = true) (s x : Operand)
    (ho : o.op = .call { callee := .builtin .append, args := #[s, x], argTypes := #[65, 65] })
    {base n c : Nat} {A : Option Addr} {l : List Fld} (hs : a.eval s = .slice A n c)
    (hown : w.ownsRow base 64 4 (.slice A n c) n (flc l)) {B m c2 : Nat} {A2 : Option Addr} {l2 : List Fld} (hx : a.eval x = .slice A2 m c2) (hr : Rd w B A2 (flc l2)) (hl : l2.length = m)
    (N : Nat) (hN : n + m = N) (hbd : N ≤ 1000000) (hbase : base ≤ w.heap.size)
    (h : ∀ A' c' w', w'.ownsRow base 64 4 (.slice A' N c') N (flc (l ++ l2)) → w.grownBy w' (Value.slice A n c).ownBlock → wpList Tryd.prog ops Q rest (a.put o.dst (.slice A' N c')) w') :
    wpList Tryd.prog ops Q (o :: rest) a w :=
  wpList_step fun K hK => by
    rw [if_pos hw]
    exact wp_appF s x ho hs hown hx hr hl N hN hbd hbase fun A' c' w' h1 h2 => hK _ _ (h A' c' w' h1 h2)
end
end Go.Proofs.YtanfnjlndckhkaaDoor

/- what the walks of a table's reading lean on: rows of texts, of numbers, of rows; a relation of worlds -/
namespace Go.Proofs.YtanfnjlndckhkaaDoor
open Go.RowKit Plain

def belB (B : Nat) : Rel := ⟨Below B, Below.refl B, Below.trans⟩
theorem elemS : Elem Tryd.prog 22 9 (.string ⟨#[]⟩) 1 16 :=
  ⟨Tryd.underlying22, info_parts (show (Tryd.prog.info? 9).map (fun i => (i.zero, i.size, i.bytes)) = some (some (.string ⟨#[]⟩), 1, 16) by kernel_rfl), rfl, by omega⟩
theorem elemU : Elem Tryd.prog 23 60 (.int .u32 0) 1 4 :=
  ⟨Tryd.underlying23, info_parts (show (Tryd.prog.info? 60).map (fun i => (i.zero, i.size, i.bytes)) = some (some (.int .u32 0), 1, 4) by kernel_rfl), rfl, by omega⟩
theorem elemRR : Elem Tryd.prog 24 45 (.slice none 0 0) 1 24 :=
  ⟨Tryd.underlying24, info_parts (show (Tryd.prog.info? 45).map (fun i => (i.zero, i.size, i.bytes)) = some (some (.slice none 0 0), 1, 24) by kernel_rfl), rfl, by omega⟩
theorem own_sep3 {w w' : World} {base : Nat} {e : TypeId} {size n : Nat} {v : Value} {xs : List Value} {row : Option Nat} (h : w.ownsRow base e size v n xs) (hs : ∀ g, v.ownBlock = some g → row ≠ some g) (hgr : w.grownBy w' row) : w'.ownsRow base e size v n xs := by
  refine ⟨h.1, ?_⟩
  rcases h.2 with h2 | ⟨g3, cap, cur, hv, hgb, hh, r⟩
  · exact .inl h2
  · have hlt := (Array.getElem?_eq_some_iff.1 hh).1
    refine .inr ⟨g3, cap, cur, hv, hgb, ?_, r⟩
    rw [hgr.block g3 hlt (fun e => hs g3 (by rw [hv]; rfl) e.symm)]
    exact hh
/-- rows of two kinds do not share a block -/
theorem own_two {w w' : World} {b1 b2 : Nat} {e1 e2 : TypeId} {s1 s2 n1 n2 : Nat} {v1 v2 : Value} {xs1 xs2 : List Value} (h1 : w.ownsRow b1 e1 s1 v1 n1 xs1) (h2 : w.ownsRow b2 e2 s2 v2 n2 xs2) (hne : e1 ≠ e2) (hg : w.grownBy w' v2.ownBlock) : w'.ownsRow b1 e1 s1 v1 n1 xs1 :=
  own_sep3 h1 (fun g ha hb => by
    obtain ⟨c1, g1⟩ := own_obj h1 ha
    obtain ⟨c2, g2⟩ := own_obj h2 hb
    rw [g1] at g2
    simp at g2
    exact hne g2.2) hg
theorem BoxD.grown {W W' : World} {B base size n c : Nat} {A : Option Addr} {e : TypeId} {xs : List Value} {x y z : Value} (h : BoxD W B x y z) (ho : W.ownsRow base e size (.slice A n c) n xs) (he : e ≠ 26) (hg : W.grownBy W' (Value.slice A n c).ownBlock) : BoxD W' B x y z :=
  (hg.block B h.lt (fun e => own_ne ho he h e.symm)).trans h
theorem BoxD.frozen {W : World} {B : Nat} {x y z : Value} (h : BoxD W B x y z) (i : Nat) : W.frozen? ⟨B, i, none⟩ = false := by simp [World.frozen?, show W.heap[B]? = _ from h]
theorem BoxD.set0 {W : World} {B : Nat} {x y z : Value} (h : BoxD W B x y z) (u : Value) : BoxD (W.setCell ⟨B, 0, none⟩ u) B u y z := heap_setCell_same W B 0 _ _ u h
theorem BoxD.set1 {W : World} {B : Nat} {x y z : Value} (h : BoxD W B x y z) (u : Value) : BoxD (W.setCell ⟨B, 1, none⟩ u) B x u z := heap_setCell_same W B 1 _ _ u h
theorem BoxD.set2 {W : World} {B : Nat} {x y z : Value} (h : BoxD W B x y z) (u : Value) : BoxD (W.setCell ⟨B, 2, none⟩ u) B x y u := heap_setCell_same W B 2 _ _ u h
theorem BoxD.alloc {W : World} {B : Nat} {x y z : Value} (h : BoxD W B x y z) (o : Obj) : BoxD (W.alloc o) B x y z := (Below.heap_alloc W o B h.lt).trans h
/-- what a table's reading answers -/
def DPost (q : DTab × Int) (w : World) (e : Ending) (w' : World) : Prop :=
  ∃ D : DS, e = .returned (.tuple #[D.agg, .int .i64 q.2]) ∧ D.At w' w'.heap.size ∧ DSOk D ∧ D.cols = q.1.cols ∧ D.types = q.1.types ∧ D.plain = q.1.rows ∧ Below w.heap.size w w'
theorem dpost_err {q : DTab × Int} {w w' : World} {e : Int} (h : q = (DTab.none, e)) (hB : Below w.heap.size w w') : DPost q w (.returned (.tuple #[.agg #[.slice none 0 0, .slice none 0 0, .slice none 0 0], .int .i64 e])) w' :=
  ⟨⟨none, 0, [], none, 0, [], none, 0, []⟩, by rw [h]; rfl, ⟨Rd.nil, Rd.nil, Rd.nil, by simp⟩, ⟨by simp, by simp, by simp, by simp, by simp, by simp⟩, by rw [h]; rfl, by rw [h]; rfl, by rw [h]; rfl, hB⟩
end Go.Proofs.YtanfnjlndckhkaaDoor

/- WALKS: props.number, (*found).take -/
namespace Go.Proofs.YtanfnjlndckhkaaDoor
open Go.RowKit Plain

set_option maxRecDepth 100000 in
theorem number_any (f : Fld) (most : Nat) (w : World) :
    Calls Tryd.prog 111 #[f.agg, .int .u64 most] w fun e w' => e = .returned (.tuple #[.int .u64 ((if pnum f most = 0 then f.val else 0 : Nat) : Int), .int .i64 (pnum f most)]) ∧ Below w.heap.size w w' := by
  obtain ⟨num, kind, val, text⟩ := f
  unfold Fld.agg pnum
  simp only
  have hE := (Below.refl w.heap.size w).alloc (Nat.le_refl _) (Obj.cells #[.int .i64 num, .int .i64 kind, .int .u64 val, .string text] 64)
  by_cases hk : kind = 0
  · subst hk
    by_cases hv : most < val
    · have hb : decide (most < val) = true := decide_eq_true hv
      have e : (if (0 : Int) = 0 then (if most < val then (5 : Int) else 0) else 4) = 5 := by rw [if_pos rfl, if_pos hv]
      rw [e]
      clear e hv
      go_enter Tryd.func111, Tryd.ntmps111
      go_wp2_with fail
      go_ret2
      exact ⟨rfl, hE⟩
    · have hb : decide (most < val) = false := decide_eq_false hv
      have e : (if (0 : Int) = 0 then (if most < val then (5 : Int) else 0) else 4) = 0 := by rw [if_pos rfl, if_neg hv]
      rw [e]
      clear e hv
      go_enter Tryd.func111, Tryd.ntmps111
      go_wp2_with fail
      go_ret2
      exact ⟨rfl, hE⟩
  · have hb : (kind != 0) = true := by simpa using hk
    rw [if_neg hk]
    clear hk
    go_enter Tryd.func111, Tryd.ntmps111
    go_wp2_with fail
    go_ret2
    exact ⟨rfl, hE⟩
/-- the box of a property on its way -/
def FoundAt (W : World) (B : Nat) (key : ByteArray) (s : PSt) : Prop := W.heap[B]? = some (.cells #[.string key, .int .u32 s.type, .bool s.null, .int .i64 s.v.k, .int .u64 s.v.n, .string s.v.s, .slice none 0 0, .string s.set] 141 (0, 0))
section
variable {W W' : World} {B : Nat} {key : ByteArray} {s : PSt}
theorem FoundAt.lt (h : FoundAt W B key s) : B < W.heap.size := (Array.getElem?_eq_some_iff.1 h).1
theorem FoundAt.below (h : FoundAt W B key s) (hb : Below W.heap.size W W') : FoundAt W' B key s := (hb.block B h.lt).trans h
theorem FoundAt.cells (h : FoundAt W B key s) : W.cell? ⟨B, 0, none⟩ = some (.string key) ∧ W.cell? ⟨B, 1, none⟩ = some (.int .u32 s.type) ∧ W.cell? ⟨B, 2, none⟩ = some (.bool s.null) ∧ W.cell? ⟨B, 3, none⟩ = some (.int .i64 s.v.k) ∧ W.cell? ⟨B, 4, none⟩ = some (.int .u64 s.v.n) ∧ W.cell? ⟨B, 5, none⟩ = some (.string s.v.s) ∧ W.cell? ⟨B, 6, none⟩ = some (.slice none 0 0) ∧ W.cell? ⟨B, 7, none⟩ = some (.string s.set) := by
  refine ⟨?_, ?_, ?_, ?_, ?_, ?_, ?_, ?_⟩ <;> (simp only [World.cell?, show W.heap[B]? = _ from h]; rfl)
theorem FoundAt.frozen (h : FoundAt W B key s) (i : Nat) : W.frozen? ⟨B, i, none⟩ = false := by simp [World.frozen?, show W.heap[B]? = _ from h]
theorem FoundAt.set1 (h : FoundAt W B key s) (t : Nat) : FoundAt (W.setCell ⟨B, 1, none⟩ (.int .u32 t)) B key ⟨t, s.null, s.v, s.set⟩ := heap_setCell_same W B 1 _ _ _ h
theorem FoundAt.set2 (h : FoundAt W B key s) (t : Bool) : FoundAt (W.setCell ⟨B, 2, none⟩ (.bool t)) B key ⟨s.type, t, s.v, s.set⟩ := heap_setCell_same W B 2 _ _ _ h
theorem FoundAt.setV (h : FoundAt W B key s) (v : VV) : FoundAt (((W.setCell ⟨B, 3, none⟩ (.int .i64 v.k)).setCell ⟨B, 4, none⟩ (.int .u64 v.n)).setCell ⟨B, 5, none⟩ (.string v.s)) B key ⟨s.type, s.null, v, s.set⟩ :=
  heap_setCell_same _ B 5 _ _ _ (heap_setCell_same _ B 4 _ _ _ (heap_setCell_same W B 3 _ _ _ h))
theorem FoundAt.setT (h : FoundAt W B key s) (t : ByteArray) : FoundAt (W.setCell ⟨B, 7, none⟩ (.string t)) B key ⟨s.type, s.null, s.v, t⟩ := heap_setCell_same W B 7 _ _ _ h
theorem FoundAt.alloc (h : FoundAt W B key s) (o : Obj) : FoundAt (W.alloc o) B key s := (Below.heap_alloc W o B h.lt).trans h
end
set_option maxRecDepth 100000 in
set_option maxHeartbeats 4000000 in
theorem take_any (f : Fld) (B : Nat) (key : ByteArray) (s : PSt) (hf : FldRd f) (w : World) (hB : FoundAt w B key s) (hK : Kinds w) :
    Calls Tryd.prog 90 #[.pointer (some ⟨B, 0, none⟩), f.agg] w fun e w' => e = .returned (.int .i64 (ptake f s).2) ∧ ((ptake f s).2 = 0 → FoundAt w' B key (ptake f s).1) ∧ Below B w w' := by
  obtain ⟨q, hq⟩ : ∃ q, ptake f s = q := ⟨_, rfl⟩
  rw [hq]
  unfold ptake at hq
  have hE0 := (Below.refl w.heap.size w).alloc (Nat.le_refl _) (Obj.cells #[.int .i64 f.num, .int .i64 f.kind, .int .u64 f.val, .string f.text] 64)
  have hF0 := hB.alloc (Obj.cells #[.int .i64 f.num, .int .i64 f.kind, .int .u64 f.val, .string f.text] 64)
  have hlt := hB.lt
  have hX0 : (w.alloc (Obj.cells #[.int .i64 f.num, .int .i64 f.kind, .int .u64 f.val, .string f.text] 64)).heap[w.heap.size]? = some (.cells #[.int .i64 f.num, .int .i64 f.kind, .int .u64 f.val, .string f.text] 64 (0, 0)) := World.alloc_heap_new w _
  have hl0 : w.heap.size < (w.alloc (Obj.cells #[.int .i64 f.num, .int .i64 f.kind, .int .u64 f.val, .string f.text] 64)).heap.size := by simp
  have hK0 := hK.below hE0 hK.pos
  by_cases n1 : f.num = 1
  · rw [if_pos n1] at hq
    have hnu := fun W => number_any f 4294967295 W
    have hok := fun h : pnum f 4294967295 = 0 => (pnum_ok h).2
    obtain ⟨num, kind, val, text⟩ := f
    unfold Fld.agg at hnu ⊢
    simp only at n1 hnu hok hE0 hF0 hX0 hl0 hK0 hq ⊢
    subst n1
    obtain ⟨pe, hpe⟩ : ∃ e, pnum ⟨1, kind, val, text⟩ 4294967295 = e := ⟨_, rfl⟩
    rw [hpe] at hnu hok hq
    obtain ⟨nv, hnv⟩ : ∃ n, (if pe = 0 then val else 0 : Nat) = n := ⟨_, rfl⟩
    rw [hnv] at hnu hq
    have hnb : nv < 4294967296 := by
      rw [← hnv]
      by_cases h0 : pe = 0
      · rw [if_pos h0]; have := hok h0; omega
      · rw [if_neg h0]; omega
    subst hq
    clear hpe hnv hok hB hK0 hX0 hl0
    go_enter Tryd.func90, Tryd.ntmps90
    go_wp2_with fail
    refine (hnu _).mono ?_
    rintro e w1 ⟨rfl, hB1⟩
    have hF1 := hF0.below hB1
    have hW1 := bel_step' hE0 (Nat.le_refl _) hB1
    obtain ⟨c0, c1, c2, c3, c4, c5, c6, c7⟩ := hF1.cells
    have y1 := hF1.frozen 1
    clear hnu hB1 hE0 hF0
    go_wp2_with fail
    go_ret
    exact ⟨rfl, fun _ => hF1.set1 nv, (hW1.mono (Nat.le_of_lt hlt)).setCell (p := ⟨B, 1, none⟩) (Nat.le_refl _) _⟩
  rw [if_neg n1] at hq
  have b1 : (f.num == 1) = false := by simpa using n1
  by_cases n2 : f.num = 2
  · rw [if_pos n2] at hq
    have hnu := fun W => number_any f 1 W
    obtain ⟨num, kind, val, text⟩ := f
    unfold Fld.agg at hnu ⊢
    simp only at n2 hnu hE0 hF0 hX0 hl0 hK0 hq ⊢
    subst n2
    obtain ⟨pe, hpe⟩ : ∃ e, pnum ⟨2, kind, val, text⟩ 1 = e := ⟨_, rfl⟩
    rw [hpe] at hnu hq
    obtain ⟨nv, hnv⟩ : ∃ n, (if pe = 0 then val else 0 : Nat) = n := ⟨_, rfl⟩
    rw [hnv] at hnu
    have hbb : (if pe = 0 then val == 1 else false) = ((nv : Int) == 1) := by
      rw [← hnv]
      by_cases h0 : pe = 0
      · rw [if_pos h0, if_pos h0, Bool.eq_iff_iff]; simp; omega
      · rw [if_neg h0, if_neg h0]; rfl
    rw [hbb] at hq
    subst hq
    clear hpe hnv hbb hB hK0 hX0 hl0 b1 n1
    go_enter Tryd.func90, Tryd.ntmps90
    go_wp2_with fail
    refine (hnu _).mono ?_
    rintro e w1 ⟨rfl, hB1⟩
    have hF1 := hF0.below hB1
    have hW1 := bel_step' hE0 (Nat.le_refl _) hB1
    obtain ⟨c0, c1, c2, c3, c4, c5, c6, c7⟩ := hF1.cells
    have y1 := hF1.frozen 2
    clear hnu hB1 hE0 hF0
    go_wp2_with fail
    go_ret
    exact ⟨rfl, fun _ => hF1.set2 _, (hW1.mono (Nat.le_of_lt hlt)).setCell (p := ⟨B, 2, none⟩) (Nat.le_refl _) _⟩
  rw [if_neg n2] at hq
  have b2 : (f.num == 2) = false := by simpa using n2
  by_cases n9 : f.num = 9
  · rw [if_pos n9] at hq
    obtain ⟨num, kind, val, text⟩ := f
    unfold Fld.agg
    simp only at n9 hE0 hF0 hX0 hl0 hK0 hq ⊢
    subst n9
    by_cases hk : kind = 2
    rotate_left
    · rw [if_neg hk] at hq
      have hb : (kind != 2) = true := by simpa using hk
      subst hq
      clear hk hB hK0 hX0 hl0 b1 n1 b2 n2
      go_enter Tryd.func90, Tryd.ntmps90
      go_wp2_with fail
      go_ret
      exact ⟨rfl, fun h => absurd h (by simp), hE0.mono (Nat.le_of_lt hlt)⟩
    · rw [if_pos hk] at hq
      subst hk
      subst hq
      clear hB hK0 b1 n1 b2 n2
      go_enter Tryd.func90, Tryd.ntmps90
      go_wp2_with fail
      have hF1 : FoundAt (w.alloc (Obj.cells #[.int .i64 9, .int .i64 2, .int .u64 val, .string text] 64)).drew B key s := hF0
      have hE2 : Below B w (w.alloc (Obj.cells #[.int .i64 9, .int .i64 2, .int .u64 val, .string text] 64)).drew := (hE0.mono (Nat.le_of_lt hlt)).drew
      have hX1 : (w.alloc (Obj.cells #[.int .i64 9, .int .i64 2, .int .u64 val, .string text] 64)).drew.heap[w.heap.size]? = some (.cells #[.int .i64 9, .int .i64 2, .int .u64 val, .string text] 64 (0, 0)) := hX0
      refine wp_region_LG (belB B) 12 [0, 1, 2, 3, 5, 6, 7, 4, 8, 9, 10, 11] rfl (by decide) (by decide) (by kernel_rfl) ?_
      clear hF0 hE0 hX0 hl0
      generalize (w.alloc (Obj.cells #[.int .i64 9, .int .i64 2, .int .u64 val, .string text] 64)).drew = W2 at *
      have t3 : W2.cell? ⟨w.heap.size, 3, none⟩ = some (.string text) := by simp only [World.cell?, hX1]; rfl
      have hne : B ≠ w.heap.size := Nat.ne_of_lt hlt
      obtain ⟨c0, c1, c2, c3, c4, c5, c6, c7⟩ := hF1.cells
      have y3 := hF1.frozen 3
      have y4 := hF1.frozen 4
      have y5 := hF1.frozen 5
      have y7b := hF1.frozen 7
      have hF2 : FoundAt (((W2.setCell ⟨B, 3, none⟩ (.int .i64 8)).setCell ⟨B, 4, none⟩ (.int .u64 0)).setCell ⟨B, 5, none⟩ (.string ⟨#[]⟩)) B key ⟨s.type, s.null, ⟨8, 0, ⟨#[]⟩⟩, s.set⟩ := hF1.setV ⟨8, 0, ⟨#[]⟩⟩
      have hF3 := hF2.setT text
      have hst := below_set3v (a := 3) (b := 4) (c := 5) (Below.refl B W2) (Nat.le_refl B) (.int .i64 8) (.int .u64 0) (.string ⟨#[]⟩)
      have t3b : (((W2.setCell ⟨B, 3, none⟩ (.int .i64 8)).setCell ⟨B, 4, none⟩ (.int .u64 0)).setCell ⟨B, 5, none⟩ (.string ⟨#[]⟩)).cell? ⟨w.heap.size, 3, none⟩ = some (.string text) := by
        rw [World.cell?_setCell_other _ _ _ _ (fun e => hne (by injection e)), World.cell?_setCell_other _ _ _ _ (fun e => hne (by injection e)), World.cell?_setCell_other _ _ _ _ (fun e => hne (by injection e))]; exact t3
      obtain ⟨_, _, _, _, _, _, _, d7⟩ := hF2.cells
      have y7 := hF2.frozen 7
      have hst2 : Below B (((W2.setCell ⟨B, 3, none⟩ (.int .i64 8)).setCell ⟨B, 4, none⟩ (.int .u64 0)).setCell ⟨B, 5, none⟩ (.string ⟨#[]⟩)) ((((W2.setCell ⟨B, 3, none⟩ (.int .i64 8)).setCell ⟨B, 4, none⟩ (.int .u64 0)).setCell ⟨B, 5, none⟩ (.string ⟨#[]⟩)).setCell ⟨B, 7, none⟩ (.string text)) := (Below.refl B _).setCell (p := ⟨B, 7, none⟩) (Nat.le_refl _) _
      simp only [List.filterMap_cons, List.filterMap_nil, List.getElem?_cons_zero, List.getElem?_cons_succ, Option.map_some]
      refine wpL_takeG _ (v := ?_) (by kernel_rfl) (by kernel_rfl) (by kernel_rfl) (fun _ _ _ h => h) (by rfl) (fun u hu => ?_) ?_
      rotate_left
      focus
        go_simp
        try with_reducible rfl
      simp only [Act.put, List.setIfInBounds_toArray, List.set_cons_zero, List.set_cons_succ]
      refine wpL_takeG _ (v := ?_) (by kernel_rfl) (by kernel_rfl) (by kernel_rfl) (fun _ _ _ h => h) (by rfl) (fun u hu => ?_) ?_
      rotate_left
      focus
        go_simp
        try with_reducible rfl
      simp only [Act.put, List.setIfInBounds_toArray, List.set_cons_zero, List.set_cons_succ]
      refine wpL_takeG _ (v := ?_) (by kernel_rfl) (by kernel_rfl) (by kernel_rfl) (fun _ _ _ h => h) (by rfl) (fun u hu => ?_) ?_
      rotate_left
      focus
        go_simp
        try with_reducible rfl
      simp only [Act.put, List.setIfInBounds_toArray, List.set_cons_zero, List.set_cons_succ]
      refine wpL_takeG _ (v := ?_) (by kernel_rfl) (by kernel_rfl) (by kernel_rfl) (fun _ _ _ h => h) (by rfl) (fun u hu => ?_) ?_
      rotate_left
      focus
        go_simp
        try with_reducible rfl
      simp only [Act.put, List.setIfInBounds_toArray, List.set_cons_zero, List.set_cons_succ]
      refine wpL_takeG _ (v := ?_) (by kernel_rfl) (by kernel_rfl) (by kernel_rfl) (fun _ _ _ h => h) (by rfl) (fun u hu => ?_) ?_
      rotate_left
      focus
        go_simp
        try with_reducible rfl
      simp only [Act.put, List.setIfInBounds_toArray, List.set_cons_zero, List.set_cons_succ]
      refine wpL_takeG _ (v := ?_) (by kernel_rfl) (by kernel_rfl) (by kernel_rfl) (fun _ _ _ h => h) (by rfl) (fun u hu => ?_) ?_
      rotate_left
      focus
        go_simp
        try with_reducible rfl
      simp only [Act.put, List.setIfInBounds_toArray, List.set_cons_zero, List.set_cons_succ]
      refine wpL_takeG _ (v := ?_) (by kernel_rfl) (by kernel_rfl) (by kernel_rfl) (fun _ _ _ h => h) (by rfl) (fun u hu => ?_) ?_
      rotate_left
      focus
        go_simp
        try with_reducible rfl
      simp only [Act.put, List.setIfInBounds_toArray, List.set_cons_zero, List.set_cons_succ]
      refine wpL_do2G _ (by kernel_rfl) (by rfl) (by rfl) (fun K hK => ?_) (fun K hK => ?_)
      · go_simp
        refine hK _ _ (Below.refl _ _) ?_
        clear hK K
        refine wpL_doG _ (by kernel_rfl) (by rfl) (fun K hK => ?_)
        go_simp
        refine hK _ _ hst ?_
        clear hK K
        refine wpL_takeG _ (v := ?_) (by kernel_rfl) (by kernel_rfl) (by kernel_rfl) (fun _ _ _ h => h) (by rfl) (fun u hu => ?_) ?_
        rotate_left
        focus
          go_simp
          try with_reducible rfl
        simp only [Act.put, List.setIfInBounds_toArray, List.set_cons_zero, List.set_cons_succ]
        refine wpL_takeG _ (v := ?_) (by kernel_rfl) (by kernel_rfl) (by kernel_rfl) (fun _ _ _ h => h) (by rfl) (fun u hu => ?_) ?_
        rotate_left
        focus
          go_simp
          try with_reducible rfl
        simp only [Act.put, List.setIfInBounds_toArray, List.set_cons_zero, List.set_cons_succ]
        refine wpL_doG _ (by kernel_rfl) (by rfl) (fun K hK => ?_)
        go_simp
        refine hK _ _ hst2 ?_
        clear hK K
        refine wpL_doneG _ (by kernel_rfl) ?_
        go_wp2_with fail
        go_ret
        exact ⟨rfl, by first | exact hF3 | exact fun _ => hF3, (hE2.trans hst).trans hst2⟩
      · go_simp
        refine hK _ _ hst ?_
        clear hK K
        refine wpL_doG _ (by kernel_rfl) (by rfl) (fun K hK => ?_)
        go_simp
        refine hK _ _ (Below.refl _ _) ?_
        clear hK K
        refine wpL_takeG _ (v := ?_) (by kernel_rfl) (by kernel_rfl) (by kernel_rfl) (fun _ _ _ h => h) (by rfl) (fun u hu => ?_) ?_
        rotate_left
        focus
          go_simp
          try with_reducible rfl
        simp only [Act.put, List.setIfInBounds_toArray, List.set_cons_zero, List.set_cons_succ]
        refine wpL_takeG _ (v := ?_) (by kernel_rfl) (by kernel_rfl) (by kernel_rfl) (fun _ _ _ h => h) (by rfl) (fun u hu => ?_) ?_
        rotate_left
        focus
          go_simp
          try with_reducible rfl
        simp only [Act.put, List.setIfInBounds_toArray, List.set_cons_zero, List.set_cons_succ]
        refine wpL_doG _ (by kernel_rfl) (by rfl) (fun K hK => ?_)
        go_simp
        refine hK _ _ hst2 ?_
        clear hK K
        refine wpL_doneG _ (by kernel_rfl) ?_
        go_wp2_with fail
        go_ret
        exact ⟨rfl, by first | exact hF3 | exact fun _ => hF3, (hE2.trans hst).trans hst2⟩
  rw [if_neg n9] at hq
  have b9 : (f.num == 9) = false := by simpa using n9
  by_cases n38 : 3 ≤ f.num ∧ f.num ≤ 8
  · rw [if_pos n38] at hq
    have hn3 : decide (3 ≤ f.num) = true := decide_eq_true n38.1
    have hn8 : decide (f.num ≤ 8) = true := decide_eq_true n38.2
    have hv := fun W hr hk => vof_any [f] (some ⟨w.heap.size + 1, 0, none⟩) 1 3 false (by simp) (fun g hg => by obtain rfl : g = f := (by simpa using hg); exact ⟨by have := hf.1; omega, by have := hf.2.1; omega, hf.2.2.2.2.1⟩) W hr hk
    have hr1 : ∀ W : World, Rd (W.alloc (Obj.cells #[.int .i64 f.num, .int .i64 f.kind, .int .u64 f.val, .string f.text] 64)) (W.heap.size + 1) (some ⟨W.heap.size, 0, none⟩) (flc [f]) := fun W => Rd.cells W #[.int .i64 f.num, .int .i64 f.kind, .int .u64 f.val, .string f.text] 64
    obtain ⟨⟨⟨vk, vn, vs⟩, ve⟩, hvq⟩ : ∃ d, vof 3 false [f] = d := ⟨_, rfl⟩
    rw [hvq] at hv hq
    unfold VV.cells at hv
    simp only [List.length_cons, List.length_nil] at hv hq
    have hr2 := hr1 (w.alloc (Obj.cells #[.int .i64 f.num, .int .i64 f.kind, .int .u64 f.val, .string f.text] 64))
    obtain ⟨num, kind, val, text⟩ := f
    unfold Fld.agg
    simp only at hE0 hF0 hX0 hl0 hK0 hr2 b1 b2 b9 hn3 hn8 hv ⊢
    subst hq
    have hF1 := hF0.alloc (Obj.cells #[.int .i64 num, .int .i64 kind, .int .u64 val, .string text] 64)
    have hE1 := hE0.alloc hE0.size (Obj.cells #[.int .i64 num, .int .i64 kind, .int .u64 val, .string text] 64)
    have hcall := hv ((w.alloc (Obj.cells #[.int .i64 num, .int .i64 kind, .int .u64 val, .string text] 64)).alloc (Obj.cells #[.int .i64 num, .int .i64 kind, .int .u64 val, .string text] 64)) (by simpa using hr2) (hK.below hE1 hK.pos)
    clear n1 n2 n9 n38 hvq hv hr1 hr2 hB hK0 hE0 hF0 hX0 hl0 hK
    go_enter Tryd.func90, Tryd.ntmps90
    go_wp2_with fail
    refine hcall.mono ?_
    rintro e w1 ⟨rfl, hB1⟩
    have hF2 := hF1.below hB1
    have hW1 := bel_step hE1 hB1
    obtain ⟨c0, c1, c2, c3, c4, c5, c6, c7⟩ := hF2.cells
    have y3 := hF2.frozen 3
    have y4 := hF2.frozen 4
    have y5 := hF2.frozen 5
    clear hcall hB1 hE1 hF1
    go_wp2_with fail
    go_ret
    exact ⟨rfl, fun _ => hF2.setV ⟨vk, vn, vs⟩, below_set3v (hW1.mono (Nat.le_of_lt hlt)) (Nat.le_refl _) _ _ _⟩
  · rw [if_neg n38] at hq
    have h10 : 9 < f.num := by have := hf.1; omega
    have hn3 : decide (3 ≤ f.num) = true := decide_eq_true (by omega)
    have hn8 : decide (f.num ≤ 8) = false := decide_eq_false (by omega)
    obtain ⟨num, kind, val, text⟩ := f
    unfold Fld.agg
    simp only at hE0 hF0 b1 b2 b9 hn3 hn8 ⊢
    subst hq
    clear n1 n2 n9 n38 h10 hf hK0 hX0 hl0 hB
    go_enter Tryd.func90, Tryd.ntmps90
    go_wp2_with fail
    go_ret
    exact ⟨rfl, fun _ => hF0, hE0.mono (Nat.le_of_lt hlt)⟩
end Go.Proofs.YtanfnjlndckhkaaDoor

/- WALKS: props.badly, ahead, text, laid -/
namespace Go.Proofs.YtanfnjlndckhkaaDoor
open Go.RowKit Plain

def BoxP (W : World) (B : Nat) (p : Pn) : Prop := W.heap[B]? = some (.cells #[.string p.key, .int .u32 p.type, .bool p.null, .int .i64 p.v.k, .int .u64 p.v.n, .string p.v.s, .slice p.adr p.sub.list.length p.cap] 75 (0, 0))
theorem BoxP.lt {W : World} {B : Nat} {p : Pn} (h : BoxP W B p) : B < W.heap.size := (Array.getElem?_eq_some_iff.1 h).1
theorem BoxP.below {W W' : World} {B : Nat} {p : Pn} (h : BoxP W B p) (hb : Below W.heap.size W W') : BoxP W' B p := (hb.block B h.lt).trans h
theorem BoxP.at {W : World} {B : Nat} {p : Pn} (h : BoxP W B p) : PropAt W B 0 p := by
  refine ⟨?_, ?_, ?_, ?_, ?_, ?_, ?_⟩ <;> (simp only [World.cell?, show W.heap[B]? = _ from h]; rfl)
theorem bad_iff (v : VV) (n : Nat) : pbad v n = if v.k = 8 then !(v.n == 0 && v.s.toList.isEmpty) else decide (0 < n) := rfl
set_option maxRecDepth 100000 in
set_option maxHeartbeats 1000000 in
theorem badly_any (p : Pn) (w : World) : Calls Tryd.prog 88 #[p.agg] w fun e w' => e = .returned (.bool (pbad p.v p.sub.list.length)) ∧ Below w.heap.size w w' := by
  obtain ⟨key, type, null, ⟨k, n, s⟩, adr, cap, sub⟩ := p
  unfold Pn.agg
  simp only
  generalize sub.list.length = L
  obtain ⟨q, hq⟩ : ∃ q, pbad ⟨k, n, s⟩ L = q := ⟨_, rfl⟩
  rw [hq]
  unfold pbad at hq
  simp only at hq
  have hE := (Below.refl w.heap.size w).alloc (Nat.le_refl _) (Obj.cells #[.string key, .int .u32 type, .bool null, .int .i64 k, .int .u64 n, .string s, .slice adr L cap] 75)
  by_cases hk : k = 8
  · subst hk
    rw [if_pos rfl] at hq
    by_cases hn : n = 0
    · subst hn
      have hs : q = !s.toList.isEmpty := by rw [← hq]; simp
      clear hq
      have HS := Lib.hid hs
      clear hs
      go_enter Tryd.func88, Tryd.ntmps88
      go_wp2_with fail
      go_ret
      exact ⟨by rw [HS.out]; rfl, hE⟩
    · have hb : ((n : Int) != 0) = true := by simp; omega
      have hs : q = true := by rw [← hq]; simp [hn]
      clear hq hn
      subst hs
      go_enter Tryd.func88, Tryd.ntmps88
      go_wp2_with fail
      go_ret
      exact ⟨rfl, hE⟩
  · rw [if_neg hk] at hq
    have hb : ((k : Int) == 8) = false := by simpa using hk
    have HQ := Lib.hid hq
    clear hq hk
    go_enter Tryd.func88, Tryd.ntmps88
    go_wp2_with fail
    go_ret
    exact ⟨by rw [← HQ.out]; simp, hE⟩
set_option maxRecDepth 100000 in
set_option maxHeartbeats 1000000 in
theorem ptext_any (num : Int) (s : ByteArray) (w : World) :
    Calls Tryd.prog 62 #[.int .i64 num, .string s] w fun e w' => e = .returned (.agg (Fld.cells ⟨num, 2, 0, s⟩).toArray) ∧ Below w.heap.size w w' := by
  unfold Fld.cells
  go_enter Tryd.func62, Tryd.ntmps62
  go_wp2_with fail
  refine bodyPost_ret (v := .agg #[.int .i64 num, .int .i64 2, .int .u64 0, .string s]) ?_ rfl ⟨rfl, (Below.refl _ w).alloc (Nat.le_refl _) _⟩
  rw [results_cell1 rfl]; go_simp
set_option maxRecDepth 100000 in
theorem playd_any (l : List Fld) (A : Option Addr) (c : Nat) (hl : l.length ≤ 9223372036854775807) (hwf : ∀ f ∈ l, FldOk f) (w : World) (hr : Rd w w.heap.size A (flc l)) :
    Calls Tryd.prog 63 #[.slice A l.length c] w (BPost (wput l) w) := by
  have hput := puts_any l A c hl hwf w hr
  have hput2 : Calls Tryd.prog 36 #[.slice A l.length c] w (BPost (wput l) w) := hput
  obtain ⟨q, hq⟩ : ∃ q, wput l = q := ⟨_, rfl⟩
  rw [hq] at hput2 ⊢
  clear hput hl hwf hr hq
  generalize l.length = n at *
  go_enter Tryd.func63, Tryd.ntmps63
  go_wp2_with fail
  refine hput2.mono ?_
  rintro e w1 ⟨A1, c1, rfl, ho, hB⟩
  go_wp2_with fail
  go_ret2
  exact ⟨A1, c1, rfl, ho, hB⟩
set_option maxRecDepth 100000 in
set_option maxHeartbeats 1000000 in
theorem ahead_any (p : Pn) (ht32 : p.type < 4294967296) (w : World) :
    Calls Tryd.prog 89 #[p.agg] w fun e w' => ∃ A c, e = .returned (.slice A (pahead p.type p.null).length c) ∧ w'.ownsRow w.heap.size 64 4 (.slice A (pahead p.type p.null).length c) (pahead p.type p.null).length (flc (pahead p.type p.null)) ∧ Below w.heap.size w w' := by
  obtain ⟨key, type, null, ⟨k, n, s⟩, adr, cap, sub⟩ := p
  unfold Pn.agg
  simp only at ht32 ⊢
  generalize sub.list.length = L
  obtain ⟨H, hH⟩ : ∃ H, pahead type null = H := ⟨_, rfl⟩
  rw [hH]
  unfold pahead at hH
  have hE0 := (Below.refl w.heap.size w).alloc (Nat.le_refl _) (Obj.cells #[.string key, .int .u32 type, .bool null, .int .i64 k, .int .u64 n, .string s, .slice adr L cap] 75)
  have hnil := World.ownsRow_nil (w.alloc (Obj.cells #[.string key, .int .u32 type, .bool null, .int .i64 k, .int .u64 n, .string s, .slice adr L cap] 75)) w.heap.size 64 4
  have hs0 := hE0.size
  by_cases ht : type = 0
  · subst ht
    rw [if_pos rfl, List.nil_append] at hH
    cases null
    · rw [if_neg (by simp)] at hH
      subst hH
      go_enter Tryd.func89, Tryd.ntmps89
      go_wp2_with fail
      go_ret
      exact ⟨none, 0, rfl, World.ownsRow_nil _ _ _ _, hE0⟩
    · rw [if_pos rfl] at hH
      subst hH
      go_enter Tryd.func89, Tryd.ntmps89
      go_wp2_with (at_builtin; refine wpList_appF1 (l := []) rfl _ _ rfl rfl hnil ⟨2, 0, 1, ⟨#[]⟩⟩ rfl (by simp) (by omega) hs0 ?_; intro A5 c5 w5 ho5 hg5; have hB5 := own_grown hE0 hnil hs0 hg5; clear hg5 hnil)
      go_ret
      exact ⟨A5, c5, rfl, ho5, hB5⟩
  · have hb : ((type : Int) != 0) = true := by simp; omega
    rw [if_neg ht] at hH
    clear ht
    have hc2 : (w.alloc (Obj.cells #[.string key, .int .u32 type, .bool null, .int .i64 k, .int .u64 n, .string s, .slice adr L cap] 75)).cell? ⟨w.heap.size, 2, none⟩ = some (.bool null) := by rw [World.cell?_alloc_at _ _ _ _ rfl]; rfl
    have HH := Lib.hid hH
    have hlt : w.heap.size < (w.alloc (Obj.cells #[.string key, .int .u32 type, .bool null, .int .i64 k, .int .u64 n, .string s, .slice adr L cap] 75)).heap.size := by simp
    have hB0 := Below.refl (w.alloc (Obj.cells #[.string key, .int .u32 type, .bool null, .int .i64 k, .int .u64 n, .string s, .slice adr L cap] 75)).heap.size (w.alloc (Obj.cells #[.string key, .int .u32 type, .bool null, .int .i64 k, .int .u64 n, .string s, .slice adr L cap] 75))
    have hnil2 := World.ownsRow_nil (w.alloc (Obj.cells #[.string key, .int .u32 type, .bool null, .int .i64 k, .int .u64 n, .string s, .slice adr L cap] 75)) (w.alloc (Obj.cells #[.string key, .int .u32 type, .bool null, .int .i64 k, .int .u64 n, .string s, .slice adr L cap] 75)).heap.size 64 4
    clear hH hnil
    cases null
    · go_enter Tryd.func89, Tryd.ntmps89
      go_wp2_with (at_builtin; refine wpList_appF1 (l := []) rfl _ _ rfl rfl hnil2 ⟨1, 0, type, ⟨#[]⟩⟩ rfl (by simp) (by omega) (Nat.le_refl _) ?_; intro A5 c5 w5 ho5 hg5; have hB5 := own_grown hB0 hnil2 (Nat.le_refl _) hg5; replace hc2 := (hB5.cell (p := ⟨w.heap.size, 2, none⟩) hlt).trans hc2; clear hg5 hnil2)
      go_ret
      obtain rfl := HH.out
      exact ⟨A5, c5, rfl, own_base ho5 hs0, hE0.trans (hB5.mono hs0)⟩
    · go_enter Tryd.func89, Tryd.ntmps89
      go_wp2_with (at_builtin; first
        | (refine wpList_appF1 (l := []) rfl _ _ rfl rfl hnil2 ⟨1, 0, type, ⟨#[]⟩⟩ rfl (by simp) (by omega) (Nat.le_refl _) ?_; intro A5 c5 w5 ho5 hg5; have hB5 := own_grown hB0 hnil2 (Nat.le_refl _) hg5; replace hc2 := (hB5.cell (p := ⟨w.heap.size, 2, none⟩) hlt).trans hc2; have hs5 := hB5.size; clear hg5 hnil2)
        | (refine wpList_appF1 rfl _ _ rfl rfl ho5 ⟨2, 0, 1, ⟨#[]⟩⟩ rfl (by simp) (by omega) hs5 ?_; intro A6 c6 w6 ho6 hg6; have hB6 := own_grown hB5 ho5 hs5 hg6; clear hg6))
      go_ret
      obtain rfl := HH.out
      exact ⟨A6, c6, rfl, own_base ho6 hs0, hE0.trans (hB6.mono hs0)⟩
end Go.Proofs.YtanfnjlndckhkaaDoor

/- WALK: props.tell -/
namespace Go.Proofs.YtanfnjlndckhkaaDoor
open Go.RowKit Plain

theorem flc_app2 (a b : List Fld) : flc (a ++ b) = flc a ++ flc b := by simp [flc]
theorem vfls_len (k : Int) (n : Nat) (s : ByteArray) (base : Int) (raw : Bool) : (vfls k n s base raw).length ≤ 1 := by unfold vfls; split <;> simp
set_option maxRecDepth 100000 in
set_option maxHeartbeats 2000000 in
theorem ptell_any (p : Pn) (deep : Nat) (hdeep : deep ≤ 8) (ht32 : p.type < 4294967296) (hv : VVOk p.v) (w : World) (hK : Kinds w)
    (hput : ∀ W, Below w.heap.size w W → Calls Tryd.prog 38 #[.slice p.adr p.sub.list.length p.cap, .int .i64 (deep + 1)] W (BPost (p.sub.put (deep + 1)) W)) :
    Calls Tryd.prog 61 #[p.agg, .int .i64 deep] w (BPost (p.tell deep) w) := by
  have hbad := fun W => badly_any p W
  have hah := fun W => ahead_any p ht32 W
  obtain ⟨q, hq⟩ : ∃ q, p.tell deep = q := ⟨_, rfl⟩
  rw [hq]
  unfold Pn.tell at hq
  obtain ⟨sb, hsb⟩ : ∃ s, p.sub.put (deep + 1) = s := ⟨_, rfl⟩
  rw [hsb] at hq hput
  unfold BPost at hput
  obtain ⟨sb, se⟩ := sb
  simp only at hput
  have hHok := pahead_ok ht32 p.null
  have hHl := pahead_len p.type p.null
  obtain ⟨H, hH⟩ : ∃ H, pahead p.type p.null = H := ⟨_, rfl⟩
  unfold ptell at hq
  rw [hH] at hah hHok hHl hq
  have hBX : BoxP (w.alloc (Obj.cells #[.string p.key, .int .u32 p.type, .bool p.null, .int .i64 p.v.k, .int .u64 p.v.n, .string p.v.s, .slice p.adr p.sub.list.length p.cap] 75)) w.heap.size p := World.alloc_heap_new w _
  have hE0 := (Below.refl w.heap.size w).alloc (Nat.le_refl _) (Obj.cells #[.string p.key, .int .u32 p.type, .bool p.null, .int .i64 p.v.k, .int .u64 p.v.n, .string p.v.s, .slice p.adr p.sub.list.length p.cap] 75)
  clear hsb hH ht32
  obtain ⟨key, type, null, ⟨k, n, s⟩, adr, cap, sub⟩ := p
  have hvn := hv.2.2
  unfold Pn.agg at *
  simp only at *
  generalize sub.list.length = L at *
  generalize pbad ⟨k, n, s⟩ L = bad at *
  obtain ⟨M, hM⟩ : ∃ M, H.length = M := ⟨_, rfl⟩
  rw [hM] at hah hHl
  have HM := Lib.hid hM
  have HOK := Lib.hid hHok
  have HQ := Lib.hid hq
  have HBX := Lib.hid hBX
  have HV := Lib.hid hv
  clear hM hHok hq hBX hv
  go_enter Tryd.func61, Tryd.ntmps61
  go_wp2_with fail
  refine (hbad _).mono ?_
  rintro e w1 ⟨rfl, hB1⟩
  have HX1 : Hid (w1.heap[w.heap.size]? = (w.alloc (Obj.cells #[.string key, .int .u32 type, .bool null, .int .i64 k, .int .u64 n, .string s, .slice adr L cap] 75)).heap[w.heap.size]?) := Lib.hid (hB1.block _ (by simp))
  have hW1 := bel_step' hE0 (Nat.le_refl _) hB1
  have hX1 : w1.heap[w.heap.size]? = some (.cells #[.string key, .int .u32 type, .bool null, .int .i64 k, .int .u64 n, .string s, .slice adr L cap] 75 (0, 0)) := HX1.out.trans (World.alloc_heap_new w _)
  have hlt1 : w.heap.size < w1.heap.size := (Array.getElem?_eq_some_iff.1 hX1).1
  clear hbad hE0 hB1 HX1 HBX
  cases bad
  case true =>
    have hq : q = ([], 4) := by rw [← HQ.out, if_pos rfl]
    have HQ2 := Lib.hid hq
    clear hq HQ hah hput hX1 hlt1
    go_wp2_with fail
    go_ret2
    exact bpost_err HQ2.out hW1
  have pcells : ∀ W : World, W.heap[w.heap.size]? = some (.cells #[.string key, .int .u32 type, .bool null, .int .i64 k, .int .u64 n, .string s, .slice adr L cap] 75 (0, 0)) →
      W.cell? ⟨w.heap.size, 0, none⟩ = some (.string key) ∧ W.cell? ⟨w.heap.size, 1, none⟩ = some (.int .u32 type) ∧ W.cell? ⟨w.heap.size, 2, none⟩ = some (.bool null) ∧ W.cell? ⟨w.heap.size, 3, none⟩ = some (.int .i64 k) ∧ W.cell? ⟨w.heap.size, 4, none⟩ = some (.int .u64 n) ∧ W.cell? ⟨w.heap.size, 5, none⟩ = some (.string s) ∧ W.cell? ⟨w.heap.size, 6, none⟩ = some (.slice adr L cap) := by
    intro W h
    refine ⟨?_, ?_, ?_, ?_, ?_, ?_, ?_⟩ <;> (simp only [World.cell?, h]; rfl)
  have HPC := Lib.hid pcells
  clear pcells
  obtain ⟨x0, x1, x2, x3, x4, x5, x6⟩ := HPC.out w1 hX1
  go_wp2_with fail
  refine (hah _).mono ?_
  rintro e w2 ⟨A2, c2, rfl, ho2, hB2⟩
  have hX2 := (hB2.block _ hlt1).trans hX1
  have hlt2 := Nat.lt_of_lt_of_le hlt1 hB2.size
  have hW2 := bel_step hW1 hB2
  have ho2b := own_base ho2 hW1.size
  have hK2 := hK.below hW2 hK.pos
  clear hah x0 x1 x2 x3 x4 x5 x6 hX1 hlt1 ho2 hB2
  obtain ⟨x0, x1, x2, x3, x4, x5, x6⟩ := HPC.out w2 hX2
  by_cases hk : k = 8
  · subst hk
    have hdi : (deep : Int) ≤ 8 := by omega
    have HQ2 : Hid ((if se = 0 then wput (H ++ [⟨9, 2, 0, ⟨sb.toArray⟩⟩]) else ([], se)) = q) := Lib.hid (by have := HQ.out; rwa [if_neg (by decide), if_pos rfl] at this)
    clear HQ
    go_wp2_with fail
    refine (hput _ hW2).mono ?_
    rintro e w3 ⟨A3, c3, rfl, ho3, hB3⟩
    have ho2c := own_kept ho2b hB3 (Nat.le_refl _)
    have hW3 := bel_step hW2 hB3
    clear hput x0 x1 x2 x3 x4 x5 x6 ho2b hX2 hlt2 hB3
    by_cases he : se = 0
    · subst he
      have hs3 := strB (Rd.of_own ho3) rfl c3
      have HQ3 : Hid (wput (H ++ [⟨9, 2, 0, ⟨sb.toArray⟩⟩]) = q) := Lib.hid (by have := HQ2.out; rwa [if_pos rfl] at this)
      have htx := ptext_any 9 ⟨sb.toArray⟩ w3
      unfold Fld.cells at htx
      clear ho3 HQ2
      go_wp2_with fail
      refine htx.mono ?_
      rintro e w4 ⟨rfl, hB4⟩
      have ho4 := own_kept ho2c hB4 (Nat.le_refl _)
      have hW4 := bel_step hW3 hB4
      have hs4 := hW4.size
      clear htx hs3 ho2c hB4
      go_wp2_with (at_builtin; refine wpList_appF1 rfl _ _ rfl rfl ho4 ⟨9, 2, 0, ⟨sb.toArray⟩⟩ rfl (by simp) (by omega) hs4 ?_; intro A5 c5 w5 ho5 hg5; have hW5 := own_grown hW4 ho4 hs4 hg5; clear hg5 ho4)
      have hpl := playd_any (H ++ [⟨9, 2, 0, ⟨sb.toArray⟩⟩]) A5 c5 (by rw [List.length_append, HM.out]; simp; omega) (by
        intro f hf
        rcases List.mem_append.1 hf with hf | hf
        · exact HOK.out f hf
        · obtain rfl : f = _ := by simpa using hf
          exact ⟨by simp, by simp, by simp⟩) w5 (Rd.of_own ho5)
      rw [HQ3.out, List.length_append, HM.out] at hpl
      refine hpl.mono ?_
      rintro e w6 ⟨A6, c6, rfl, ho6, hB6⟩
      clear hpl
      go_wp2_with fail
      go_ret2
      exact ⟨A6, c6, rfl, own_base ho6 hW5.size, bel_step hW5 hB6⟩
    · have hbe : (se != 0) = true := by simpa using he
      have HQ3 : Hid (q = ([], se)) := Lib.hid (by have := HQ2.out; rw [if_neg he] at this; exact this.symm)
      clear HQ2 he ho3
      go_wp2_with fail
      go_ret2
      exact bpost_err HQ3.out hW3
  · have hbk : (k == 8) = false := by simpa using hk
    obtain ⟨vl, hvl⟩ : ∃ l, vfls k n s 3 false = l := ⟨_, rfl⟩
    obtain ⟨er, her⟩ : ∃ er, verr k n s.toList.isEmpty 3 false = er := ⟨_, rfl⟩
    have hvput := vput_any k n s 3 false (by omega) (by omega) w2 hK2
    unfold PutPost at hvput
    have HQ2 : Hid ((if er = 0 then wput (H ++ vl) else ([], er)) = q) := Lib.hid (by have := HQ.out; rwa [if_neg (by decide), if_neg hk, hvl, her] at this)
    have hvlen := vfls_len k n s 3 false
    rw [hvl, her] at hvput
    rw [hvl] at hvlen
    have HVOK : Hid (er = 0 → ∀ f ∈ vl, FldOk f) := Lib.hid (fun h => by rw [← hvl]; exact (vfls_ok hvn (her.trans h)).2.1)
    clear HQ hvl her hk hput
    obtain ⟨vm, hvm⟩ : ∃ m, vl.length = m := ⟨_, rfl⟩
    rw [hvm] at hvput hvlen
    have HVM := Lib.hid hvm
    clear hvm
    go_wp2_with fail
    refine hvput.mono ?_
    rintro e w3 ⟨A3, c3, rfl, hc3, hc4, hr3, hB3⟩
    have ho2c := own_kept ho2b hB3 (Nat.le_refl _)
    have hW3 := bel_step hW2 hB3
    clear hvput x0 x1 x2 x3 x4 x5 x6 ho2b hX2 hlt2 hB3
    by_cases he : er = 0
    · subst he
      have HQ3 : Hid (wput (H ++ vl) = q) := Lib.hid (by have := HQ2.out; rwa [if_pos rfl] at this)
      have hs3 := hW3.size
      clear HQ2
      go_wp2_with (at_builtin; refine wpList_appF rfl _ _ rfl rfl ho2c rfl hr3 HVM.out (M + vm) rfl (by omega) hs3 ?_; intro A5 c5 w5 ho5 hg5; have hW5 := own_grown hW3 ho2c hs3 hg5; clear hg5 ho2c)
      have hpl := playd_any (H ++ vl) A5 c5 (by rw [List.length_append, HM.out, HVM.out]; omega) (by
        intro f hf
        rcases List.mem_append.1 hf with hf | hf
        · exact HOK.out f hf
        · exact HVOK.out (by first | rfl | trivial) f hf) w5 (Rd.of_own ho5)
      rw [HQ3.out, List.length_append, HM.out, HVM.out] at hpl
      refine hpl.mono ?_
      rintro e w6 ⟨A6, c6, rfl, ho6, hB6⟩
      clear hpl
      go_wp2_with fail
      go_ret2
      exact ⟨A6, c6, rfl, own_base ho6 hW5.size, bel_step hW5 hB6⟩
    · have hbe : (er != 0) = true := by simpa using he
      have HQ3 : Hid (q = ([], er)) := Lib.hid (by have := HQ2.out; rw [if_neg he] at this; exact this.symm)
      clear HQ2 he hr3
      go_wp2_with fail
      go_ret2
      exact bpost_err HQ3.out hW3
end Go.Proofs.YtanfnjlndckhkaaDoor
