/- WALK: the reference's fields and Put of layer 6 -/
import Derived.Test.YtkanhggmhjldmaaMetaK
namespace Go.Proofs.Ytkanhggmhjldmaa
open Go.RowKit Plain

def addF (L : List Fld) (f : Fld) : List Fld := if fhas f = true then L ++ [f] else L
theorem filter_fold {α : Type} (p : α → Bool) : ∀ (l acc : List α), l.foldl (fun L f => if p f = true then L ++ [f] else L) acc = acc ++ l.filter p := by
  intro l
  induction l with
  | nil => simp
  | cons f l ih =>
    intro acc
    rw [List.foldl_cons, ih]
    cases h : p f <;> simp [h]
theorem mfields_fold (m : MM) : mfields m = (mall m).foldl addF [] := by
  have := filter_fold fhas (mall m) []
  rw [List.nil_append] at this
  exact this.symm
theorem fhas_text (n k : Int) (s : ByteArray) : fhas ⟨n, k, 0, s⟩ = !s.toList.isEmpty := by simp [fhas]
theorem addF_len (L : List Fld) (f : Fld) : (addF L f).length ≤ L.length + 1 := by unfold addF; split <;> simp
theorem emptyF (w : World) : (w.alloc (.cells #[] 49)).ownsRow w.heap.size 49 4 (.slice (some ⟨w.heap.size, 0, none⟩) 0 0) 0 (flc []) := own_empty w _ (Nat.le_refl _)
theorem fld_one (L : List Fld) : ∀ u ∈ flc L, u.oneCell' = true := by
  intro u hu
  obtain ⟨f, _, hf⟩ := List.mem_flatMap.1 hu
  simp [Fld.cells] at hf
  rcases hf with rfl | rfl | rfl | rfl <;> rfl
section
variable {w : World} {ops : Array Oper} {rest : List Oper} {o : Oper} {a : Act} {Q : Exit → Act → World → Prop}
theorem wpList_appF (hgd : o.guard = none) (s x : Operand)
    (ho : o.op = .call { callee := .builtin .append, args := #[s, x], argTypes := #[34, 34] })
    {base n c : Nat} {A : Option Addr} {l : List Fld} (hs : a.eval s = .slice A n c)
    (hown : w.ownsRow base 49 4 (.slice A n c) n (flc l)) {B m c2 : Nat} {A2 : Option Addr} {l2 : List Fld} (hx : a.eval x = .slice A2 m c2) (hr : Rd w B A2 (flc l2)) (hl : l2.length = m)
    (N : Nat) (hN : n + m = N) (hbd : N ≤ 1000000) (hbase : base ≤ w.heap.size)
    (h : ∀ A' c' w', w'.ownsRow base 49 4 (.slice A' N c') N (flc (l ++ l2)) → w.grownBy w' (Value.slice A n c).ownBlock → wpList Try.prog ops Q rest (a.put o.dst (.slice A' N c')) w') :
    wpList Try.prog ops Q (o :: rest) a w := by
  subst hN
  refine wpList_app hgd s x _ ho elemF hs hown hx hr (by rw [flc_len]; omega) (fld_one l2) (by unfold maxLen; omega) (by omega) hbase fun A' c' w' h1 h2 _ => h A' c' w' ?_ h2
  rw [show flc (l ++ l2) = flc l ++ flc l2 by simp [flc]]
  exact h1
theorem wpList_appF1 (hgd : o.guard = none) (s x : Operand)
    (ho : o.op = .call { callee := .builtin .append, args := #[s, x], argTypes := #[34, 34] })
    {base n c : Nat} {A : Option Addr} {l : List Fld} (hs : a.eval s = .slice A n c)
    (hown : w.ownsRow base 49 4 (.slice A n c) n (flc l)) {c2 : Nat} (f : Fld) {k : Nat} (hx : a.eval x = .slice (some ⟨k, 0, none⟩) 1 c2) (hk : k = w.heap.size)
    (hbd : n ≤ 1000000) (hbase : base ≤ w.heap.size)
    (h : ∀ A' c' w', w'.ownsRow base 49 4 (.slice A' (n + 1) c') (n + 1) (flc (l ++ [f])) → w.grownBy w' (Value.slice A n c).ownBlock → wpList Try.prog ops Q rest (a.put o.dst (.slice A' (n + 1) c')) w') :
    wpList Try.prog ops Q (o :: rest) a (w.alloc (.cells #[.int .i64 f.num, .int .i64 f.kind, .int .u64 f.val, .string f.text] 49)) := by
  subst hk
  refine wpList_app1 hgd s x _ ho elemF hs hown hx rfl (by intro u hu; simp at hu; rcases hu with rfl | rfl | rfl | rfl <;> rfl) (by unfold maxLen; omega) (by omega) hbase fun A' c' w' h1 h2 _ => h A' c' w' ?_ h2
  rw [show flc (l ++ [f]) = flc l ++ f.cells by simp [flc]]
  exact h1
end
set_option maxHeartbeats 1000000 in
theorem rtext_any (A : Option Addr) (c : Nat) (L : List Fld) (num : Int) (s : ByteArray) (hL : L.length ≤ 1000) (base : Nat) (w : World) (hb : base ≤ w.heap.size) (hown : w.ownsRow base 49 4 (.slice A L.length c) L.length (flc L)) :
    Calls Try.prog 44 #[.slice A L.length c, .int .i64 num, .string s] w fun e w' => ∃ A' c', e = .returned (.slice A' (addF L ⟨num, 2, 0, s⟩).length c') ∧
      w'.ownsRow base 49 4 (.slice A' (addF L ⟨num, 2, 0, s⟩).length c') (addF L ⟨num, 2, 0, s⟩).length (flc (addF L ⟨num, 2, 0, s⟩)) ∧ Below w.heap.size w w' := by
  have hr := Rd.of_own hown
  cases hs : s.toList.isEmpty
  · have e : addF L ⟨num, 2, 0, s⟩ = L ++ [⟨num, 2, 0, s⟩] := by unfold addF; rw [fhas_text, hs]; rfl
    rw [e]
    have hE := emptyF w
    have hr1 := hr.alloc (Nat.le_refl _) (Obj.cells #[] 49)
    have hB0 := (Below.refl w.heap.size w).alloc (Nat.le_refl _) (Obj.cells #[] 49)
    have HL := Lib.hid hL
    clear hr hown e hL
    go_enter Try.func44, Try.ntmps44
    go_wp2_with (at_builtin; first
      | (refine wpList_appF rfl _ _ rfl rfl hE rfl hr1 rfl L.length (by omega) (by have := HL.out; omega) (by simp) ?_; intro A3 c3 w3 ho3 hg3; have hB3 := own_grown hB0 hE (by simp) hg3; have hs3 := hB3.size; clear hg3 hr1 hE hB0)
      | (refine wpList_appF1 rfl _ _ rfl rfl ho3 ⟨num, 2, 0, s⟩ rfl (by simp) (by have := HL.out; omega) hs3 ?_; intro A4 c4 w4 ho4 hg4))
    go_ret
    exact ⟨A4, c4, by simp, by simpa using own_base ho4 hb, own_grown hB3 ho3 hs3 hg4⟩
  · have e : addF L ⟨num, 2, 0, s⟩ = L := by unfold addF; rw [fhas_text, hs]; rfl
    rw [e]
    go_enter Try.func44, Try.ntmps44
    go_wp2_with fail
    go_ret
    exact ⟨A, c, rfl, hown, Below.refl _ _⟩
end Go.Proofs.Ytkanhggmhjldmaa
