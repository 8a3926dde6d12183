/- LAW WALK: WireJoins -/
import Derived.Test.YtkanhggmhjldmaaWLaw
import Derived.Test.YtkanhggmhjldmaaWJoin
namespace Go.Proofs.Ytkanhggmhjldmaa
open Go.RowKit Plain

section
variable {w : World} {ops : Array Oper} {rest : List Oper} {o : Oper} {a : Act} {Q : Exit → Act → World → Prop}
theorem wp_appF {K : Act → World → Prop} (s x : Operand)
    (ho : o.op = .call { callee := .builtin .append, args := #[s, x], argTypes := #[34, 34] })
    {base n c : Nat} {A : Option Addr} {l : List Fld} (hs : a.eval s = .slice A n c)
    (hown : w.ownsRow base 49 4 (.slice A n c) n (flc l)) {B m c2 : Nat} {A2 : Option Addr} {l2 : List Fld} (hx : a.eval x = .slice A2 m c2) (hr : Rd w B A2 (flc l2)) (hl : l2.length = m)
    (N : Nat) (hN : n + m = N) (hbd : N ≤ 1000000) (hbase : base ≤ w.heap.size)
    (h : ∀ A' c' w', w'.ownsRow base 49 4 (.slice A' N c') N (flc (l ++ l2)) → w.grownBy w' (Value.slice A n c).ownBlock → K (a.put o.dst (.slice A' N c')) w') :
    Oper.wp Try.prog o a w K Q := by
  subst hN
  refine wp_app s x _ ho elemF hs hown hx hr (by rw [flc_len]; omega) (fld_one l2) (by unfold maxLen; omega) (by omega) hbase fun A' c' w' h1 h2 _ => h A' c' w' ?_ h2
  rw [show flc (l ++ l2) = flc l ++ flc l2 by simp [flc]]
  exact h1
theorem wpList_appF_on (hw : Region.wanted o (yielded ops a.tmps) = true) (s x : Operand)
    (ho : o.op = .call { callee := .builtin .append, args := #[s, x], argTypes := #[34, 34] })
    {base n c : Nat} {A : Option Addr} {l : List Fld} (hs : a.eval s = .slice A n c)
    (hown : w.ownsRow base 49 4 (.slice A n c) n (flc l)) {B m c2 : Nat} {A2 : Option Addr} {l2 : List Fld} (hx : a.eval x = .slice A2 m c2) (hr : Rd w B A2 (flc l2)) (hl : l2.length = m)
    (N : Nat) (hN : n + m = N) (hbd : N ≤ 1000000) (hbase : base ≤ w.heap.size)
    (h : ∀ A' c' w', w'.ownsRow base 49 4 (.slice A' N c') N (flc (l ++ l2)) → w.grownBy w' (Value.slice A n c).ownBlock → wpList Try.prog ops Q rest (a.put o.dst (.slice A' N c')) w') :
    wpList Try.prog ops Q (o :: rest) a w :=
  wpList_step fun K hK => by
    rw [if_pos hw]
    exact wp_appF s x ho hs hown hx hr hl N hN hbd hbase fun A' c' w' h1 h2 => hK _ _ (h A' c' w' h1 h2)
end
theorem wnext_out1 {b : List UInt8} {s : RSt} : (wnext b s).2.out.length ≤ s.out.length + 1 := by
  unfold wnext
  split
  · split
    · simp
    split
    · split <;> simp
    split
    · split <;> simp
    split
    · split
      · split <;> simp
      · simp
    · simp
  · simp
theorem wrun_len (b : List UInt8) : ∀ (f : Nat) (s : RSt), (wrun b f s).1.length ≤ s.out.length + f := by
  intro f
  induction f with
  | zero => intro s; rw [wrun]; split <;> simp
  | succ f ih =>
    intro s
    rw [wrun]
    split
    · split
      · have := ih (wnext b s).2
        have := @wnext_out1 b s
        omega
      · simp
    · split <;> simp
theorem wof_len {b : List UInt8} {l : List Fld} {e : Nat} (h : wof b = (l, e)) : l.length ≤ 4096 := by
  have h1 : (wof b).1.length ≤ 4096 := by
    unfold wof
    split
    · simp
    · have := wrun_len b b.length ⟨0, [], []⟩
      simp only [List.length_nil] at this
      omega
  rw [h] at h1
  exact h1
set_option maxRecDepth 100000 in
set_option maxHeartbeats 4000000 in
theorem wjoins_any (a b : List UInt8) (A1 A2 : Option Addr) (c1 c2 : Nat) (hc1 : a.length ≤ c1) (hm1 : c1 ≤ 9223372036854775807) (hc2 : b.length ≤ c2) (hm2 : c2 ≤ 9223372036854775807) (hla : a.length ≤ 140737488355328) (hlb : b.length ≤ 140737488355328) (w : World)
    (hr1 : Rd w w.heap.size A1 (bcl a)) (hr2 : Rd w w.heap.size A2 (bcl b)) :
    Calls Try.prog 7 #[.slice A1 a.length c1, .slice A2 b.length c2] w fun e w' => e = .returned (.bool true) ∧ Below w.heap.size w w' := by
  have h1 := of_any a A1 a.length c1 rfl hc1 hm1 w hr1
  have h2 := fun (W : World) (hB : Below w.heap.size w W) => of_any b A2 b.length c2 rfl hc2 hm2 W ((hr2.below hB (Nat.le_refl _)).more hB.size)
  obtain ⟨na, hna⟩ : ∃ n, a.length = n := ⟨_, rfl⟩
  obtain ⟨nb, hnb⟩ : ∃ n, b.length = n := ⟨_, rfl⟩
  rw [hna] at h1 ⊢
  rw [hnb] at h2 ⊢
  obtain ⟨ra, hra⟩ : ∃ r, wof a = r := ⟨_, rfl⟩
  obtain ⟨rb, hrb⟩ : ∃ r, wof b = r := ⟨_, rfl⟩
  unfold OfPost at h1 h2
  rw [hra] at h1
  rw [hrb] at h2
  obtain ⟨l, e1⟩ := ra
  obtain ⟨m, e2⟩ := rb
  simp only at h1 h2
  have hsum : IntKind.i64.wrap ((na : Int) + (nb : Int)) = ((na + nb : Nat) : Int) := by rw [show (na : Int) + (nb : Int) = ((na + nb : Nat) : Int) by omega]; exact wrap_small _ (by omega)
  have hsum2 : wrap64 ((na : Int) + (nb : Int)) = ((na + nb : Nat) : Int) := by unfold wrap64; omega
  have HRA := Lib.hid hra
  have HRB := Lib.hid hrb
  have HNA := Lib.hid hna
  have HNB := Lib.hid hnb
  have HR1 := Lib.hid hr1
  have HR2 := Lib.hid hr2
  clear hra hrb hna hnb hr1 hr2 hc1 hc2 hm1 hm2 hla hlb
  obtain ⟨S, hS⟩ : ∃ S, na + nb = S := ⟨_, rfl⟩
  rw [hS] at hsum hsum2
  have HS := Lib.hid hS
  clear hS
  go_enter Try.func7, Try.ntmps7
  go_wp2_with fail
  refine h1.mono ?_
  rintro e w1 ⟨B1, d1, rfl, ho1, hB1⟩
  have h3 := h2 w1 hB1
  clear h1 h2
  go_wp2_with fail
  refine h3.mono ?_
  rintro e w2 ⟨B2, d2, rfl, ho2, hB2⟩
  have ho1' := own_kept ho1 hB2 (Nat.le_refl _)
  have hW := bel_step hB1 hB2
  clear h3 ho1 hB1 hB2
  obtain ⟨nl, hnl⟩ : ∃ n, l.length = n := ⟨_, rfl⟩
  obtain ⟨nm, hnm⟩ : ∃ n, m.length = n := ⟨_, rfl⟩
  rw [hnl] at ho1' ⊢
  rw [hnm] at ho2 ⊢
  have hcl := own_cap ho1'
  have hcm := own_cap ho2
  have HCAP : Hid (nl ≤ 4611686018427387903 ∧ nm ≤ 4611686018427387903) := Lib.hid (by have := wof_len HRA.out; have := wof_len HRB.out; omega)
  by_cases hbad : ¬ e1 = 0 ∨ ¬ e2 = 0 ∨ 4096 < S ∨ 256 < nl + nm
  · clear ho1' ho2 hcl hcm
    by_cases h1 : e1 = 0
    · subst h1
      by_cases h2 : e2 = 0
      · subst h2
        by_cases h3 : 4096 < S
        · have hdS : decide ((4096 : Int) < (S : Int)) = true := decide_eq_true (by omega)
          clear hbad h3
          go_wp2_with fail
          refine (awake3_any w2).mono ?_
          rintro e w3 ⟨rfl, hB3⟩
          go_wp2_with fail
          go_ret
          exact ⟨rfl, bel_step hW hB3⟩
        · have hdS : decide ((4096 : Int) < (S : Int)) = false := decide_eq_false (by omega)
          have hT : 256 < nl + nm := by omega
          have hts : wrap64 ((nl : Int) + (nm : Int)) = ((nl + nm : Nat) : Int) := by have := HCAP.out; unfold wrap64; omega
          obtain ⟨T, hTT⟩ : ∃ T, nl + nm = T := ⟨_, rfl⟩
          rw [hTT] at hts
          have hdT : decide ((256 : Int) < (T : Int)) = true := decide_eq_true (by omega)
          clear hbad h3 hT hTT
          go_wp2_with fail
          refine (awake3_any w2).mono ?_
          rintro e w3 ⟨rfl, hB3⟩
          go_wp2_with fail
          go_ret
          exact ⟨rfl, bel_step hW hB3⟩
      · have hbe : ((e2 : Int) != 0) = true := by simp; omega
        clear hbad h2
        go_wp2_with fail
        refine (awake3_any w2).mono ?_
        rintro e w3 ⟨rfl, hB3⟩
        go_wp2_with fail
        go_ret
        exact ⟨rfl, bel_step hW hB3⟩
    · have hbe : ((e1 : Int) != 0) = true := by simp; omega
      clear hbad h1
      go_wp2_with fail
      refine (awake3_any w2).mono ?_
      rintro e w3 ⟨rfl, hB3⟩
      go_wp2_with fail
      go_ret
      exact ⟨rfl, bel_step hW hB3⟩
  · have he1 : e1 = 0 := by omega
    have he2 : e2 = 0 := by omega
    subst he1 he2
    have hS4 : S ≤ 4096 := by omega
    have hT : nl + nm ≤ 256 := by omega
    have hts : wrap64 ((nl : Int) + (nm : Int)) = ((nl + nm : Nat) : Int) := by unfold wrap64; omega
    obtain ⟨T, hTT⟩ : ∃ T, nl + nm = T := ⟨_, rfl⟩
    rw [hTT] at hts
    have hdS : decide ((4096 : Int) < (S : Int)) = false := decide_eq_false (by omega)
    have hdT : decide ((256 : Int) < (T : Int)) = false := decide_eq_false (by omega)
    have HH : Hid (S ≤ 4096 ∧ T ≤ 256 ∧ nl + nm = T ∧ na + nb = S) := Lib.hid ⟨hS4, by omega, hTT, HS.out⟩
    clear hbad hS4 hT hTT hcl hcm
    have hws := hW.size
    have hE := own_emptyB w2 (Nat.le_refl w2.heap.size)
    have hE0 : Below w2.heap.size w2 (w2.alloc (.cells #[] 5)) := (Below.refl _ w2).alloc (Nat.le_refl _) _
    have hrA : Rd (w2.alloc (.cells #[] 5)) w.heap.size A1 (bcl a) := (HR1.out.below hW (Nat.le_refl _)).alloc hws _
    have hrB := HR2.out.below hW (Nat.le_refl _)
    go_wp2_with (at_builtin; first
      | (refine wpList_appB rfl _ _ rfl rfl hE rfl hrA HNA.out na (by omega) (by have := HH.out; omega) (by simp) ?_; intro A5 c5 w5 ho5 hg5; have hB5 := own_grown hE0 hE (by simp) hg5; have hrB5 := hrB.below hB5 hws; have hs5 := hB5.size; clear hE hE0 hrA hg5)
      | (refine wpList_appB rfl _ _ rfl rfl ho5 rfl hrB5 HNB.out S (by have := HH.out; omega) (by have := HH.out; omega) hs5 ?_; intro A6 c6 w6 ho6 hg6; have hB6 := own_grown hB5 ho5 hs5 hg6; clear hg6 ho5 hrB5 hB5))
    have hcap6 := own_cap ho6
    have hof := of_any (([] ++ a) ++ b) A6 S c6 (by have := HH.out; have := HNA.out; have := HNB.out; simp; omega) hcap6.1 hcap6.2 w6 (Rd.of_own ho6)
    have hwo : wof (([] ++ a) ++ b) = (l ++ m, 0) := by
      rw [List.nil_append]
      exact wof_app HRA.out HRB.out (by have := HH.out; have := HNA.out; have := HNB.out; omega) (by have := HH.out; omega)
    refine hof.mono ?_
    rintro e w7 ⟨A7, c7, rfl, ho7, hB7⟩
    rw [hwo] at ho7 ⊢
    have hB8 : Below w2.heap.size w2 w7 := hB6.trans (hB7.mono hB6.size)
    have hW7 := bel_step hW hB8
    have hq1 : Rd w7 w7.heap.size B1 (flc l) := ((Rd.of_own ho1').below hB8 (Nat.le_refl _)).more hB8.size
    have hq2 : Rd w7 w7.heap.size B2 (flc m) := ((Rd.of_own ho2).below hB8 (Nat.le_refl _)).more hB8.size
    have hq3 : Rd w7 w7.heap.size A7 (flc (l ++ m)) := Rd.of_own ho7
    have hlen : (l ++ m).length = nl + nm := by simp [hnl, hnm]
    simp only [hlen]
    have HLEN := Lib.hid hlen
    have HNL := Lib.hid hnl
    have HNM := Lib.hid hnm
    clear hof hwo ho6 hcap6 hB6 hB7 hB8 ho7 ho1' ho2 hlen hW hws hrB hnl hnm hs5
    have hE : (w7.alloc (.cells #[] 49)).ownsRow w7.heap.size 49 4 (.slice (some ⟨w7.heap.size, 0, none⟩) 0 0) 0 (flc []) := own_empty w7 _ (Nat.le_refl _)
    have hE0 : Below w7.heap.size w7 (w7.alloc (.cells #[] 49)) := (Below.refl _ w7).alloc (Nat.le_refl _) _
    have hq1' := hq1.alloc (Nat.le_refl _) (.cells #[] 49)
    go_wp2_with (at_builtin; first
      | (refine wpList_appF_on (by rfl) _ _ rfl rfl hE rfl hq1' HNL.out nl (by omega) (by have := HH.out; omega) (by simp) ?_; intro A8 c8 w8 ho8 hg8; have hB9 := own_grown hE0 hE (by simp) hg8; have hq25 := hq2.below hB9 (Nat.le_refl _); have hq35 := hq3.below hB9 (Nat.le_refl _); have hs8 := hB9.size; clear hE hE0 hq1' hg8)
      | (refine wpList_appF_on (by rfl) _ _ rfl rfl ho8 rfl hq25 HNM.out (nl + nm) rfl (by have := HH.out; omega) hs8 ?_; intro A9 c9 w9 ho9 hg9; have hB10 := own_grown hB9 ho8 hs8 hg9; clear hg9 ho8 hq25))
    have hr9 : Rd w9 w9.heap.size A9 (flc (l ++ m)) := by
      have := Rd.of_own ho9
      rwa [List.nil_append] at this
    have hsame := same_any A7 A9 c7 c9 (l ++ m) (by have := HH.out; have := HLEN.out; omega) w9 hB10.size (Nat.le_refl _) (hq3.below hB10 (Nat.le_refl _)) hr9
    rw [HLEN.out] at hsame
    have hW9 := bel_step hW7 hB10
    clear hq1 hq2 hq3 hr9 ho9 hB10 hW7 hq35 hB9 hs8
    refine hsame.mono ?_
    rintro e w10 ⟨rfl, hB11⟩
    have hW10 := bel_step hW9 hB11
    clear hsame
    go_wp2_with fail
    refine (awake3_any w10).mono ?_
    rintro e w11 ⟨rfl, hB12⟩
    go_wp2_with fail
    go_ret
    exact ⟨rfl, bel_step hW10 hB12⟩
end Go.Proofs.Ytkanhggmhjldmaa
