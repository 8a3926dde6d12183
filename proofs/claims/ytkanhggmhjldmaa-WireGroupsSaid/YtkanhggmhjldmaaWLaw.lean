/- LAW WALKS: WirePuts, WireReads -/
import Derived.Test.YtkanhggmhjldmaaRWPuts
import Derived.Test.YtkanhggmhjldmaaRWq
import Derived.Test.YtkanhggmhjldmaaSame3
namespace Go.Proofs.Ytkanhggmhjldmaa
open Go.RowKit Plain

theorem strB {w : World} {B : Nat} {A : Option Addr} {l : List UInt8} (hr : Rd w B A (bcl l)) {n : Nat} (hn : l.length = n) (c : Nat) :
    (convert 25 9 (.slice A n c)).run Try.prog w = .ok (.string ⟨l.toArray⟩) w :=
  hn ▸ run_str _ _ _ Try.underlying25 Try.underlying5 Try.underlying9 hr c
theorem awput : wput [⟨1, 0, 300, ⟨#[]⟩⟩] = ([8, 172, 2], 0) := by decide +kernel
theorem awof : wof [8, 172, 2] = ([⟨1, 0, 300, emptyT⟩], 0) := by kernel_rfl
set_option maxRecDepth 100000 in
set_option maxHeartbeats 1000000 in
theorem awake3_any (w : World) : Calls Try.prog 19 #[] w fun e w' => e = .returned (.bool true) ∧ Below w.heap.size w w' := by
  have hput : ∀ W : World, Rd W W.heap.size (some ⟨w.heap.size, 0, none⟩) (flc [⟨1, 0, 300, ⟨#[]⟩⟩]) → Calls Try.prog 17 #[.slice (some ⟨w.heap.size, 0, none⟩) 1 1] W (PutsPost [⟨1, 0, 300, ⟨#[]⟩⟩] W) :=
    fun W h => puts_any [⟨1, 0, 300, ⟨#[]⟩⟩] _ 1 (by simp) (by intro f hf; simp at hf; subst hf; exact ⟨by simp, by simp, by simp⟩) W h
  go_enter Try.func19, Try.ntmps19
  go_wp2_with fail
  refine (hput _ (by have := Rd.cells w #[.int .i64 1, .int .i64 0, .int .u64 300, .string ⟨#[]⟩] 49; rw [World.size_alloc]; simpa [flc, Fld.cells] using this)).mono ?_
  rintro e w1 ⟨A1, c1, rfl, ho1, hB1⟩
  rw [awput] at ho1 ⊢
  have hcap := own_cap ho1
  have hB2 : Below w.heap.size w w1 := ((Below.refl _ w).alloc (Nat.le_refl _) _).trans (hB1.mono (by simp))
  have hof := of_any [8, 172, 2] A1 3 c1 rfl hcap.1 hcap.2 w1 (Rd.of_own ho1)
  have hrd := Rd.of_own ho1
  clear hput hB1 ho1
  simp only [List.length_cons, List.length_nil] at hcap ⊢
  clear hcap
  go_wp2_with fail
  refine hof.mono ?_
  rintro e w2 ⟨A2, c2, rfl, ho2, hB3⟩
  rw [awof] at ho2 ⊢
  have hB4 := bel_step hB2 hB3
  obtain ⟨b2, o2, rfl, _, g0, g1, g2, g3⟩ := fld_at (j := 0) (Rd.of_own ho2) rfl
  have hs2 : (convert 25 9 (.slice A1 3 c1)).run Try.prog w2 = .ok (.string ⟨#[8, 172, 2]⟩) w2 := strB (hrd.below hB3 (Nat.le_refl _)) rfl c1
  clear hof hrd ho2 hB2 hB3
  go_wp2_with fail
  go_ret
  exact ⟨rfl, hB4⟩
set_option maxRecDepth 100000 in
set_option maxHeartbeats 2000000 in
theorem wputs_any (l : List Fld) (A : Option Addr) (c : Nat) (hl : l.length ≤ 9223372036854775807) (hwf : ∀ f ∈ l, FldOk f) (w : World) (hr : Rd w w.heap.size A (flc l)) :
    Calls Try.prog 4 #[.slice A l.length c] w fun e w' => e = .returned (.bool true) ∧ Below w.heap.size w w' := by
  have h1 := puts_any l A c hl hwf w hr
  have h2 := fun (W : World) (hB : Below w.heap.size w W) => rputs_any l A c hl hwf W ((hr.below hB (Nat.le_refl _)).more hB.size)
  clear hr hwf hl
  go_enter Try.func4, Try.ntmps4
  go_wp2_with fail
  refine h1.mono ?_
  rintro e w1 ⟨A1, c1, rfl, ho1, hB1⟩
  obtain ⟨r, hr⟩ : ∃ r, wput l = r := ⟨_, rfl⟩
  rw [hr] at ho1 ⊢
  obtain ⟨L, er⟩ := r
  simp only at ho1 ⊢
  have h3 := h2 w1 hB1
  clear h1 h2
  go_wp2_with fail
  refine h3.mono ?_
  rintro e w2 ⟨A2, c2, rfl, ho2, hB2⟩
  rw [hr] at ho2 ⊢
  simp only at ho2 ⊢
  have hs1 : (convert 25 9 (.slice A1 L.length c1)).run Try.prog w2 = .ok (.string ⟨L.toArray⟩) w2 := strB ((Rd.of_own ho1).below hB2 (Nat.le_refl _)) rfl c1
  have hs2 : (convert 25 9 (.slice A2 L.length c2)).run Try.prog w2 = .ok (.string ⟨L.toArray⟩) w2 := strB (Rd.of_own ho2) rfl c2
  have hW : Below w.heap.size w w2 := bel_step hB1 hB2
  clear h3 ho1 ho2 hB1 hB2 hr
  go_wp2_with fail
  refine (awake3_any w2).mono ?_
  rintro e w3 ⟨rfl, hB3⟩
  go_wp2_with fail
  go_ret
  exact ⟨rfl, bel_step hW hB3⟩
set_option maxRecDepth 100000 in
set_option maxHeartbeats 2000000 in
theorem wreads_any (b : List UInt8) (A : Option Addr) (c : Nat) (hnc : b.length ≤ c) (hcm : c ≤ 9223372036854775807) (hl : b.length ≤ 140737488355328) (w : World) (hr : Rd w w.heap.size A (bcl b)) :
    Calls Try.prog 5 #[.slice A b.length c] w fun e w' => e = .returned (.bool true) ∧ Below w.heap.size w w' := by
  have h1 := of_any b A b.length c rfl hnc hcm w hr
  have h2 := fun (W : World) (hB : Below w.heap.size w W) => rof_any b A b.length c rfl hnc W ((hr.below hB (Nat.le_refl _)).more hB.size) hl
  obtain ⟨n, hn⟩ : ∃ n, b.length = n := ⟨_, rfl⟩
  rw [hn] at h1 h2 ⊢
  clear hr hl hnc hcm hn
  go_enter Try.func5, Try.ntmps5
  go_wp2_with fail
  refine h1.mono ?_
  rintro e w1 ⟨A1, c1, rfl, ho1, hB1⟩
  obtain ⟨r, hr⟩ : ∃ r, wof b = r := ⟨_, rfl⟩
  rw [hr] at ho1 ⊢
  obtain ⟨L, er⟩ := r
  simp only at ho1 ⊢
  have h3 := h2 w1 hB1
  clear h1 h2
  go_wp2_with fail
  refine h3.mono ?_
  rintro e w2 ⟨A2, c2, rfl, ho2, hB2⟩
  rw [hr] at ho2 ⊢
  simp only at ho2 ⊢
  have hL : L.length ≤ 9223372036854775807 := Nat.le_trans (own_cap ho1).1 (own_cap ho1).2
  have hq1 : Rd w2 w2.heap.size A1 (flc L) := ((Rd.of_own ho1).below hB2 (Nat.le_refl _)).more hB2.size
  have hq2 : Rd w2 w2.heap.size A2 (flc L) := Rd.of_own ho2
  have hW : Below w.heap.size w w2 := bel_step hB1 hB2
  clear h3 ho1 ho2 hB1 hB2 hr
  go_wp2_with fail
  refine (same_any A1 A2 c1 c2 L hL w2 (Nat.le_refl _) (Nat.le_refl _) hq1 hq2).mono ?_
  rintro e w3 ⟨rfl, hB3⟩
  have hW3 := bel_step hW hB3
  clear hq1 hq2 hW hB3
  go_wp2_with fail
  refine (awake3_any w3).mono ?_
  rintro e w4 ⟨rfl, hB4⟩
  go_wp2_with fail
  go_ret
  exact ⟨rfl, bel_step hW3 hB4⟩
end Go.Proofs.Ytkanhggmhjldmaa
