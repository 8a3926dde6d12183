/- LAW WALK: MetaReads -/
import Derived.Test.YtkanhggmhjldmaaMeta7
namespace Go.Proofs.Ytkanhggmhjldmaa
open Go.RowKit Plain

set_option maxRecDepth 100000 in
set_option maxHeartbeats 4000000 in
theorem mreads_any (b : List UInt8) (A : Option Addr) (c : Nat) (hnc : b.length ≤ c) (hcm : c ≤ 9223372036854775807) (hl : b.length ≤ 140737488355328) (w : World) (hr : Rd w w.heap.size A (bcl b)) :
    Calls Try.prog 9 #[.slice A b.length c] w fun e w' => e = .returned (.bool true) ∧ Below w.heap.size w w' := by
  have h1 := mof_any b A b.length c rfl hnc hcm w hr
  have h2 := fun (W : World) (hB : Below w.heap.size w W) => rmof_any b A b.length c rfl hnc hl W ((hr.below hB (Nat.le_refl _)).more hB.size)
  obtain ⟨n, hn⟩ : ∃ n, b.length = n := ⟨_, rfl⟩
  obtain ⟨q, hq⟩ : ∃ q, mof b = q := ⟨_, rfl⟩
  rw [hn] at h1 h2 ⊢
  rw [hq] at h1 h2
  obtain ⟨⟨m1, m2, m3, m4, m5, m6, m7, m8⟩, er⟩ := q
  unfold MM.cells at h1 h2
  simp only at h1 h2
  clear hr hl hnc hcm hn hq
  go_enter Try.func9, Try.ntmps9
  go_wp2_with fail
  refine h1.mono ?_
  rintro e w1 ⟨rfl, hB1⟩
  go_wp2_with fail
  have hE1 := (Below.refl w1.heap.size w1).alloc (Nat.le_refl _) (Obj.cells #[.bool m1, .string m2, .int .u64 m3, .int .u64 m4, .string m5, .string m6, .string m7, .string m8] 24)
  have hMm : BoxM (w1.alloc (Obj.cells #[.bool m1, .string m2, .int .u64 m3, .int .u64 m4, .string m5, .string m6, .string m7, .string m8] 24)) w1.heap.size ⟨m1, m2, m3, m4, m5, m6, m7, m8⟩ := World.alloc_heap_new w1 _
  have hW1 := bel_step hB1 hE1
  refine (h2 _ hW1).mono ?_
  rintro e w2 ⟨rfl, hB2⟩
  have hMm2 := hMm.below hB2 hMm.lt
  have hW2 := bel_step hW1 hB2
  clear h1 h2 hB1 hE1 hMm hW1 hB2
  obtain ⟨x0, x1, x2, x3, x4, x5, x6, x7⟩ := hMm2.cells8
  have hlt := hMm2.lt
  have hE2 := (Below.refl w2.heap.size w2).alloc (Nat.le_refl _) (Obj.cells #[.bool m1, .string m2, .int .u64 m3, .int .u64 m4, .string m5, .string m6, .string m7, .string m8] 24)
  have hW3 := bel_step hW2 hE2
  clear hMm2 hE2 hW2
  go_wp2_with fail
  refine (awake6_any _).mono ?_
  rintro e w3 ⟨rfl, hB3⟩
  have hW4 := bel_step hW3 hB3
  clear hW3 hB3
  go_wp2_with fail
  go_ret
  exact ⟨rfl, hW4⟩
end Go.Proofs.Ytkanhggmhjldmaa
