/- LAW WALK: DatasetPuts -/
import Derived.Test.YtlgokfgbcohioaaDoorDsRqM
namespace Go.Proofs.YtlgokfgbcohioaaDoor
open Go.RowKit Plain

theorem rd_one {W : World} {b B : Nat} {v : Value} (hb : b < B) (h : W.cell? ⟨b, 0, none⟩ = some v) : Rd W B (some ⟨b, 0, none⟩) [v] := by
  refine .inr ⟨b, 0, rfl, hb, fun i hi => ?_⟩
  obtain rfl : i = 0 := by simpa using hi
  exact h
theorem rd_three {W : World} {b B : Nat} {x y z : Value} (hb : b < B) (h0 : W.cell? ⟨b, 0, none⟩ = some x) (h1 : W.cell? ⟨b, 1, none⟩ = some y) (h2 : W.cell? ⟨b, 2, none⟩ = some z) : Rd W B (some ⟨b, 0, none⟩) [x, y, z] := by
  refine .inr ⟨b, 0, rfl, hb, fun i hi => ?_⟩
  have h3 : i < 3 := by simpa using hi
  rcases (show i = 0 ∨ i = 1 ∨ i = 2 by omega) with rfl | rfl | rfl
  · exact h0
  · exact h1
  · exact h2
def dsx (n : Nat) : DS := ⟨some ⟨n, 0, none⟩, 1, [⟨#[97]⟩], some ⟨n + 1, 0, none⟩, 1, [3], some ⟨n + 1 + 1 + 1, 0, none⟩, 1, [⟨some ⟨n + 1 + 1, 0, none⟩, 1, [⟨1, 5, ⟨#[]⟩⟩]⟩]⟩
theorem dsx_ok (n : Nat) : DSOk (dsx n) := ⟨by simp [dsx], by simp [dsx], by simp [dsx], by simp [dsx], by simp [dsx], by intro r hr v hv; simp [dsx] at hr; subst hr; simp at hv; subst hv; exact ⟨by simp, by simp, by simp⟩⟩
theorem dsx_put : dput [⟨#[97]⟩] [3] [[⟨1, 5, ⟨#[]⟩⟩]] = ([8, 1, 18, 1, 97, 24, 3, 34, 4, 10, 2, 8, 5], 0) := by decide +kernel
set_option maxRecDepth 100000 in
set_option maxHeartbeats 2000000 in
theorem awake8_any (w : World) (hK : Kinds w) : Calls Tryd.prog 16 #[] w fun e w' => e = .returned (.bool true) ∧ Below w.heap.size w w' := by
  go_enter Tryd.func16, Tryd.ntmps16
  go_wp2_with fail
  have hE : Below w.heap.size w ((((w.alloc (.cells #[.string ⟨#[97]⟩] 9)).alloc (.cells #[.int .u32 3] 69)).alloc (.cells #[.int .i64 1, .int .u64 5, .string ⟨#[]⟩] 42)).alloc (.cells #[.slice (some ⟨w.heap.size + 1 + 1, 0, none⟩) 1 1] 45)) :=
    ((((Below.refl _ w).alloc (Nat.le_refl _) _).alloc (by simp) _).alloc (by simp; omega) _).alloc (by simp; omega) _
  have hA : (dsx w.heap.size).At ((((w.alloc (.cells #[.string ⟨#[97]⟩] 9)).alloc (.cells #[.int .u32 3] 69)).alloc (.cells #[.int .i64 1, .int .u64 5, .string ⟨#[]⟩] 42)).alloc (.cells #[.slice (some ⟨w.heap.size + 1 + 1, 0, none⟩) 1 1] 45)) (w.heap.size + 4) := by
    refine ⟨rd_one (by omega) (by go_simp), rd_one (by omega) (by go_simp), rd_one (by omega) (by go_simp), fun r hr => ?_⟩
    obtain rfl : r = _ := by simpa [dsx] using hr
    exact rd_three (by omega) (by go_simp) (by go_simp) (by go_simp)
  have hz : w.heap.size + 4 = ((((w.alloc (.cells #[.string ⟨#[97]⟩] 9)).alloc (.cells #[.int .u32 3] 69)).alloc (.cells #[.int .i64 1, .int .u64 5, .string ⟨#[]⟩] 42)).alloc (.cells #[.slice (some ⟨w.heap.size + 1 + 1, 0, none⟩) 1 1] 45)).heap.size := by simp
  rw [hz] at hA
  have hput := dput_any (dsx w.heap.size) (dsx_ok _) _ hA (hK.below hE hK.pos)
  have hput2 : BPost (dput [⟨#[97]⟩] [3] [[⟨1, 5, ⟨#[]⟩⟩]]) = BPost (dput (dsx w.heap.size).cols (dsx w.heap.size).types (dsx w.heap.size).plain) := rfl
  rw [← hput2, dsx_put] at hput
  unfold BPost at hput
  simp only [List.length_cons, List.length_nil] at hput
  clear hput2 hA hz
  refine hput.mono ?_
  rintro e w1 ⟨A, c, rfl, ho, hB⟩
  have hst := strB (Rd.of_own ho) rfl c
  simp only [List.length_cons, List.length_nil] at hst
  clear hput ho
  go_wp2_with fail
  go_ret
  exact ⟨rfl, bel_step hE hB⟩
set_option maxRecDepth 100000 in
set_option maxHeartbeats 2000000 in
theorem dputs_any (d : DS) (hok : DSOk d) (w : World) (hd : d.At w w.heap.size) (hK : Kinds w) :
    Calls Tryd.prog 3 #[d.agg] w fun e w' => e = .returned (.bool true) ∧ Below w.heap.size w w' := by
  have h1 := fun W (hB : Below w.heap.size w W) => dput_any d hok W ((hd.below hB (Nat.le_refl _)).more hB.size) (hK.below hB hK.pos)
  have h2 := fun W (hB : Below w.heap.size w W) => rdput_any d hok W ((hd.below hB (Nat.le_refl _)).more hB.size)
  obtain ⟨q, hq⟩ : ∃ q, dput d.cols d.types d.plain = q := ⟨_, rfl⟩
  rw [hq] at h1 h2
  obtain ⟨L, er⟩ := q
  obtain ⟨A1, c1, cols, A2, c2, types, A3, c3, rows⟩ := d
  unfold DS.agg BPost at h1 h2
  unfold DS.agg
  simp only at h1 h2 ⊢
  generalize cols.length = n1 at *
  generalize types.length = n2 at *
  generalize rows.length = n3 at *
  have HK := Lib.hid hK
  obtain ⟨N, hN⟩ : ∃ N, L.length = N := ⟨_, rfl⟩
  rw [hN] at h1 h2
  have HN := Lib.hid hN
  clear hd hok hq hK hN
  have hE0 : Below w.heap.size w (w.alloc (Obj.cells #[.slice A1 n1 c1, .slice A2 n2 c2, .slice A3 n3 c3] 26)) := (Below.refl _ w).alloc (Nat.le_refl _) _
  have hD0 : BoxD (w.alloc (Obj.cells #[.slice A1 n1 c1, .slice A2 n2 c2, .slice A3 n3 c3] 26)) w.heap.size (.slice A1 n1 c1) (.slice A2 n2 c2) (.slice A3 n3 c3) := World.alloc_heap_new w _
  go_enter Tryd.func3, Tryd.ntmps3
  go_wp2_with fail
  refine (h1 _ hE0).mono ?_
  rintro e w1 ⟨B1, d1, rfl, ho1, hB1⟩
  have hW1 := bel_step hE0 hB1
  obtain ⟨x0, x1, x2⟩ := (hD0.below hB1).cells
  clear h1 hD0 hE0
  go_wp2_with fail
  refine (h2 w1 hW1).mono ?_
  rintro e w2 ⟨B2, d2, rfl, ho2, hB2⟩
  have hW2 := bel_step hW1 hB2
  have hs1 := strB ((Rd.of_own ho1).below hB2 (Nat.le_refl _)) HN.out d1
  have hs2 := strB (Rd.of_own ho2) HN.out d2
  clear h2 ho1 ho2 hB1 hB2 hW1 x0 x1 x2
  go_wp2_with fail
  refine (awake8_any w2 (HK.out.below hW2 HK.out.pos)).mono ?_
  rintro e w3 ⟨rfl, hB3⟩
  go_wp2_with fail
  go_ret
  exact ⟨rfl, bel_step hW2 hB3⟩
end Go.Proofs.YtlgokfgbcohioaaDoor
