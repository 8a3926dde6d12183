/- LAW WALK: awake; PropsPuts -/
import Derived.Test.YtlgokfgbcohioaaDoorPpRqM
import Derived.Test.YtlgokfgbcohioaaDoorPpDM
namespace Go.Proofs.YtlgokfgbcohioaaDoor
open Go.RowKit Plain

def psx : Ps := .cons ⟨#[97]⟩ 0 false ⟨1, 5, ⟨#[]⟩⟩ none 0 .nil .nil
theorem psx_ok : psx.Ok := ⟨by omega, ⟨by simp, by simp, by simp⟩, by simp [Ps.list], trivial, trivial⟩
theorem psx_put : psx.put 1 = ([10, 1, 97, 18, 2, 24, 5], 0) := by decide +kernel
set_option maxRecDepth 100000 in
set_option maxHeartbeats 2000000 in
theorem awake7_any (w : World) (hK : Kinds w) : Calls Tryd.prog 21 #[] w fun e w' => e = .returned (.bool true) ∧ Below w.heap.size w w' := by
  go_enter Tryd.func21, Tryd.ntmps21
  go_wp2_with fail
  have hE : Below w.heap.size w (w.alloc (.cells #[.string ⟨#[97]⟩, .int .u32 0, .bool false, .int .i64 1, .int .u64 5, .string ⟨#[]⟩, .slice none 0 0] 82)) := (Below.refl _ w).alloc (Nat.le_refl _) _
  have hA : psx.At (w.alloc (.cells #[.string ⟨#[97]⟩, .int .u32 0, .bool false, .int .i64 1, .int .u64 5, .string ⟨#[]⟩, .slice none 0 0] 82)) (w.alloc (.cells #[.string ⟨#[97]⟩, .int .u32 0, .bool false, .int .i64 1, .int .u64 5, .string ⟨#[]⟩, .slice none 0 0] 82)).heap.size (some ⟨w.heap.size, 0, none⟩) :=
    ⟨by have := Rd.cells w #[.string ⟨#[97]⟩, .int .u32 0, .bool false, .int .i64 1, .int .u64 5, .string ⟨#[]⟩, .slice none 0 0] 82; rw [World.size_alloc]; exact this, Rd.nil, trivial, trivial⟩
  have hput := pPut_any psx _ 1 _ psx_ok (by simp [psx, Ps.list]) hA (hK.below hE hK.pos)
  rw [psx_put] at hput
  unfold BPost at hput
  simp only [List.length_cons, List.length_nil] at hput
  clear hA
  refine Calls.mono (show Calls Tryd.prog 17 #[.slice (some ⟨w.heap.size, 0, none⟩) 1 1] _ _ from hput) ?_
  rintro e w1 ⟨A, c, rfl, ho, hB⟩
  have hst := strB (Rd.of_own ho) rfl c
  simp only [List.length_cons, List.length_nil] at hst
  clear hput ho
  go_wp2_with fail
  go_ret
  exact ⟨rfl, bel_step hE hB⟩
set_option maxRecDepth 100000 in
set_option maxHeartbeats 2000000 in
theorem pputs_any (l : Ps) (A : Option Addr) (c : Nat) (w : World) (hd : l.depth ≤ 4000000) (hok : l.Ok) (hlen : l.list.length ≤ 9223372036854775807) (hat : l.At w w.heap.size A) (hK : Kinds w) :
    Calls Tryd.prog 4 #[.slice A l.list.length c] w fun e w' => e = .returned (.bool true) ∧ Below w.heap.size w w' := by
  have h1 := fun W (hB : Below w.heap.size w W) => pPut_any l A c W hok hlen ((hat.below hB (Nat.le_refl _)).more hB.size) (hK.below hB hK.pos)
  have h2 := fun W (hB : Below w.heap.size w W) => rpPut_any l A c W hok hlen ((hat.below hB (Nat.le_refl _)).more hB.size)
  have h3 := fun W (hB : Below w.heap.size w W) => depth_any l A c W hd hok hlen ((hat.below hB (Nat.le_refl _)).more hB.size)
  have h4 := fun W (hB : Below w.heap.size w W) => rdepth_any l A c W hd hok hlen ((hat.below hB (Nat.le_refl _)).more hB.size)
  obtain ⟨q, hq⟩ : ∃ q, l.put 1 = q := ⟨_, rfl⟩
  rw [hq] at h1 h2
  obtain ⟨L, er⟩ := q
  unfold BPost at h1 h2
  simp only at h1 h2 ⊢
  generalize l.list.length = n at *
  generalize l.depth = d at *
  have HK := Lib.hid hK
  obtain ⟨N, hN⟩ : ∃ N, L.length = N := ⟨_, rfl⟩
  rw [hN] at h1 h2
  have HN := Lib.hid hN
  clear hd hok hq hK hN hat
  go_enter Tryd.func4, Tryd.ntmps4
  go_wp2_with fail
  refine (h1 w (Below.refl _ _)).mono ?_
  rintro e w1 ⟨B1, d1, rfl, ho1, hW1⟩
  clear h1
  go_wp2_with fail
  refine (h2 w1 hW1).mono ?_
  rintro e w2 ⟨B2, d2, rfl, ho2, hB2⟩
  have hW2 := bel_step hW1 hB2
  have hs1 := strB ((Rd.of_own ho1).below hB2 (Nat.le_refl _)) HN.out d1
  have hs2 := strB (Rd.of_own ho2) HN.out d2
  clear h2 ho1 ho2 hB2 hW1
  go_wp2_with fail
  refine (h3 w2 hW2).mono ?_
  rintro e w3 ⟨rfl, hB3⟩
  have hW3 := bel_step hW2 hB3
  clear h3 hs1 hs2 hB3
  go_wp2_with fail
  refine (h4 w3 hW3).mono ?_
  rintro e w4 ⟨rfl, hB4⟩
  have hW4 := bel_step hW3 hB4
  clear h4 hB4
  go_wp2_with fail
  refine (awake7_any w4 (HK.out.below hW4 HK.out.pos)).mono ?_
  rintro e w5 ⟨rfl, hB5⟩
  go_wp2_with fail
  go_ret
  exact ⟨rfl, bel_step hW4 hB5⟩
end Go.Proofs.YtlgokfgbcohioaaDoor
