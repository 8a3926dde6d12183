/- WALK: meta.fields -/
import Derived.Test.YtkanhggmhjldmaaMetaP
import Derived.LoopTactic
namespace Go.Proofs.Ytkanhggmhjldmaa
open Go.RowKit Plain

structure MM where
  multi : Bool
  type : ByteArray
  size : Nat
  seq : Nat
  file : ByteArray
  kind : ByteArray
  md5 : ByteArray
  desc : ByteArray
def MM.cells (m : MM) : Array Value := #[.bool m.multi, .string m.type, .int .u64 m.size, .int .u64 m.seq, .string m.file, .string m.kind, .string m.md5, .string m.desc]
/-- the fields that a meta may have -/
def mall (m : MM) : List Fld := [⟨1, 0, if m.multi then 1 else 0, ⟨#[]⟩⟩, ⟨2, 2, 0, m.type⟩, ⟨3, 0, m.size, ⟨#[]⟩⟩, ⟨4, 0, m.seq, ⟨#[]⟩⟩, ⟨5, 2, 0, m.file⟩, ⟨6, 2, 0, m.kind⟩, ⟨7, 2, 0, m.md5⟩, ⟨8, 2, 0, m.desc⟩]
def fhas (f : Fld) : Bool := (f.val : Int) != 0 || !f.text.toList.isEmpty
def mfields (m : MM) : List Fld := (mall m).filter fhas
def mfto (m : MM) (j : Nat) : List Fld := ((mall m).take j).filter fhas
/-- block B is the box of a meta -/
def BoxM (W : World) (B : Nat) (m : MM) : Prop := W.heap[B]? = some (.cells m.cells 24 (0, 0))
theorem BoxM.lt {W : World} {B : Nat} {m : MM} (h : BoxM W B m) : B < W.heap.size := (Array.getElem?_eq_some_iff.1 h).1
theorem BoxM.below {W W' : World} {B C : Nat} {m : MM} (h : BoxM W B m) (hb : Below C W W') (hC : B < C) : BoxM W' B m := (hb.block B hC).trans h
theorem BoxM.cell {W : World} {B : Nat} {m : MM} (h : BoxM W B m) (i : Nat) : W.cell? ⟨B, i, none⟩ = m.cells[i]? := by simp [World.cell?, show W.heap[B]? = _ from h]

theorem elemF : Elem Try.prog 34 49 (.agg #[.int .i64 0, .int .i64 0, .int .u64 0, .string ⟨#[]⟩]) 4 40 :=
  ⟨Try.underlying34, info_parts (show (Try.prog.info? 49).map (fun i => (i.zero, i.size, i.bytes)) = some (some (.agg #[.int .i64 0, .int .i64 0, .int .u64 0, .string ⟨#[]⟩]), 4, 40) by kernel_rfl), rfl, by omega⟩

theorem cf60 (args : Array Value) (W : World) : (callFunc 60 args).run Try.prog W = .ok (.enter 60 args) W := by go_simp
theorem cf62 (args : Array Value) (W : World) : (callFunc 62 args).run Try.prog W = .ok (.enter 62 args) W := by go_simp
theorem cf64 (args : Array Value) (W : World) : (callFunc 64 args).run Try.prog W = .ok (.enter 64 args) W := by go_simp
/-- what a part tells -/
theorem tells_any (m : MM) (M B j : Nat) (hj : j < 8) : ∃ (p : Prt) (f : Fld), (prts B)[j]? = some p ∧ (mall m)[j]? = some f ∧ p.num = f.num ∧ p.kind = f.kind ∧ p.box = B + 2 * j ∧ (∀ args W, (callFunc p.tell args).run Try.prog W = .ok (.enter p.tell args) W) ∧
    ∀ W : World, W.cell? ⟨p.box, 0, none⟩ = some (.pointer (some ⟨M, j, none⟩)) → W.cell? ⟨M, j, none⟩ = m.cells[j]? →
      Calls Try.prog p.tell #[.pointer (some ⟨p.box, 0, none⟩)] W fun e w' => e = .returned (.tuple #[.int .u64 f.val, .string f.text]) ∧ Below W.heap.size W w' := by
  have h8 : j = 0 ∨ j = 1 ∨ j = 2 ∨ j = 3 ∨ j = 4 ∨ j = 5 ∨ j = 6 ∨ j = 7 := by omega
  rcases h8 with rfl | rfl | rfl | rfl | rfl | rfl | rfl | rfl
  · refine ⟨_, _, rfl, rfl, rfl, rfl, rfl, cf60, fun W h1 h2 => ?_⟩
    refine (tellF_any _ _ m.multi W h1 h2).mono ?_
    rintro e w' ⟨rfl, hB⟩
    exact ⟨by cases m.multi <;> rfl, hB⟩
  · exact ⟨_, _, rfl, rfl, rfl, rfl, rfl, cf62, fun W h1 h2 => tellT_any _ _ m.type W h1 h2⟩
  · exact ⟨_, _, rfl, rfl, rfl, rfl, rfl, cf64, fun W h1 h2 => tellN_any _ _ m.size W h1 h2⟩
  · exact ⟨_, _, rfl, rfl, rfl, rfl, rfl, cf64, fun W h1 h2 => tellN_any _ _ m.seq W h1 h2⟩
  · exact ⟨_, _, rfl, rfl, rfl, rfl, rfl, cf62, fun W h1 h2 => tellT_any _ _ m.file W h1 h2⟩
  · exact ⟨_, _, rfl, rfl, rfl, rfl, rfl, cf62, fun W h1 h2 => tellT_any _ _ m.kind W h1 h2⟩
  · exact ⟨_, _, rfl, rfl, rfl, rfl, rfl, cf62, fun W h1 h2 => tellT_any _ _ m.md5 W h1 h2⟩
  · exact ⟨_, _, rfl, rfl, rfl, rfl, rfl, cf62, fun W h1 h2 => tellT_any _ _ m.desc W h1 h2⟩
theorem prt_cell {W : World} {R B j : Nat} {p : Prt} (hr : W.heap[R]? = some (.cells (pcl B) 66 (0, 0))) (hp : (prts B)[j]? = some p) :
    W.cell? ⟨R, j * 4, none⟩ = some (.int .i64 p.num) ∧ W.cell? ⟨R, j * 4 + 1, none⟩ = some (.int .i64 p.kind) ∧
    W.cell? ⟨R, j * 4 + 2, none⟩ = some (.func (.func p.tell) #[] #[.pointer (some ⟨p.box, 0, none⟩)]) ∧ W.cell? ⟨R, j * 4 + 3, none⟩ = some (.func (.func p.take) #[] #[.pointer (some ⟨p.box, 0, none⟩)]) := by
  have hj : j < 8 := by have := (List.getElem?_eq_some_iff.1 hp).1; simpa [prts] using this
  have h8 : j = 0 ∨ j = 1 ∨ j = 2 ∨ j = 3 ∨ j = 4 ∨ j = 5 ∨ j = 6 ∨ j = 7 := by omega
  rcases h8 with rfl | rfl | rfl | rfl | rfl | rfl | rfl | rfl
  all_goals obtain rfl := Option.some.inj hp
  all_goals refine ⟨?_, ?_, ?_, ?_⟩ <;> (simp only [World.cell?, hr]; rfl)
theorem mfto_step {m : MM} {j : Nat} {f : Fld} (h : (mall m)[j]? = some f) : mfto m (j + 1) = if fhas f = true then mfto m j ++ [f] else mfto m j := by
  unfold mfto
  rw [List.take_add_one, h]
  cases hf : fhas f <;> simp [hf]

set_option maxHeartbeats 4000000 in
theorem fields_any (m : MM) (w : World) :
    Calls Try.prog 30 #[.agg m.cells] w fun e w' => ∃ A c, e = .returned (.slice A (mfields m).length c) ∧ w'.ownsRow w.heap.size 49 4 (.slice A (mfields m).length c) (mfields m).length (flc (mfields m)) ∧ Below w.heap.size w w' := by
  go_enter Try.func30, Try.ntmps30
  go_wp2_with fail
  refine (parts_any _ _).mono ?_
  rintro e w1 ⟨rfl, hrow, hX, hZ, hB1⟩
  simp only [World.size_alloc] at hrow hX hZ hB1 ⊢
  have hM := (show BoxM (w.alloc (Obj.cells m.cells 24)) w.heap.size m from World.alloc_heap_new w _).below hB1 (by omega)
  have hW : Below w.heap.size w w1 := ((Below.refl _ w).alloc (Nat.le_refl _) _).trans (hB1.mono (by omega))
  clear hB1
  go_wp2_with fail
  go_loopw [3, 10] (fun o i wr => ∃ (j : Nat) (A2 : Option Addr) (c2 : Nat), i = .int .i64 j ∧ o = .slice A2 (mfto m j).length c2 ∧ j ≤ 8 ∧ wr.ownsRow w1.heap.size 49 4 (.slice A2 (mfto m j).length c2) (mfto m j).length (flc (mfto m j)) ∧ Below w1.heap.size w1 wr) (fun _ i _ => 8 - (intOf i).toNat)
  case atStart => exact ⟨0, none, 0, rfl, rfl, Nat.zero_le _, World.ownsRow_nil _ _ _ _, Below.refl _ _⟩
  case round =>
    obtain ⟨j, A2, c2, rfl, rfl, hj, hown, hB⟩ := hrel
    by_cases hlt : j < 8
    · obtain ⟨p, f, hp, hf, e1, e2, e3, hcf, htell⟩ := tells_any m w.heap.size (w.heap.size + 1) j hlt
      have hrow2 := (hB.block _ (by omega)).trans hrow
      obtain ⟨g0, g1, g2, g3⟩ := prt_cell hrow2 hp
      have hbx := hX.below (hB.mono (by omega)) (p.box, j) (by rw [e3]; exact List.mem_map.2 ⟨j, by simpa using hlt, rfl⟩)
      have hM2 := hM.below hB (by omega)
      have hbs := hB.size
      obtain ⟨pn, pk, pt, pa, pb⟩ := p
      obtain ⟨fn, fk, fv, ft⟩ := f
      simp only at g0 g1 g2 g3 hcf htell hbx e1 e2 e3
      subst e1 e2
      have HF := Lib.hid hf
      clear hp hf
      go_wp2_with fail
      obtain ⟨Wp, hWp⟩ : ∃ Wp, wr.alloc (Obj.cells #[Value.int IntKind.i64 pn, Value.int IntKind.i64 pk, Value.func (Fn.func pt) #[] #[Value.pointer (some ⟨w.heap.size + 1 + 2 * j, 0, none⟩)], Value.func (Fn.func pa) #[] #[Value.pointer (some ⟨w.heap.size + 1 + 2 * j, 0, none⟩)]] 66) = Wp := ⟨_, rfl⟩
      have hPp : Wp.heap[wr.heap.size]? = some (Obj.cells #[Value.int IntKind.i64 pn, Value.int IntKind.i64 pk, Value.func (Fn.func pt) #[] #[Value.pointer (some ⟨w.heap.size + 1 + 2 * j, 0, none⟩)], Value.func (Fn.func pa) #[] #[Value.pointer (some ⟨w.heap.size + 1 + 2 * j, 0, none⟩)]] 66 (0, 0)) := by rw [← hWp]; exact World.alloc_heap_new wr _
      have hpb : Below wr.heap.size wr Wp := by rw [← hWp]; exact (Below.refl _ _).alloc (Nat.le_refl _) _
      have hWs : Wp.heap.size = wr.heap.size + 1 := by rw [← hWp]; simp
      subst e3
      rw [hWp]
      refine (htell Wp ((hpb.cell hbx.2).trans hbx.1) ((hM2.below hpb (by omega)).cell j)).mono ?_
      rintro e w2 ⟨rfl, hB2⟩
      have hP2 := (hB2.block _ (by omega)).trans hPp
      have hB3 : Below w1.heap.size w1 w2 := (bel_step hB hpb).trans (hB2.mono (by omega))
      have hown2 := own_kept hown (bel_step hpb hB2) (Nat.le_refl _)
      have hs2 := hB2.size
      have hs2b : w1.heap.size ≤ w2.heap.size := hB3.size
      have p0 : w2.cell? ⟨wr.heap.size, 0, none⟩ = some (.int .i64 pn) := by simp [World.cell?, hP2]
      have p1 : w2.cell? ⟨wr.heap.size, 1, none⟩ = some (.int .i64 pk) := by simp [World.cell?, hP2]
      clear hWp hPp hpb hP2 hB2 g0 g1 g2 g3 hbx hM2 htell hcf hrow2 hown hB hrow hX
      cases hh : fhas ⟨pn, pk, fv, ft⟩
      · have hst := mfto_step HF.out
        rw [hh] at hst
        have h1 : ((fv : Int) != 0) = false := by unfold fhas at hh; simp at hh; simpa using hh.1
        have h2 : ft.toList.isEmpty = true := by unfold fhas at hh; simp at hh; simpa using hh.2
        have HST := Lib.hid hst
        clear hst hh
        go_wp2_with fail
        go_roundw
        case rel => exact ⟨j + 1, A2, c2, by go_num, by rw [HST.out]; rfl, by omega, by rw [HST.out]; exact hown2, hB3⟩
        case measure => simp [intOf]; omega
      · have hst := mfto_step HF.out
        rw [hh] at hst
        have HST := Lib.hid hst
        have hlen : (mfto m j).length ≤ 8 := by unfold mfto; exact Nat.le_trans (List.length_filter_le _ _) (by simp [mall]; omega)
        have hor : ((fv : Int) != 0) = true ∨ ((fv : Int) != 0) = false ∧ ft.toList.isEmpty = false := by
          unfold fhas at hh
          cases h1 : ((fv : Int) != 0)
          · right; exact ⟨rfl, by simpa [h1] using hh⟩
          · exact .inl rfl
        clear hst hh
        rcases hor with h1 | ⟨h1, h2⟩
        all_goals go_wp2_with (at_builtin; refine wpList_app1 rfl _ _ _ rfl elemF rfl hown2 rfl rfl (by intro u hu; simp at hu; rcases hu with rfl | rfl | rfl | rfl <;> rfl) (by unfold maxLen; omega) (by omega) hs2b ?_; intro A5 c5 w5 ho5 hg5 _)
        all_goals go_roundw
        case rel | rel => exact ⟨j + 1, A5, c5, by go_num, by rw [HST.out]; simp, by omega, by rw [HST.out]; simpa [flc, Fld.cells] using ho5, own_grown hB3 hown2 hs2b hg5⟩
        case measure | measure => simp [intOf]; omega
    · go_wp2_with fail
      go_ret
      have e : mfto m j = mfields m := by unfold mfto mfields; rw [List.take_of_length_le (by simp [mall]; omega)]
      rw [e] at hown
      rw [e]
      exact ⟨_, _, rfl, own_base hown (by omega), bel_step hW hB⟩
end Go.Proofs.Ytkanhggmhjldmaa
