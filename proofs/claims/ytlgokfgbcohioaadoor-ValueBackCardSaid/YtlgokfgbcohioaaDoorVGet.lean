/- WALK: varint.Get computes vget: in a fence. -/
import Derived.Test.YtlgokfgbcohioaaDoorVGetL
namespace Go.Proofs.YtlgokfgbcohioaaDoor
open Go.RowKit Go.Shelf Plain

attribute [local go_sem] Oper.semAt_some

set_option maxRecDepth 100000 in
set_option maxHeartbeats 4000000 in
theorem vget_in (F : Fence) (n : Nat) (h28 : F.fn 104) (h39 : F.fn 116) (h43 : F.fn 121) (hro : F.round = none) (hn : 3 ≤ n)
    (A : Option Addr) (len c : Nat) (l : List UInt8) (hlen : l.length = len) (hnc : len ≤ c) (hl : l.length ≤ 140737488355328) (q : Nat) (hq : q ≤ len) (w : World) (hr : Rd w w.heap.size A (bcl l)) :
    CallsIn F n Tryd.prog 104 #[.slice A len c, .int .i64 q] w fun e w' =>
      e = .returned (.tuple #[.int .u64 (vget l q).1, .int .i64 (vget l q).2.1, .int .i64 (vget l q).2.2]) ∧ Below w.heap.size w w' := by
  have h1 : 1 ≤ n := by omega
  subst hlen
  refine callsIn_of_wp_marks Tryd.func104 rfl h28 ?_ hro
  simp only [Tryd.ntmps104, List.size_toArray, List.length_cons, List.length_nil, Nat.reduceAdd, Nat.reduceSub, Array.replicate_succ, Array.replicate_zero, List.push_toArray, List.append_toArray, List.nil_append, List.cons_append]
  have HR := Lib.hid hr
  have HQ := Lib.hid (rfl : vget l q = vget l q)
  clear hr
  gi_wp2_with (first | apply wpIn_scope_straight | apply wpIn_label | (gi_at_call 116; refine (septets_in F (n - 1) h39 hro _ _ _ _).mono ?_; rintro e w' ⟨rfl, rfl⟩))
  all_goals
    have hrd : Rd w w.heap.size (if c = q then A else A.map (·.add (q * 1))) ((bcl l).drop (q * 1)) := HR.out.drop (by simp [bcl]; omega)
    obtain ⟨W0, hW0⟩ : ∃ W0, (((w.alloc (Obj.cells #[Value.int IntKind.u64 0] 40)).alloc (Obj.cells #[Value.int IntKind.i64 0] 3)).alloc (Obj.cells #[Value.bool false] 4)) = W0 := ⟨_, rfl⟩
    have bV : Boxed W0 w.heap.size 40 (.int .u64 0) := by rw [← hW0]; exact ((Boxed.new _ _ _).alloc _).alloc _
    have bN : Boxed W0 (w.heap.size + 1) 3 (.int .i64 0) := by rw [← hW0]; exact (by simpa using Boxed.new (w.alloc (Obj.cells #[Value.int IntKind.u64 0] 40)) 3 (.int .i64 0) : Boxed _ (w.heap.size + 1) _ _).alloc _
    have bD : Boxed W0 (w.heap.size + 1 + 1) 4 (.bool false) := by rw [← hW0]; simpa using Boxed.new ((w.alloc (Obj.cells #[Value.int IntKind.u64 0] 40)).alloc (Obj.cells #[Value.int IntKind.i64 0] 3)) 4 (.bool false)
    have hS0 : W0.heap.size = w.heap.size + 1 + 1 + 1 := by rw [← hW0]; simp
    have hB0 : Below w.heap.size w W0 := by rw [← hW0]; exact (((Below.refl _ w).alloc (Nat.le_refl _) _).alloc (by simp) _).alloc (by simp; omega) _
    rw [hW0]
    clear hW0
    first | rw [if_pos (by assumption)] at hrd | rw [if_neg (by assumption)] at hrd
    rw [Nat.mul_one] at hrd
    have hrD : Rd W0 w.heap.size _ (bcl (l.drop q)) := (by rw [show bcl (l.drop q) = (bcl l).drop q by simp [bcl]]; exact hrd : Rd w w.heap.size _ (bcl (l.drop q))).below hB0 (Nat.le_refl _)
    refine' wpIn_rangeFunc_ownG hro h1 (gf := 121) (lb := #[.pointer (some ⟨w.heap.size + 1 + 1 + 1, 0, none⟩)]) rfl h43 (enters_of Tryd.func121 (by kernel_rfl) rfl)
      (sept_stops F (n - 1) h43 hro (by omega) (w.heap.size + 1 + 1 + 1) w.heap.size _ _ (l.drop q) (by simp; omega) _ (by rw [List.length_drop, ← hS0]; exact (Boxed.new W0 _ _).cell) (by simp; omega) (by simp; omega) (hrD.alloc (by omega) _))
      Keeps.trans (keepsB (by simp; omega) (by simp; omega)) (Below.refl _ _) (fun _ => rfl)
      (InvR w.heap.size w (l.drop q)) (InvX w.heap.size w (l.drop q)) (InvR.own (Nat.le_refl _) (by simp; omega)) (fun c => InvX.own c (Nat.le_refl _) (by simp; omega))
      ⟨⟨bN.alloc _, bD.alloc _, _, bV.alloc _, fun _ => ⟨0, rfl, by simp, rfl⟩⟩, hB0.alloc (by omega) _⟩ _ ?assign ?body ?done ?stop
    case assign =>
      intro l x W K hK
      dsimp only [encSept]
      gi_wp2
      exact hK
    case body =>
      rintro l' pre x W ⟨⟨bN, bD, v, bV, hsf⟩, hB⟩ hlt
      by_cases hcl : (l.drop q).length = 0
      · exfalso; omega
      have hcq : ¬ c = q := by rw [List.length_drop] at hcl; omega
      have HS := Lib.hid hsf
      have hk10 : pre.length < 10 := by omega
      have hx10 := x.2.1
      have hx8 : x.1.2.toNat < 256 := x.1.2.toNat_lt
      have cN := bN.cell; have fN := bN.frozen; have cV := bV.cell; have fV := bV.frozen; have cD := bD.cell; have fD := bD.frozen
      have hmx : Tryd.prog.follows .mixedOrders = true := by kernel_rfl
      clear hsf hlt hrd hrD HR hB0 hcl
      generalize hi : x.1.1 = i at *
      generalize hcb : x.1.2.toNat = cb at *
      have HI := Lib.hid hi
      have HCB := Lib.hid hcb
      clear hi hcb
      first
      | (exfalso; exact hcq (by assumption))
      | (gi_wp2
         · exact round_long hB bN bD bV HS.out HCB.out (by assumption) (by assumption)
         · gi_region_o
           all_goals
             gi_wp2
             exact round_done hB bN bD bV HS.out HCB.out HI.out hk10 (fun _ => by omega) (by assumption) (by omega)
         · gi_region_o
           all_goals
             gi_wp2
             · exact round_done hB bN bD bV HS.out HCB.out HI.out hk10 (fun e => by omega) (by assumption) rfl
             · exact round_more hB bN bD bV HS.out HCB.out HI.out hk10 (fun e => by omega) (by assumption) rfl)
    case done =>
      rintro D ys W hD ⟨hseq, hys⟩ ⟨⟨bN, bD, v, bV, hsf⟩, hB⟩ hK
      have he := sofar_end (hsf hseq) hys
      have cN := bN.cell; have fN := bN.frozen; have cD := bD.cell; have fD := bD.frozen
      have hk10 : ys.length ≤ 10 := by omega
      have HD := Lib.hid hD
      clear hsf hys hrd hrD HR hB0 hD
      dsimp only
      by_cases h10 : ys.length = 10
      · have HV := Lib.hid (vget_err (e := 2) (he.trans (by rw [if_pos h10])) hq)
        rw [h10] at cN
        clear he
        gi_wp2_with (first | apply wpIn_scope_straight | apply wpIn_label)
        refine ⟨by simp, .inl ⟨_, _, rfl, run_takeDeferred hK, ?_⟩⟩
        refine ⟨_, results_tmp3 rfl _ _ _, ?_, hB.trans (belowK_b (w := w) (Nat.le_refl _) _ D _ _ (by have := HD.out; simp at this; omega) hK rfl rfl)⟩
        rw [HV.out]
        rfl
      · have HV := Lib.hid (vget_err (e := 1) (he.trans (by rw [if_neg h10])) hq)
        clear he
        gi_wp2_with (first | apply wpIn_scope_straight | apply wpIn_label)
        refine ⟨by simp, .inl ⟨_, _, rfl, run_takeDeferred hK, ?_⟩⟩
        refine ⟨_, results_tmp3 rfl _ _ _, ?_, hB.trans (belowK_b (w := w) (Nat.le_refl _) _ D _ _ (by have := HD.out; simp at this; omega) hK rfl rfl)⟩
        rw [HV.out]
        rfl
    case stop =>
      rintro D c' pre W hD ⟨hseq, hk⟩ ⟨⟨rfl, d, v, bN, bD, bV, hsf⟩, hB⟩ hK
      dsimp only
      have cN := bN.cell; have fN := bN.frozen; have cD := bD.cell; have fD := bD.frozen; have cV := bV.cell; have fV := bV.frozen
      have hk10 : pre.length ≤ 10 := by omega
      have hkl : pre.length ≤ l.length - q := by rw [List.length_drop] at hk; omega
      rcases hsf hseq with ⟨rfl, h10, he⟩ | ⟨rfl, m, rfl, he⟩
      · have HV := Lib.hid (vget_err (e := 2) he hq)
        have HD := Lib.hid hD
        rw [h10] at cN
        clear hsf he hrd hrD HR hB0 hD
        gi_wp2_with (first | apply wpIn_scope_straight | apply wpIn_label)
        refine ⟨by simp, .inl ⟨_, _, rfl, run_takeDeferred hK, ?_⟩⟩
        refine ⟨_, results_tmp3 rfl _ _ _, ?_, hB.trans (belowK_b (w := w) (Nat.le_refl _) _ D _ _ (by have := HD.out; simp at this; omega) hK rfl rfl)⟩
        rw [HV.out]
        rfl
      · have HV := Lib.hid (vget_ok he hq)
        have HD := Lib.hid hD
        have hmx : Tryd.prog.follows .mixedOrders = true := by kernel_rfl
        clear hsf he hrd hrD HR hB0 hD hk
        gi_wp2_with (first | apply wpIn_scope_straight | apply wpIn_label)
        gi_region_o
        all_goals
          gi_wp2_with (first | apply wpIn_scope_straight | apply wpIn_label)
          refine ⟨by simp, .inl ⟨_, _, rfl, run_takeDeferred hK, ?_⟩⟩
          refine ⟨_, results_tmp3 rfl _ _ _, ?_, (hB.trans (Below.refl _ W).drew).trans (belowK_b (w := w) (Nat.le_refl _) _ D _ _ (by have := HD.out; simp at this; omega) hK rfl rfl)⟩
          rw [HV.out]
          exact ret3_int rfl (by simp only [IntKind.wrap_i64]; omega) rfl
end Go.Proofs.YtlgokfgbcohioaaDoor
