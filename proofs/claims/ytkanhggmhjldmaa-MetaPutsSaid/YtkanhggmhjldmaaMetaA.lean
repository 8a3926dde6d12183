/- WALK: meta's parts. -/
import Derived.Test.YtkanhggmhjldmaaRWPuts
import Derived.Laws.EntriesVeiled
import Derived.RangeFuncCalls
import Derived.RangeFuncRecord
import Derived.BigQuiet
import Derived.Deep.QuietTactic
namespace Go.Proofs.Ytkanhggmhjldmaa
open Go.RowKit Plain

theorem results_cell {fn : Func} {p : Tmp} {ty : TypeId} (h : fn.results = #[.cell p ty]) (tmps : Array Value) (P : Program) (w : World) :
    (results fn tmps).run P w = ((asAddr (tmps.getD p undef)).run P w).andThen fun a w₁ => (loadVar ty a).run P w₁ := by
  simp only [results, h]
  simp [Sem.run_bind]
/-- a part of a meta: its box holds the pointer to its place -/
structure Prt where
  num : Int
  kind : Int
  tell : Nat
  take : Nat
  box : Nat
def Prt.cells (p : Prt) : List Value := [.int .i64 p.num, .int .i64 p.kind, .func (.func p.tell) #[] #[.pointer (some ⟨p.box, 0, none⟩)], .func (.func p.take) #[] #[.pointer (some ⟨p.box, 0, none⟩)]]
def PrtPost (num kind : Int) (tell take : Nat) (p : Addr) (w : World) (e : Ending) (w' : World) : Prop :=
  e = .returned (.agg (Prt.cells ⟨num, kind, tell, take, w.heap.size⟩).toArray) ∧ w'.cell? ⟨w.heap.size, 0, none⟩ = some (.pointer (some p)) ∧ w'.heap.size = w.heap.size + 2 ∧ Below w.heap.size w w'
theorem text_any (num : Int) (p : Addr) (w : World) :
    Calls Try.prog 46 #[.int .i64 num, .pointer (some p)] w (PrtPost num 2 62 63 p w) := by
  go_enter Try.func46, Try.ntmps46
  go_wp2
  refine bodyPost_ret (v := .agg (Prt.cells ⟨num, 2, 62, 63, w.heap.size⟩).toArray) ?_ rfl ⟨rfl, ?_⟩
  · rw [results_cell rfl]; go_simp; rfl
  · exact ⟨by go_simp, by simp, ((Below.refl _ w).alloc (Nat.le_refl _) _).alloc (by simp) _⟩
theorem number_any (num : Int) (p : Addr) (w : World) :
    Calls Try.prog 47 #[.int .i64 num, .pointer (some p)] w (PrtPost num 0 64 65 p w) := by
  go_enter Try.func47, Try.ntmps47
  go_wp2
  refine bodyPost_ret (v := .agg (Prt.cells ⟨num, 0, 64, 65, w.heap.size⟩).toArray) ?_ rfl ⟨rfl, ?_⟩
  · rw [results_cell rfl]; go_simp; rfl
  · exact ⟨by go_simp, by simp, ((Below.refl _ w).alloc (Nat.le_refl _) _).alloc (by simp) _⟩
theorem flag_any (num : Int) (p : Addr) (w : World) :
    Calls Try.prog 45 #[.int .i64 num, .pointer (some p)] w (PrtPost num 0 60 61 p w) := by
  go_enter Try.func45, Try.ntmps45
  go_wp2
  refine bodyPost_ret (v := .agg (Prt.cells ⟨num, 0, 60, 61, w.heap.size⟩).toArray) ?_ rfl ⟨rfl, ?_⟩
  · rw [results_cell rfl]; go_simp; rfl
  · exact ⟨by go_simp, by simp, ((Below.refl _ w).alloc (Nat.le_refl _) _).alloc (by simp) _⟩
theorem tellT_any (B : Nat) (q : Addr) (s : ByteArray) (w : World) (hb : w.cell? ⟨B, 0, none⟩ = some (.pointer (some q))) (hq : w.cell? q = some (.string s)) :
    Calls Try.prog 62 #[.pointer (some ⟨B, 0, none⟩)] w fun e w' => e = .returned (.tuple #[.int .u64 0, .string s]) ∧ Below w.heap.size w w' := by
  go_enter Try.func62, Try.ntmps62
  go_wp2
  go_quiet (fail)
  go_wp2
  go_ret2
  exact ⟨rfl, below_drewN (Below.refl _ w) _⟩
theorem tellN_any (B : Nat) (q : Addr) (n : Int) (w : World) (hb : w.cell? ⟨B, 0, none⟩ = some (.pointer (some q))) (hq : w.cell? q = some (.int .u64 n)) :
    Calls Try.prog 64 #[.pointer (some ⟨B, 0, none⟩)] w fun e w' => e = .returned (.tuple #[.int .u64 n, .string ⟨#[]⟩]) ∧ Below w.heap.size w w' := by
  go_enter Try.func64, Try.ntmps64
  go_wp2
  go_ret2
  exact ⟨rfl, Below.refl _ w⟩
theorem tellF_any (B : Nat) (q : Addr) (b : Bool) (w : World) (hb : w.cell? ⟨B, 0, none⟩ = some (.pointer (some q))) (hq : w.cell? q = some (.bool b)) :
    Calls Try.prog 60 #[.pointer (some ⟨B, 0, none⟩)] w fun e w' => e = .returned (.tuple #[.int .u64 (if b then 1 else 0), .string ⟨#[]⟩]) ∧ Below w.heap.size w w' := by
  go_enter Try.func60, Try.ntmps60
  cases b
  all_goals go_wp2
  all_goals go_ret2
  all_goals exact ⟨rfl, Below.refl _ w⟩
end Go.Proofs.Ytkanhggmhjldmaa
