/-
  NARROWER THAN 'FOR EVERY INPUT', by the rows' own cells (each row's printed sentence says how): MetricPuts: loops · PayloadPuts: loops · MetricSame: loops · PayloadTold: loops · PayloadSame: loops.
  DERIVED. THE GIVEN ROWS OF THIS SEAT. 5 by the template 'for every input the law returns true; each argument reads behind the call as it read before'; 0 by the template 'total and deterministic' (their statements: YtaahhommfpohhaaTotals.lean).
  GIVEN WITH THE SEED: the statements are not yours to turn. If you find one false, say at which input.
  Laid BY PROGRAM, IN A SANDBOX (cutbox-rows.mjs): the forced cells as the released guide's own fill.sh prints them over the translation 580c8af489e6cb7e… (all of the seat's roots in one cut). By AI agents, Wed Nov 11 2026. No macro, syntax, notation, axiom, sorry.
-/
import Derived.Test.YtaahhommfpohhaaChecked
import GoSem.Claim
import GoSem.ClaimJoined
import GoSem.ClaimMapViews
import Derived.JoinedTies
import Derived.KernelRfl
namespace Go.Proofs.Ytaahhommfpohhaa
/- THE CELL 'sum', in the pinned program and in every row, IS THE sha256 OF THE DUMP (.gsa) THAT YtaahhommfpohhaaProg.lean LOADS. Nothing in Lean hashes anything: it is a label: what it is worth is what the hold of that sum in a sandbox is worth. -/
noncomputable def Try.pinned : Pinned := { name := "ytaahhommfpohhaa", sum := "580c8af489e6cb7e0fc579127820b47aa1e646298283dca66a8a7da8d5b8e6ee", checked := Try.checked }
namespace Rows
def none {H : Type} : Left H := { results := [], args := [] }

/-- 'crierlaw09.MetricPuts': WHATEVER THE INPUT: true; the input reads as it did. -/
def metricPutsSpec : ChangeSpec := { name := "metricPuts", fn := fun _ => fun
  | [d] => { results := [.lit (.bool true)], args := [d] }
  | _ => none }
def metricPutsRow : OpenClaim := { program := "ytaahhommfpohhaa", sum := "580c8af489e6cb7e0fc579127820b47aa1e646298283dca66a8a7da8d5b8e6ee", func := "crier/crierlaw09.MetricPuts", spec := "metricPuts", unfollowed := true, recurses := true, loops := true, apart := false }
def MetricPutsSaid : Prop := metricPutsRow.holds Try.pinned (OpenSpec.ofChange metricPutsSpec)

/-- ITS FALSE NEIGHBOUR: 'it returns false'. Refute it at one input. -/
def metricPutsWrong : ChangeSpec := { name := "metricPuts", fn := fun _ => fun
  | [d] => { results := [.lit (.bool false)], args := [d] }
  | _ => none }
def MetricPutsWrongFalsely : Prop := metricPutsRow.holds Try.pinned (OpenSpec.ofChange metricPutsWrong)

/-- 'crierlaw10.PayloadPuts': WHATEVER THE INPUT: true; the input reads as it did. -/
def payloadPutsSpec : ChangeSpec := { name := "payloadPuts", fn := fun _ => fun
  | [d] => { results := [.lit (.bool true)], args := [d] }
  | _ => none }
def payloadPutsRow : OpenClaim := { program := "ytaahhommfpohhaa", sum := "580c8af489e6cb7e0fc579127820b47aa1e646298283dca66a8a7da8d5b8e6ee", func := "crier/crierlaw10.PayloadPuts", spec := "payloadPuts", unfollowed := true, recurses := true, loops := true, apart := false }
def PayloadPutsSaid : Prop := payloadPutsRow.holds Try.pinned (OpenSpec.ofChange payloadPutsSpec)

/-- ITS FALSE NEIGHBOUR: 'it returns false'. Refute it at one input. -/
def payloadPutsWrong : ChangeSpec := { name := "payloadPuts", fn := fun _ => fun
  | [d] => { results := [.lit (.bool false)], args := [d] }
  | _ => none }
def PayloadPutsWrongFalsely : Prop := payloadPutsRow.holds Try.pinned (OpenSpec.ofChange payloadPutsWrong)

/-- 'crierlaw09.MetricSame': WHATEVER THE INPUT: true; the input reads as it did. -/
def metricSameSpec : ChangeSpec := { name := "metricSame", fn := fun _ => fun
  | [d1, d2] => { results := [.lit (.bool true)], args := [d1, d2] }
  | _ => none }
def metricSameRow : OpenClaim := { program := "ytaahhommfpohhaa", sum := "580c8af489e6cb7e0fc579127820b47aa1e646298283dca66a8a7da8d5b8e6ee", func := "crier/crierlaw09.MetricSame", spec := "metricSame", unfollowed := true, recurses := true, loops := true, apart := false }
def MetricSameSaid : Prop := metricSameRow.holds Try.pinned (OpenSpec.ofChange metricSameSpec)

/-- ITS FALSE NEIGHBOUR: 'it returns false'. Refute it at one input. -/
def metricSameWrong : ChangeSpec := { name := "metricSame", fn := fun _ => fun
  | [d1, d2] => { results := [.lit (.bool false)], args := [d1, d2] }
  | _ => none }
def MetricSameWrongFalsely : Prop := metricSameRow.holds Try.pinned (OpenSpec.ofChange metricSameWrong)

/-- 'crierlaw10.PayloadTold': WHATEVER THE INPUT: true; the input reads as it did. -/
def payloadToldSpec : ChangeSpec := { name := "payloadTold", fn := fun _ => fun
  | [d1, d2] => { results := [.lit (.bool true)], args := [d1, d2] }
  | _ => none }
def payloadToldRow : OpenClaim := { program := "ytaahhommfpohhaa", sum := "580c8af489e6cb7e0fc579127820b47aa1e646298283dca66a8a7da8d5b8e6ee", func := "crier/crierlaw10.PayloadTold", spec := "payloadTold", unfollowed := true, recurses := true, loops := true, apart := false }
def PayloadToldSaid : Prop := payloadToldRow.holds Try.pinned (OpenSpec.ofChange payloadToldSpec)

/-- ITS FALSE NEIGHBOUR: 'it returns false'. Refute it at one input. -/
def payloadToldWrong : ChangeSpec := { name := "payloadTold", fn := fun _ => fun
  | [d1, d2] => { results := [.lit (.bool false)], args := [d1, d2] }
  | _ => none }
def PayloadToldWrongFalsely : Prop := payloadToldRow.holds Try.pinned (OpenSpec.ofChange payloadToldWrong)

/-- 'crierlaw10.PayloadSame': WHATEVER THE INPUT: true; the input reads as it did. -/
def payloadSameSpec : ChangeSpec := { name := "payloadSame", fn := fun _ => fun
  | [d1, d2, d3] => { results := [.lit (.bool true)], args := [d1, d2, d3] }
  | _ => none }
def payloadSameRow : OpenClaim := { program := "ytaahhommfpohhaa", sum := "580c8af489e6cb7e0fc579127820b47aa1e646298283dca66a8a7da8d5b8e6ee", func := "crier/crierlaw10.PayloadSame", spec := "payloadSame", unfollowed := true, recurses := true, loops := true, apart := false }
def PayloadSameSaid : Prop := payloadSameRow.holds Try.pinned (OpenSpec.ofChange payloadSameSpec)

/-- ITS FALSE NEIGHBOUR: 'it returns false'. Refute it at one input. -/
def payloadSameWrong : ChangeSpec := { name := "payloadSame", fn := fun _ => fun
  | [d1, d2, d3] => { results := [.lit (.bool false)], args := [d1, d2, d3] }
  | _ => none }
def PayloadSameWrongFalsely : Prop := payloadSameRow.holds Try.pinned (OpenSpec.ofChange payloadSameWrong)

/- THE SECOND FORM. 'bulk': how many values and letters a reading holds, each counted each time it is reached (what is shared counts as often as it is met; a slice's spare places count too). A statement '..UptoSaid' is the law's where the arguments, and the package variables that the reading takes, are together of bulk at most 1048576: NARROWER than '..Said'. Prove '..Said' where nothing that the law and all that it calls make is longer than what came in: it says more and counts as full. Else prove '..UptoSaid'. A law counts once. -/
mutual
def uptoBulk {H : Type} : DataW H → Nat
  | .lit (.string bytes) => bytes.length + 1
  | .lit _ => 1
  | .nil => 1
  | .ptr d => uptoBulk d + 1
  | .slice elems spare => uptoBulkAll elems + uptoBulkAll spare + 1
  | .agg parts => uptoBulkAll parts + 1
  | .iface _ d => uptoBulk d + 1
  | .map entries => uptoBulkEntries entries + 1
  | .held _ => 1
def uptoBulkAll {H : Type} : List (DataW H) → Nat
  | [] => 0
  | d :: r => uptoBulk d + uptoBulkAll r
def uptoBulkEntries {H : Type} : List (Lit × DataW H) → Nat
  | [] => 0
  | x :: r => uptoBulkEntry x + uptoBulkEntries r
def uptoBulkEntry {H : Type} : Lit × DataW H → Nat
  | (.string bytes, d) => bytes.length + uptoBulk d + 1
  | (_, d) => uptoBulk d + 1
 end
def uptoSmall : (H : Type) → List (DataW H) → Bool := fun _ ds => decide (uptoBulkAll ds ≤ 1048576)
def OpenSpec.upto (s : _root_.Go.ChangeSpec) : _root_.Go.OpenSpec := { _root_.Go.OpenSpec.ofChange s with cond := some uptoSmall }

/-- 'crierlaw09.MetricPuts', WHERE WHAT IT READS IS OF BULK AT MOST 1048576: true; the input reads as it did. -/
def metricPutsUptoRow : OpenClaim := { program := "ytaahhommfpohhaa", sum := "580c8af489e6cb7e0fc579127820b47aa1e646298283dca66a8a7da8d5b8e6ee", func := "crier/crierlaw09.MetricPuts", spec := "metricPuts", unfollowed := true, recurses := true, loops := true, apart := false, narrowed := true }
def MetricPutsUptoSaid : Prop := metricPutsUptoRow.holds Try.pinned (OpenSpec.upto metricPutsSpec)

/-- 'crierlaw10.PayloadPuts', WHERE WHAT IT READS IS OF BULK AT MOST 1048576: true; the input reads as it did. -/
def payloadPutsUptoRow : OpenClaim := { program := "ytaahhommfpohhaa", sum := "580c8af489e6cb7e0fc579127820b47aa1e646298283dca66a8a7da8d5b8e6ee", func := "crier/crierlaw10.PayloadPuts", spec := "payloadPuts", unfollowed := true, recurses := true, loops := true, apart := false, narrowed := true }
def PayloadPutsUptoSaid : Prop := payloadPutsUptoRow.holds Try.pinned (OpenSpec.upto payloadPutsSpec)

/-- 'crierlaw09.MetricSame', WHERE WHAT IT READS IS OF BULK AT MOST 1048576: true; the input reads as it did. -/
def metricSameUptoRow : OpenClaim := { program := "ytaahhommfpohhaa", sum := "580c8af489e6cb7e0fc579127820b47aa1e646298283dca66a8a7da8d5b8e6ee", func := "crier/crierlaw09.MetricSame", spec := "metricSame", unfollowed := true, recurses := true, loops := true, apart := false, narrowed := true }
def MetricSameUptoSaid : Prop := metricSameUptoRow.holds Try.pinned (OpenSpec.upto metricSameSpec)

/-- 'crierlaw10.PayloadTold', WHERE WHAT IT READS IS OF BULK AT MOST 1048576: true; the input reads as it did. -/
def payloadToldUptoRow : OpenClaim := { program := "ytaahhommfpohhaa", sum := "580c8af489e6cb7e0fc579127820b47aa1e646298283dca66a8a7da8d5b8e6ee", func := "crier/crierlaw10.PayloadTold", spec := "payloadTold", unfollowed := true, recurses := true, loops := true, apart := false, narrowed := true }
def PayloadToldUptoSaid : Prop := payloadToldUptoRow.holds Try.pinned (OpenSpec.upto payloadToldSpec)

/-- 'crierlaw10.PayloadSame', WHERE WHAT IT READS IS OF BULK AT MOST 1048576: true; the input reads as it did. -/
def payloadSameUptoRow : OpenClaim := { program := "ytaahhommfpohhaa", sum := "580c8af489e6cb7e0fc579127820b47aa1e646298283dca66a8a7da8d5b8e6ee", func := "crier/crierlaw10.PayloadSame", spec := "payloadSame", unfollowed := true, recurses := true, loops := true, apart := false, narrowed := true }
def PayloadSameUptoSaid : Prop := payloadSameUptoRow.holds Try.pinned (OpenSpec.upto payloadSameSpec)

end Rows
end Go.Proofs.Ytaahhommfpohhaa
