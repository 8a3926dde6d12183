/-
  NARROWER THAN 'FOR EVERY INPUT', by the rows' own cells (each row's printed sentence says how): DatasetPuts: laid · PropsPuts: loops, laid · DatasetCells: laid · PropsSame: loops, laid · DatasetSame: laid · PropsReads: laid · DatasetReads: laid · PropsBack: loops, laid · PropsDeep: laid · DatasetBack: laid.
  DERIVED. THE GIVEN ROWS OF THIS SEAT. 10 by the template 'for every input the law returns true; each argument reads behind the call as it read before'; 0 by the template 'total and deterministic' (their statements: YtanfnjlndckhkaaDoorTotals.lean).
  GIVEN WITH THE SEED: the statements are not yours to turn. If you find one false, say at which input.
  Laid BY PROGRAM, IN A SANDBOX (cutbox-rows.mjs): the forced cells as the released guide's own fill.sh prints them over the translation 2fa3a1d71ac94342… (all of the seat's roots in one cut). By AI agents, Wed Nov 11 2026. No macro, syntax, notation, axiom, sorry.
-/
import Derived.Test.YtanfnjlndckhkaaDoorChecked
import GoSem.Claim
import GoSem.ClaimJoined
import GoSem.ClaimMapViews
import Derived.JoinedTies
import Derived.KernelRfl
namespace Go.Proofs.YtanfnjlndckhkaaDoor
/- THE CELL 'sum', in the pinned program and in every row, IS THE sha256 OF THE DUMP (.gsa) THAT YtanfnjlndckhkaaDoorProg.lean LOADS. Nothing in Lean hashes anything: it is a label: what it is worth is what the hold of that sum in a sandbox is worth. -/
noncomputable def Tryd.pinned : Pinned := { name := "ytanfnjlndckhkaadoor", sum := "2fa3a1d71ac9434280482f4a47997d1716c7130ca217af11e96c7075a25bb2a3", checked := Tryd.checked }
namespace Rows
def none {H : Type} : Left H := { results := [], args := [] }

/- WHAT THE LISTED PACKAGE-LEVEL VARIABLES READ AS WHEN THE CALL BEGINS. Each datum BY PROGRAM (the guide's laid-datum.mjs) off the statement by which the dump's own 'gosem.cut.vars' lays the variable. In a bare row this is a premise. The card (YtanfnjlndckhkaaDoorCards.lean) ties it to the program's text. -/
def laid_crier_value_kinds {H : Type} : DataW H := .agg [.lit (.int .i64 0), .lit (.int .i64 0), .lit (.int .i64 0), .lit (.int .i64 5), .lit (.int .i64 1), .lit (.int .i64 0), .lit (.int .i64 2), .lit (.int .i64 2)]

/-- 'crierlaw08.DatasetPuts': WHATEVER THE INPUT: true; the input reads as it did. -/
def datasetPutsSpec : ChangeSpec := { name := "datasetPuts", fn := fun _ => fun
  | [d] => { results := [.lit (.bool true)], args := [d] }
  | _ => none }
def datasetPutsRow : OpenClaim := { program := "ytanfnjlndckhkaadoor", sum := "2fa3a1d71ac9434280482f4a47997d1716c7130ca217af11e96c7075a25bb2a3", func := "crier/crierlaw08.DatasetPuts", spec := "datasetPuts", named := ["crier/value.kinds"], apart := false, laid := [("crier/value.kinds", laid_crier_value_kinds)] }
def DatasetPutsSaid : Prop := datasetPutsRow.holds Tryd.pinned (OpenSpec.ofChange datasetPutsSpec)

/-- ITS FALSE NEIGHBOUR: 'it returns false'. Refute it at one input. -/
def datasetPutsWrong : ChangeSpec := { name := "datasetPuts", fn := fun _ => fun
  | [d] => { results := [.lit (.bool false)], args := [d] }
  | _ => none }
def DatasetPutsWrongFalsely : Prop := datasetPutsRow.holds Tryd.pinned (OpenSpec.ofChange datasetPutsWrong)

/-- 'crierlaw07.PropsPuts': WHATEVER THE INPUT: true; the input reads as it did. -/
def propsPutsSpec : ChangeSpec := { name := "propsPuts", fn := fun _ => fun
  | [d] => { results := [.lit (.bool true)], args := [d] }
  | _ => none }
def propsPutsRow : OpenClaim := { program := "ytanfnjlndckhkaadoor", sum := "2fa3a1d71ac9434280482f4a47997d1716c7130ca217af11e96c7075a25bb2a3", func := "crier/crierlaw07.PropsPuts", spec := "propsPuts", recurses := true, named := ["crier/value.kinds"], loops := true, apart := false, laid := [("crier/value.kinds", laid_crier_value_kinds)] }
def PropsPutsSaid : Prop := propsPutsRow.holds Tryd.pinned (OpenSpec.ofChange propsPutsSpec)

/-- ITS FALSE NEIGHBOUR: 'it returns false'. Refute it at one input. -/
def propsPutsWrong : ChangeSpec := { name := "propsPuts", fn := fun _ => fun
  | [d] => { results := [.lit (.bool false)], args := [d] }
  | _ => none }
def PropsPutsWrongFalsely : Prop := propsPutsRow.holds Tryd.pinned (OpenSpec.ofChange propsPutsWrong)

/-- 'crierlaw08.DatasetCells': WHATEVER THE INPUT: true; the input reads as it did. -/
def datasetCellsSpec : ChangeSpec := { name := "datasetCells", fn := fun _ => fun
  | [d1, d2, d3, d4] => { results := [.lit (.bool true)], args := [d1, d2, d3, d4] }
  | _ => none }
def datasetCellsRow : OpenClaim := { program := "ytanfnjlndckhkaadoor", sum := "2fa3a1d71ac9434280482f4a47997d1716c7130ca217af11e96c7075a25bb2a3", func := "crier/crierlaw08.DatasetCells", spec := "datasetCells", named := ["crier/value.kinds"], apart := false, laid := [("crier/value.kinds", laid_crier_value_kinds)] }
def DatasetCellsSaid : Prop := datasetCellsRow.holds Tryd.pinned (OpenSpec.ofChange datasetCellsSpec)

/-- ITS FALSE NEIGHBOUR: 'it returns false'. Refute it at one input. -/
def datasetCellsWrong : ChangeSpec := { name := "datasetCells", fn := fun _ => fun
  | [d1, d2, d3, d4] => { results := [.lit (.bool false)], args := [d1, d2, d3, d4] }
  | _ => none }
def DatasetCellsWrongFalsely : Prop := datasetCellsRow.holds Tryd.pinned (OpenSpec.ofChange datasetCellsWrong)

/-- 'crierlaw07.PropsSame': WHATEVER THE INPUT: true; the input reads as it did. -/
def propsSameSpec : ChangeSpec := { name := "propsSame", fn := fun _ => fun
  | [d1, d2] => { results := [.lit (.bool true)], args := [d1, d2] }
  | _ => none }
def propsSameRow : OpenClaim := { program := "ytanfnjlndckhkaadoor", sum := "2fa3a1d71ac9434280482f4a47997d1716c7130ca217af11e96c7075a25bb2a3", func := "crier/crierlaw07.PropsSame", spec := "propsSame", recurses := true, named := ["crier/value.kinds"], loops := true, apart := false, laid := [("crier/value.kinds", laid_crier_value_kinds)] }
def PropsSameSaid : Prop := propsSameRow.holds Tryd.pinned (OpenSpec.ofChange propsSameSpec)

/-- ITS FALSE NEIGHBOUR: 'it returns false'. Refute it at one input. -/
def propsSameWrong : ChangeSpec := { name := "propsSame", fn := fun _ => fun
  | [d1, d2] => { results := [.lit (.bool false)], args := [d1, d2] }
  | _ => none }
def PropsSameWrongFalsely : Prop := propsSameRow.holds Tryd.pinned (OpenSpec.ofChange propsSameWrong)

/-- 'crierlaw08.DatasetSame': WHATEVER THE INPUT: true; the input reads as it did. -/
def datasetSameSpec : ChangeSpec := { name := "datasetSame", fn := fun _ => fun
  | [d1, d2, d3, d4] => { results := [.lit (.bool true)], args := [d1, d2, d3, d4] }
  | _ => none }
def datasetSameRow : OpenClaim := { program := "ytanfnjlndckhkaadoor", sum := "2fa3a1d71ac9434280482f4a47997d1716c7130ca217af11e96c7075a25bb2a3", func := "crier/crierlaw08.DatasetSame", spec := "datasetSame", unfollowed := true, recurses := true, named := ["crier/value.kinds"], apart := false, laid := [("crier/value.kinds", laid_crier_value_kinds)] }
def DatasetSameSaid : Prop := datasetSameRow.holds Tryd.pinned (OpenSpec.ofChange datasetSameSpec)

/-- ITS FALSE NEIGHBOUR: 'it returns false'. Refute it at one input. -/
def datasetSameWrong : ChangeSpec := { name := "datasetSame", fn := fun _ => fun
  | [d1, d2, d3, d4] => { results := [.lit (.bool false)], args := [d1, d2, d3, d4] }
  | _ => none }
def DatasetSameWrongFalsely : Prop := datasetSameRow.holds Tryd.pinned (OpenSpec.ofChange datasetSameWrong)

/-- 'crierlaw07.PropsReads': WHATEVER THE INPUT: true; the input reads as it did. -/
def propsReadsSpec : ChangeSpec := { name := "propsReads", fn := fun _ => fun
  | [d] => { results := [.lit (.bool true)], args := [d] }
  | _ => none }
def propsReadsRow : OpenClaim := { program := "ytanfnjlndckhkaadoor", sum := "2fa3a1d71ac9434280482f4a47997d1716c7130ca217af11e96c7075a25bb2a3", func := "crier/crierlaw07.PropsReads", spec := "propsReads", unfollowed := true, recurses := true, named := ["crier/value.kinds"], apart := false, laid := [("crier/value.kinds", laid_crier_value_kinds)] }
def PropsReadsSaid : Prop := propsReadsRow.holds Tryd.pinned (OpenSpec.ofChange propsReadsSpec)

/-- ITS FALSE NEIGHBOUR: 'it returns false'. Refute it at one input. -/
def propsReadsWrong : ChangeSpec := { name := "propsReads", fn := fun _ => fun
  | [d] => { results := [.lit (.bool false)], args := [d] }
  | _ => none }
def PropsReadsWrongFalsely : Prop := propsReadsRow.holds Tryd.pinned (OpenSpec.ofChange propsReadsWrong)

/-- 'crierlaw08.DatasetReads': WHATEVER THE INPUT: true; the input reads as it did. -/
def datasetReadsSpec : ChangeSpec := { name := "datasetReads", fn := fun _ => fun
  | [d] => { results := [.lit (.bool true)], args := [d] }
  | _ => none }
def datasetReadsRow : OpenClaim := { program := "ytanfnjlndckhkaadoor", sum := "2fa3a1d71ac9434280482f4a47997d1716c7130ca217af11e96c7075a25bb2a3", func := "crier/crierlaw08.DatasetReads", spec := "datasetReads", unfollowed := true, recurses := true, named := ["crier/value.kinds"], apart := false, laid := [("crier/value.kinds", laid_crier_value_kinds)] }
def DatasetReadsSaid : Prop := datasetReadsRow.holds Tryd.pinned (OpenSpec.ofChange datasetReadsSpec)

/-- ITS FALSE NEIGHBOUR: 'it returns false'. Refute it at one input. -/
def datasetReadsWrong : ChangeSpec := { name := "datasetReads", fn := fun _ => fun
  | [d] => { results := [.lit (.bool false)], args := [d] }
  | _ => none }
def DatasetReadsWrongFalsely : Prop := datasetReadsRow.holds Tryd.pinned (OpenSpec.ofChange datasetReadsWrong)

/-- 'crierlaw07.PropsBack': WHATEVER THE INPUT: true; the input reads as it did. -/
def propsBackSpec : ChangeSpec := { name := "propsBack", fn := fun _ => fun
  | [d] => { results := [.lit (.bool true)], args := [d] }
  | _ => none }
def propsBackRow : OpenClaim := { program := "ytanfnjlndckhkaadoor", sum := "2fa3a1d71ac9434280482f4a47997d1716c7130ca217af11e96c7075a25bb2a3", func := "crier/crierlaw07.PropsBack", spec := "propsBack", unfollowed := true, recurses := true, named := ["crier/value.kinds"], loops := true, apart := false, laid := [("crier/value.kinds", laid_crier_value_kinds)] }
def PropsBackSaid : Prop := propsBackRow.holds Tryd.pinned (OpenSpec.ofChange propsBackSpec)

/-- ITS FALSE NEIGHBOUR: 'it returns false'. Refute it at one input. -/
def propsBackWrong : ChangeSpec := { name := "propsBack", fn := fun _ => fun
  | [d] => { results := [.lit (.bool false)], args := [d] }
  | _ => none }
def PropsBackWrongFalsely : Prop := propsBackRow.holds Tryd.pinned (OpenSpec.ofChange propsBackWrong)

/-- 'crierlaw07.PropsDeep': WHATEVER THE INPUT: true; the input reads as it did. -/
def propsDeepSpec : ChangeSpec := { name := "propsDeep", fn := fun _ => fun
  | [d1, d2] => { results := [.lit (.bool true)], args := [d1, d2] }
  | _ => none }
def propsDeepRow : OpenClaim := { program := "ytanfnjlndckhkaadoor", sum := "2fa3a1d71ac9434280482f4a47997d1716c7130ca217af11e96c7075a25bb2a3", func := "crier/crierlaw07.PropsDeep", spec := "propsDeep", unfollowed := true, recurses := true, named := ["crier/value.kinds"], apart := false, laid := [("crier/value.kinds", laid_crier_value_kinds)] }
def PropsDeepSaid : Prop := propsDeepRow.holds Tryd.pinned (OpenSpec.ofChange propsDeepSpec)

/-- ITS FALSE NEIGHBOUR: 'it returns false'. Refute it at one input. -/
def propsDeepWrong : ChangeSpec := { name := "propsDeep", fn := fun _ => fun
  | [d1, d2] => { results := [.lit (.bool false)], args := [d1, d2] }
  | _ => none }
def PropsDeepWrongFalsely : Prop := propsDeepRow.holds Tryd.pinned (OpenSpec.ofChange propsDeepWrong)

/-- 'crierlaw08.DatasetBack': WHATEVER THE INPUT: true; the input reads as it did. -/
def datasetBackSpec : ChangeSpec := { name := "datasetBack", fn := fun _ => fun
  | [d] => { results := [.lit (.bool true)], args := [d] }
  | _ => none }
def datasetBackRow : OpenClaim := { program := "ytanfnjlndckhkaadoor", sum := "2fa3a1d71ac9434280482f4a47997d1716c7130ca217af11e96c7075a25bb2a3", func := "crier/crierlaw08.DatasetBack", spec := "datasetBack", unfollowed := true, recurses := true, named := ["crier/value.kinds"], apart := false, laid := [("crier/value.kinds", laid_crier_value_kinds)] }
def DatasetBackSaid : Prop := datasetBackRow.holds Tryd.pinned (OpenSpec.ofChange datasetBackSpec)

/-- ITS FALSE NEIGHBOUR: 'it returns false'. Refute it at one input. -/
def datasetBackWrong : ChangeSpec := { name := "datasetBack", fn := fun _ => fun
  | [d] => { results := [.lit (.bool false)], args := [d] }
  | _ => none }
def DatasetBackWrongFalsely : Prop := datasetBackRow.holds Tryd.pinned (OpenSpec.ofChange datasetBackWrong)

/- THE SECOND FORM. 'bulk': how many values and letters a reading holds, each counted each time it is reached (what is shared counts as often as it is met; a slice's spare places count too). A statement '..UptoSaid' is the law's where the arguments, and the package variables that the reading takes, are together of bulk at most 1048576: NARROWER than '..Said'. Prove '..Said' where nothing that the law and all that it calls make is longer than what came in: it says more and counts as full. Else prove '..UptoSaid'. A law counts once. -/
mutual
def uptoBulk {H : Type} : DataW H → Nat
  | .lit (.string bytes) => bytes.length + 1
  | .lit _ => 1
  | .nil => 1
  | .ptr d => uptoBulk d + 1
  | .slice elems spare => uptoBulkAll elems + uptoBulkAll spare + 1
  | .agg parts => uptoBulkAll parts + 1
  | .iface _ d => uptoBulk d + 1
  | .map entries => uptoBulkEntries entries + 1
  | .held _ => 1
def uptoBulkAll {H : Type} : List (DataW H) → Nat
  | [] => 0
  | d :: r => uptoBulk d + uptoBulkAll r
def uptoBulkEntries {H : Type} : List (Lit × DataW H) → Nat
  | [] => 0
  | x :: r => uptoBulkEntry x + uptoBulkEntries r
def uptoBulkEntry {H : Type} : Lit × DataW H → Nat
  | (.string bytes, d) => bytes.length + uptoBulk d + 1
  | (_, d) => uptoBulk d + 1
 end
def uptoSmall : (H : Type) → List (DataW H) → Bool := fun _ ds => decide (uptoBulkAll ds ≤ 1048576)
def OpenSpec.upto (s : _root_.Go.ChangeSpec) : _root_.Go.OpenSpec := { _root_.Go.OpenSpec.ofChange s with cond := some uptoSmall }

/-- 'crierlaw08.DatasetPuts', WHERE WHAT IT READS IS OF BULK AT MOST 1048576: true; the input reads as it did. -/
def datasetPutsUptoRow : OpenClaim := { program := "ytanfnjlndckhkaadoor", sum := "2fa3a1d71ac9434280482f4a47997d1716c7130ca217af11e96c7075a25bb2a3", func := "crier/crierlaw08.DatasetPuts", spec := "datasetPuts", named := ["crier/value.kinds"], apart := false, laid := [("crier/value.kinds", laid_crier_value_kinds)], narrowed := true }
def DatasetPutsUptoSaid : Prop := datasetPutsUptoRow.holds Tryd.pinned (OpenSpec.upto datasetPutsSpec)

/-- 'crierlaw07.PropsPuts', WHERE WHAT IT READS IS OF BULK AT MOST 1048576: true; the input reads as it did. -/
def propsPutsUptoRow : OpenClaim := { program := "ytanfnjlndckhkaadoor", sum := "2fa3a1d71ac9434280482f4a47997d1716c7130ca217af11e96c7075a25bb2a3", func := "crier/crierlaw07.PropsPuts", spec := "propsPuts", recurses := true, named := ["crier/value.kinds"], loops := true, apart := false, laid := [("crier/value.kinds", laid_crier_value_kinds)], narrowed := true }
def PropsPutsUptoSaid : Prop := propsPutsUptoRow.holds Tryd.pinned (OpenSpec.upto propsPutsSpec)

/-- 'crierlaw08.DatasetCells', WHERE WHAT IT READS IS OF BULK AT MOST 1048576: true; the input reads as it did. -/
def datasetCellsUptoRow : OpenClaim := { program := "ytanfnjlndckhkaadoor", sum := "2fa3a1d71ac9434280482f4a47997d1716c7130ca217af11e96c7075a25bb2a3", func := "crier/crierlaw08.DatasetCells", spec := "datasetCells", named := ["crier/value.kinds"], apart := false, laid := [("crier/value.kinds", laid_crier_value_kinds)], narrowed := true }
def DatasetCellsUptoSaid : Prop := datasetCellsUptoRow.holds Tryd.pinned (OpenSpec.upto datasetCellsSpec)

/-- 'crierlaw07.PropsSame', WHERE WHAT IT READS IS OF BULK AT MOST 1048576: true; the input reads as it did. -/
def propsSameUptoRow : OpenClaim := { program := "ytanfnjlndckhkaadoor", sum := "2fa3a1d71ac9434280482f4a47997d1716c7130ca217af11e96c7075a25bb2a3", func := "crier/crierlaw07.PropsSame", spec := "propsSame", recurses := true, named := ["crier/value.kinds"], loops := true, apart := false, laid := [("crier/value.kinds", laid_crier_value_kinds)], narrowed := true }
def PropsSameUptoSaid : Prop := propsSameUptoRow.holds Tryd.pinned (OpenSpec.upto propsSameSpec)

/-- 'crierlaw08.DatasetSame', WHERE WHAT IT READS IS OF BULK AT MOST 1048576: true; the input reads as it did. -/
def datasetSameUptoRow : OpenClaim := { program := "ytanfnjlndckhkaadoor", sum := "2fa3a1d71ac9434280482f4a47997d1716c7130ca217af11e96c7075a25bb2a3", func := "crier/crierlaw08.DatasetSame", spec := "datasetSame", unfollowed := true, recurses := true, named := ["crier/value.kinds"], apart := false, laid := [("crier/value.kinds", laid_crier_value_kinds)], narrowed := true }
def DatasetSameUptoSaid : Prop := datasetSameUptoRow.holds Tryd.pinned (OpenSpec.upto datasetSameSpec)

/-- 'crierlaw07.PropsReads', WHERE WHAT IT READS IS OF BULK AT MOST 1048576: true; the input reads as it did. -/
def propsReadsUptoRow : OpenClaim := { program := "ytanfnjlndckhkaadoor", sum := "2fa3a1d71ac9434280482f4a47997d1716c7130ca217af11e96c7075a25bb2a3", func := "crier/crierlaw07.PropsReads", spec := "propsReads", unfollowed := true, recurses := true, named := ["crier/value.kinds"], apart := false, laid := [("crier/value.kinds", laid_crier_value_kinds)], narrowed := true }
def PropsReadsUptoSaid : Prop := propsReadsUptoRow.holds Tryd.pinned (OpenSpec.upto propsReadsSpec)

/-- 'crierlaw08.DatasetReads', WHERE WHAT IT READS IS OF BULK AT MOST 1048576: true; the input reads as it did. -/
def datasetReadsUptoRow : OpenClaim := { program := "ytanfnjlndckhkaadoor", sum := "2fa3a1d71ac9434280482f4a47997d1716c7130ca217af11e96c7075a25bb2a3", func := "crier/crierlaw08.DatasetReads", spec := "datasetReads", unfollowed := true, recurses := true, named := ["crier/value.kinds"], apart := false, laid := [("crier/value.kinds", laid_crier_value_kinds)], narrowed := true }
def DatasetReadsUptoSaid : Prop := datasetReadsUptoRow.holds Tryd.pinned (OpenSpec.upto datasetReadsSpec)

/-- 'crierlaw07.PropsBack', WHERE WHAT IT READS IS OF BULK AT MOST 1048576: true; the input reads as it did. -/
def propsBackUptoRow : OpenClaim := { program := "ytanfnjlndckhkaadoor", sum := "2fa3a1d71ac9434280482f4a47997d1716c7130ca217af11e96c7075a25bb2a3", func := "crier/crierlaw07.PropsBack", spec := "propsBack", unfollowed := true, recurses := true, named := ["crier/value.kinds"], loops := true, apart := false, laid := [("crier/value.kinds", laid_crier_value_kinds)], narrowed := true }
def PropsBackUptoSaid : Prop := propsBackUptoRow.holds Tryd.pinned (OpenSpec.upto propsBackSpec)

/-- 'crierlaw07.PropsDeep', WHERE WHAT IT READS IS OF BULK AT MOST 1048576: true; the input reads as it did. -/
def propsDeepUptoRow : OpenClaim := { program := "ytanfnjlndckhkaadoor", sum := "2fa3a1d71ac9434280482f4a47997d1716c7130ca217af11e96c7075a25bb2a3", func := "crier/crierlaw07.PropsDeep", spec := "propsDeep", unfollowed := true, recurses := true, named := ["crier/value.kinds"], apart := false, laid := [("crier/value.kinds", laid_crier_value_kinds)], narrowed := true }
def PropsDeepUptoSaid : Prop := propsDeepUptoRow.holds Tryd.pinned (OpenSpec.upto propsDeepSpec)

/-- 'crierlaw08.DatasetBack', WHERE WHAT IT READS IS OF BULK AT MOST 1048576: true; the input reads as it did. -/
def datasetBackUptoRow : OpenClaim := { program := "ytanfnjlndckhkaadoor", sum := "2fa3a1d71ac9434280482f4a47997d1716c7130ca217af11e96c7075a25bb2a3", func := "crier/crierlaw08.DatasetBack", spec := "datasetBack", unfollowed := true, recurses := true, named := ["crier/value.kinds"], apart := false, laid := [("crier/value.kinds", laid_crier_value_kinds)], narrowed := true }
def DatasetBackUptoSaid : Prop := datasetBackUptoRow.holds Tryd.pinned (OpenSpec.upto datasetBackSpec)

end Rows
end Go.Proofs.YtanfnjlndckhkaaDoor
