/-
  No cell of these rows narrows 'for every input' (looked for: loops, veiled, ifaces, maps, wideKeys, modest, calm, conditions, laid).
  DERIVED. THE GIVEN ROWS OF THIS SEAT. 9 by the template 'for every input the law returns true; each argument reads behind the call as it read before'; 0 by the template 'total and deterministic' (their statements: YtkanhggmhjldmaaTotals.lean).
  GIVEN WITH THE SEED: the statements are not yours to turn. If you find one false, say at which input.
  Laid BY PROGRAM, IN A SANDBOX (cutbox-rows.mjs): the forced cells as the released guide's own fill.sh prints them over the translation 60c63123e0dc3d08… (all of the seat's roots in one cut). By AI agents, Wed Nov 11 2026. No macro, syntax, notation, axiom, sorry.
-/
import Derived.Test.YtkanhggmhjldmaaChecked
import GoSem.Claim
import GoSem.ClaimJoined
import GoSem.ClaimMapViews
import Derived.JoinedTies
import Derived.KernelRfl
namespace Go.Proofs.Ytkanhggmhjldmaa
/- THE CELL 'sum', in the pinned program and in every row, IS THE sha256 OF THE DUMP (.gsa) THAT YtkanhggmhjldmaaProg.lean LOADS. Nothing in Lean hashes anything: it is a label: what it is worth is what the hold of that sum in a sandbox is worth. -/
noncomputable def Try.pinned : Pinned := { name := "ytkanhggmhjldmaa", sum := "60c63123e0dc3d08da417fbf116142ee8d49cf1f92fb6b52d58de294a302f4fc", checked := Try.checked }
namespace Rows
def none {H : Type} : Left H := { results := [], args := [] }

/-- 'crierlaw06.MetaPuts': WHATEVER THE INPUT: true; the input reads as it did. -/
def metaPutsSpec : ChangeSpec := { name := "metaPuts", fn := fun _ => fun
  | [d1, d2] => { results := [.lit (.bool true)], args := [d1, d2] }
  | _ => none }
def metaPutsRow : OpenClaim := { program := "ytkanhggmhjldmaa", sum := "60c63123e0dc3d08da417fbf116142ee8d49cf1f92fb6b52d58de294a302f4fc", func := "crier/crierlaw06.MetaPuts", spec := "metaPuts", unfollowed := true, recurses := true, apart := false }
def MetaPutsSaid : Prop := metaPutsRow.holds Try.pinned (OpenSpec.ofChange metaPutsSpec)

/-- ITS FALSE NEIGHBOUR: 'it returns false'. Refute it at one input. -/
def metaPutsWrong : ChangeSpec := { name := "metaPuts", fn := fun _ => fun
  | [d1, d2] => { results := [.lit (.bool false)], args := [d1, d2] }
  | _ => none }
def MetaPutsWrongFalsely : Prop := metaPutsRow.holds Try.pinned (OpenSpec.ofChange metaPutsWrong)

/-- 'crierlaw03.WirePuts': WHATEVER THE INPUT: true; the input reads as it did. -/
def wirePutsSpec : ChangeSpec := { name := "wirePuts", fn := fun _ => fun
  | [d] => { results := [.lit (.bool true)], args := [d] }
  | _ => none }
def wirePutsRow : OpenClaim := { program := "ytkanhggmhjldmaa", sum := "60c63123e0dc3d08da417fbf116142ee8d49cf1f92fb6b52d58de294a302f4fc", func := "crier/crierlaw03.WirePuts", spec := "wirePuts", unfollowed := true, recurses := true, apart := false }
def WirePutsSaid : Prop := wirePutsRow.holds Try.pinned (OpenSpec.ofChange wirePutsSpec)

/-- ITS FALSE NEIGHBOUR: 'it returns false'. Refute it at one input. -/
def wirePutsWrong : ChangeSpec := { name := "wirePuts", fn := fun _ => fun
  | [d] => { results := [.lit (.bool false)], args := [d] }
  | _ => none }
def WirePutsWrongFalsely : Prop := wirePutsRow.holds Try.pinned (OpenSpec.ofChange wirePutsWrong)

/-- 'crierlaw03.WireReads': WHATEVER THE INPUT: true; the input reads as it did. -/
def wireReadsSpec : ChangeSpec := { name := "wireReads", fn := fun _ => fun
  | [d] => { results := [.lit (.bool true)], args := [d] }
  | _ => none }
def wireReadsRow : OpenClaim := { program := "ytkanhggmhjldmaa", sum := "60c63123e0dc3d08da417fbf116142ee8d49cf1f92fb6b52d58de294a302f4fc", func := "crier/crierlaw03.WireReads", spec := "wireReads", unfollowed := true, recurses := true, apart := false }
def WireReadsSaid : Prop := wireReadsRow.holds Try.pinned (OpenSpec.ofChange wireReadsSpec)

/-- ITS FALSE NEIGHBOUR: 'it returns false'. Refute it at one input. -/
def wireReadsWrong : ChangeSpec := { name := "wireReads", fn := fun _ => fun
  | [d] => { results := [.lit (.bool false)], args := [d] }
  | _ => none }
def WireReadsWrongFalsely : Prop := wireReadsRow.holds Try.pinned (OpenSpec.ofChange wireReadsWrong)

/-- 'crierlaw03.WireGroups': WHATEVER THE INPUT: true; the input reads as it did. -/
def wireGroupsSpec : ChangeSpec := { name := "wireGroups", fn := fun _ => fun
  | [d1, d2, d3, d4] => { results := [.lit (.bool true)], args := [d1, d2, d3, d4] }
  | _ => none }
def wireGroupsRow : OpenClaim := { program := "ytkanhggmhjldmaa", sum := "60c63123e0dc3d08da417fbf116142ee8d49cf1f92fb6b52d58de294a302f4fc", func := "crier/crierlaw03.WireGroups", spec := "wireGroups", unfollowed := true, recurses := true, apart := false }
def WireGroupsSaid : Prop := wireGroupsRow.holds Try.pinned (OpenSpec.ofChange wireGroupsSpec)

/-- ITS FALSE NEIGHBOUR: 'it returns false'. Refute it at one input. -/
def wireGroupsWrong : ChangeSpec := { name := "wireGroups", fn := fun _ => fun
  | [d1, d2, d3, d4] => { results := [.lit (.bool false)], args := [d1, d2, d3, d4] }
  | _ => none }
def WireGroupsWrongFalsely : Prop := wireGroupsRow.holds Try.pinned (OpenSpec.ofChange wireGroupsWrong)

/-- 'crierlaw03.WireJoins': WHATEVER THE INPUT: true; the input reads as it did. -/
def wireJoinsSpec : ChangeSpec := { name := "wireJoins", fn := fun _ => fun
  | [d1, d2] => { results := [.lit (.bool true)], args := [d1, d2] }
  | _ => none }
def wireJoinsRow : OpenClaim := { program := "ytkanhggmhjldmaa", sum := "60c63123e0dc3d08da417fbf116142ee8d49cf1f92fb6b52d58de294a302f4fc", func := "crier/crierlaw03.WireJoins", spec := "wireJoins", unfollowed := true, recurses := true, apart := false }
def WireJoinsSaid : Prop := wireJoinsRow.holds Try.pinned (OpenSpec.ofChange wireJoinsSpec)

/-- ITS FALSE NEIGHBOUR: 'it returns false'. Refute it at one input. -/
def wireJoinsWrong : ChangeSpec := { name := "wireJoins", fn := fun _ => fun
  | [d1, d2] => { results := [.lit (.bool false)], args := [d1, d2] }
  | _ => none }
def WireJoinsWrongFalsely : Prop := wireJoinsRow.holds Try.pinned (OpenSpec.ofChange wireJoinsWrong)

/-- 'crierlaw03.WireBack': WHATEVER THE INPUT: true; the input reads as it did. -/
def wireBackSpec : ChangeSpec := { name := "wireBack", fn := fun _ => fun
  | [d1, d2] => { results := [.lit (.bool true)], args := [d1, d2] }
  | _ => none }
def wireBackRow : OpenClaim := { program := "ytkanhggmhjldmaa", sum := "60c63123e0dc3d08da417fbf116142ee8d49cf1f92fb6b52d58de294a302f4fc", func := "crier/crierlaw03.WireBack", spec := "wireBack", unfollowed := true, recurses := true, apart := false }
def WireBackSaid : Prop := wireBackRow.holds Try.pinned (OpenSpec.ofChange wireBackSpec)

/-- ITS FALSE NEIGHBOUR: 'it returns false'. Refute it at one input. -/
def wireBackWrong : ChangeSpec := { name := "wireBack", fn := fun _ => fun
  | [d1, d2] => { results := [.lit (.bool false)], args := [d1, d2] }
  | _ => none }
def WireBackWrongFalsely : Prop := wireBackRow.holds Try.pinned (OpenSpec.ofChange wireBackWrong)

/-- 'crierlaw06.MetaReads': WHATEVER THE INPUT: true; the input reads as it did. -/
def metaReadsSpec : ChangeSpec := { name := "metaReads", fn := fun _ => fun
  | [d] => { results := [.lit (.bool true)], args := [d] }
  | _ => none }
def metaReadsRow : OpenClaim := { program := "ytkanhggmhjldmaa", sum := "60c63123e0dc3d08da417fbf116142ee8d49cf1f92fb6b52d58de294a302f4fc", func := "crier/crierlaw06.MetaReads", spec := "metaReads", unfollowed := true, recurses := true, apart := false }
def MetaReadsSaid : Prop := metaReadsRow.holds Try.pinned (OpenSpec.ofChange metaReadsSpec)

/-- ITS FALSE NEIGHBOUR: 'it returns false'. Refute it at one input. -/
def metaReadsWrong : ChangeSpec := { name := "metaReads", fn := fun _ => fun
  | [d] => { results := [.lit (.bool false)], args := [d] }
  | _ => none }
def MetaReadsWrongFalsely : Prop := metaReadsRow.holds Try.pinned (OpenSpec.ofChange metaReadsWrong)

/-- 'crierlaw06.MetaStrange': WHATEVER THE INPUT: true; the input reads as it did. -/
def metaStrangeSpec : ChangeSpec := { name := "metaStrange", fn := fun _ => fun
  | [d1, d2, d3] => { results := [.lit (.bool true)], args := [d1, d2, d3] }
  | _ => none }
def metaStrangeRow : OpenClaim := { program := "ytkanhggmhjldmaa", sum := "60c63123e0dc3d08da417fbf116142ee8d49cf1f92fb6b52d58de294a302f4fc", func := "crier/crierlaw06.MetaStrange", spec := "metaStrange", unfollowed := true, recurses := true, apart := false }
def MetaStrangeSaid : Prop := metaStrangeRow.holds Try.pinned (OpenSpec.ofChange metaStrangeSpec)

/-- ITS FALSE NEIGHBOUR: 'it returns false'. Refute it at one input. -/
def metaStrangeWrong : ChangeSpec := { name := "metaStrange", fn := fun _ => fun
  | [d1, d2, d3] => { results := [.lit (.bool false)], args := [d1, d2, d3] }
  | _ => none }
def MetaStrangeWrongFalsely : Prop := metaStrangeRow.holds Try.pinned (OpenSpec.ofChange metaStrangeWrong)

/-- 'crierlaw06.MetaBack': WHATEVER THE INPUT: true; the input reads as it did. -/
def metaBackSpec : ChangeSpec := { name := "metaBack", fn := fun _ => fun
  | [d1, d2] => { results := [.lit (.bool true)], args := [d1, d2] }
  | _ => none }
def metaBackRow : OpenClaim := { program := "ytkanhggmhjldmaa", sum := "60c63123e0dc3d08da417fbf116142ee8d49cf1f92fb6b52d58de294a302f4fc", func := "crier/crierlaw06.MetaBack", spec := "metaBack", unfollowed := true, recurses := true, apart := false }
def MetaBackSaid : Prop := metaBackRow.holds Try.pinned (OpenSpec.ofChange metaBackSpec)

/-- ITS FALSE NEIGHBOUR: 'it returns false'. Refute it at one input. -/
def metaBackWrong : ChangeSpec := { name := "metaBack", fn := fun _ => fun
  | [d1, d2] => { results := [.lit (.bool false)], args := [d1, d2] }
  | _ => none }
def MetaBackWrongFalsely : Prop := metaBackRow.holds Try.pinned (OpenSpec.ofChange metaBackWrong)

/- THE SECOND FORM. 'bulk': how many values and letters a reading holds, each counted each time it is reached (what is shared counts as often as it is met; a slice's spare places count too). A statement '..UptoSaid' is the law's where the arguments, and the package variables that the reading takes, are together of bulk at most 1048576: NARROWER than '..Said'. Prove '..Said' where nothing that the law and all that it calls make is longer than what came in: it says more and counts as full. Else prove '..UptoSaid'. A law counts once. -/
mutual
def uptoBulk {H : Type} : DataW H → Nat
  | .lit (.string bytes) => bytes.length + 1
  | .lit _ => 1
  | .nil => 1
  | .ptr d => uptoBulk d + 1
  | .slice elems spare => uptoBulkAll elems + uptoBulkAll spare + 1
  | .agg parts => uptoBulkAll parts + 1
  | .iface _ d => uptoBulk d + 1
  | .map entries => uptoBulkEntries entries + 1
  | .held _ => 1
def uptoBulkAll {H : Type} : List (DataW H) → Nat
  | [] => 0
  | d :: r => uptoBulk d + uptoBulkAll r
def uptoBulkEntries {H : Type} : List (Lit × DataW H) → Nat
  | [] => 0
  | x :: r => uptoBulkEntry x + uptoBulkEntries r
def uptoBulkEntry {H : Type} : Lit × DataW H → Nat
  | (.string bytes, d) => bytes.length + uptoBulk d + 1
  | (_, d) => uptoBulk d + 1
 end
def uptoSmall : (H : Type) → List (DataW H) → Bool := fun _ ds => decide (uptoBulkAll ds ≤ 1048576)
def OpenSpec.upto (s : _root_.Go.ChangeSpec) : _root_.Go.OpenSpec := { _root_.Go.OpenSpec.ofChange s with cond := some uptoSmall }

/-- 'crierlaw06.MetaPuts', WHERE WHAT IT READS IS OF BULK AT MOST 1048576: true; the input reads as it did. -/
def metaPutsUptoRow : OpenClaim := { program := "ytkanhggmhjldmaa", sum := "60c63123e0dc3d08da417fbf116142ee8d49cf1f92fb6b52d58de294a302f4fc", func := "crier/crierlaw06.MetaPuts", spec := "metaPuts", unfollowed := true, recurses := true, apart := false, narrowed := true }
def MetaPutsUptoSaid : Prop := metaPutsUptoRow.holds Try.pinned (OpenSpec.upto metaPutsSpec)

/-- 'crierlaw03.WirePuts', WHERE WHAT IT READS IS OF BULK AT MOST 1048576: true; the input reads as it did. -/
def wirePutsUptoRow : OpenClaim := { program := "ytkanhggmhjldmaa", sum := "60c63123e0dc3d08da417fbf116142ee8d49cf1f92fb6b52d58de294a302f4fc", func := "crier/crierlaw03.WirePuts", spec := "wirePuts", unfollowed := true, recurses := true, apart := false, narrowed := true }
def WirePutsUptoSaid : Prop := wirePutsUptoRow.holds Try.pinned (OpenSpec.upto wirePutsSpec)

/-- 'crierlaw03.WireReads', WHERE WHAT IT READS IS OF BULK AT MOST 1048576: true; the input reads as it did. -/
def wireReadsUptoRow : OpenClaim := { program := "ytkanhggmhjldmaa", sum := "60c63123e0dc3d08da417fbf116142ee8d49cf1f92fb6b52d58de294a302f4fc", func := "crier/crierlaw03.WireReads", spec := "wireReads", unfollowed := true, recurses := true, apart := false, narrowed := true }
def WireReadsUptoSaid : Prop := wireReadsUptoRow.holds Try.pinned (OpenSpec.upto wireReadsSpec)

/-- 'crierlaw03.WireGroups', WHERE WHAT IT READS IS OF BULK AT MOST 1048576: true; the input reads as it did. -/
def wireGroupsUptoRow : OpenClaim := { program := "ytkanhggmhjldmaa", sum := "60c63123e0dc3d08da417fbf116142ee8d49cf1f92fb6b52d58de294a302f4fc", func := "crier/crierlaw03.WireGroups", spec := "wireGroups", unfollowed := true, recurses := true, apart := false, narrowed := true }
def WireGroupsUptoSaid : Prop := wireGroupsUptoRow.holds Try.pinned (OpenSpec.upto wireGroupsSpec)

/-- 'crierlaw03.WireJoins', WHERE WHAT IT READS IS OF BULK AT MOST 1048576: true; the input reads as it did. -/
def wireJoinsUptoRow : OpenClaim := { program := "ytkanhggmhjldmaa", sum := "60c63123e0dc3d08da417fbf116142ee8d49cf1f92fb6b52d58de294a302f4fc", func := "crier/crierlaw03.WireJoins", spec := "wireJoins", unfollowed := true, recurses := true, apart := false, narrowed := true }
def WireJoinsUptoSaid : Prop := wireJoinsUptoRow.holds Try.pinned (OpenSpec.upto wireJoinsSpec)

/-- 'crierlaw03.WireBack', WHERE WHAT IT READS IS OF BULK AT MOST 1048576: true; the input reads as it did. -/
def wireBackUptoRow : OpenClaim := { program := "ytkanhggmhjldmaa", sum := "60c63123e0dc3d08da417fbf116142ee8d49cf1f92fb6b52d58de294a302f4fc", func := "crier/crierlaw03.WireBack", spec := "wireBack", unfollowed := true, recurses := true, apart := false, narrowed := true }
def WireBackUptoSaid : Prop := wireBackUptoRow.holds Try.pinned (OpenSpec.upto wireBackSpec)

/-- 'crierlaw06.MetaReads', WHERE WHAT IT READS IS OF BULK AT MOST 1048576: true; the input reads as it did. -/
def metaReadsUptoRow : OpenClaim := { program := "ytkanhggmhjldmaa", sum := "60c63123e0dc3d08da417fbf116142ee8d49cf1f92fb6b52d58de294a302f4fc", func := "crier/crierlaw06.MetaReads", spec := "metaReads", unfollowed := true, recurses := true, apart := false, narrowed := true }
def MetaReadsUptoSaid : Prop := metaReadsUptoRow.holds Try.pinned (OpenSpec.upto metaReadsSpec)

/-- 'crierlaw06.MetaStrange', WHERE WHAT IT READS IS OF BULK AT MOST 1048576: true; the input reads as it did. -/
def metaStrangeUptoRow : OpenClaim := { program := "ytkanhggmhjldmaa", sum := "60c63123e0dc3d08da417fbf116142ee8d49cf1f92fb6b52d58de294a302f4fc", func := "crier/crierlaw06.MetaStrange", spec := "metaStrange", unfollowed := true, recurses := true, apart := false, narrowed := true }
def MetaStrangeUptoSaid : Prop := metaStrangeUptoRow.holds Try.pinned (OpenSpec.upto metaStrangeSpec)

/-- 'crierlaw06.MetaBack', WHERE WHAT IT READS IS OF BULK AT MOST 1048576: true; the input reads as it did. -/
def metaBackUptoRow : OpenClaim := { program := "ytkanhggmhjldmaa", sum := "60c63123e0dc3d08da417fbf116142ee8d49cf1f92fb6b52d58de294a302f4fc", func := "crier/crierlaw06.MetaBack", spec := "metaBack", unfollowed := true, recurses := true, apart := false, narrowed := true }
def MetaBackUptoSaid : Prop := metaBackUptoRow.holds Try.pinned (OpenSpec.upto metaBackSpec)

end Rows
end Go.Proofs.Ytkanhggmhjldmaa
