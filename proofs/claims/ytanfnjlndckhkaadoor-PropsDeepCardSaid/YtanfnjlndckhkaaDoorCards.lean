/-
  DERIVED. GIVEN WITH THE SEED: THE CARDS: each row of YtanfnjlndckhkaaDoorRows.lean that lists a variable, with what it lists TIED to the program's text (the seventh form; the later family's looks); each row that meets fmt, with fmt's text TOLD by the authors' own Lean function (tested against real Go, not proved from fmt's source: count such statements apart). THE CARD IS WHAT COUNTS. Prove the row's statement (the work); the ties are given (YtanfnjlndckhkaaDoorTie.lean); close each card by the builder's one call (the guide's Derived/Test/ToyasCard.lean, 'card_holds'). Laid BY PROGRAM, IN A SANDBOX (cutbox-door.mjs). By AI agents, Wed Nov 11 2026. No macro, syntax, notation, axiom, sorry.
-/
import Derived.Test.YtanfnjlndckhkaaDoorRows
import GoSem.ClaimSeven
namespace Go.Proofs.YtanfnjlndckhkaaDoor
namespace Rows

/-- THE TIED CARD OF 'crierlaw08.DatasetPuts'. -/
def datasetPutsCard : Claim7 := { stood := { row := datasetPutsRow, standIns := [], harness := (true, "7d72fafba427ff0847a6388f364c9dc63e86c54394e3f85efed268fdec722234"), looks := false }, kinds := [], alts := [], laidByText := true, laidKinds := [.data], laidTests := true, laidLooks := .later }
def DatasetPutsCardSaid : Prop := Claim7.holds Tryd.pinned (.plain (OpenSpec.ofChange datasetPutsSpec)) datasetPutsCard

/-- THE TIED CARD OF 'crierlaw07.PropsPuts'. -/
def propsPutsCard : Claim7 := { stood := { row := propsPutsRow, standIns := [], harness := (true, "7d72fafba427ff0847a6388f364c9dc63e86c54394e3f85efed268fdec722234"), looks := false }, kinds := [], alts := [], laidByText := true, laidKinds := [.data], laidTests := true, laidLooks := .later }
def PropsPutsCardSaid : Prop := Claim7.holds Tryd.pinned (.plain (OpenSpec.ofChange propsPutsSpec)) propsPutsCard

/-- THE TIED CARD OF 'crierlaw08.DatasetCells'. -/
def datasetCellsCard : Claim7 := { stood := { row := datasetCellsRow, standIns := [], harness := (true, "7d72fafba427ff0847a6388f364c9dc63e86c54394e3f85efed268fdec722234"), looks := false }, kinds := [], alts := [], laidByText := true, laidKinds := [.data], laidTests := true, laidLooks := .later }
def DatasetCellsCardSaid : Prop := Claim7.holds Tryd.pinned (.plain (OpenSpec.ofChange datasetCellsSpec)) datasetCellsCard

/-- THE TIED CARD OF 'crierlaw07.PropsSame'. -/
def propsSameCard : Claim7 := { stood := { row := propsSameRow, standIns := [], harness := (true, "7d72fafba427ff0847a6388f364c9dc63e86c54394e3f85efed268fdec722234"), looks := false }, kinds := [], alts := [], laidByText := true, laidKinds := [.data], laidTests := true, laidLooks := .later }
def PropsSameCardSaid : Prop := Claim7.holds Tryd.pinned (.plain (OpenSpec.ofChange propsSameSpec)) propsSameCard

/-- THE TIED CARD OF 'crierlaw08.DatasetSame'. -/
def datasetSameCard : Claim7 := { stood := { row := datasetSameRow, standIns := [], harness := (true, "7d72fafba427ff0847a6388f364c9dc63e86c54394e3f85efed268fdec722234"), looks := false }, kinds := [], alts := [], laidByText := true, laidKinds := [.data], laidTests := true, laidLooks := .later }
def DatasetSameCardSaid : Prop := Claim7.holds Tryd.pinned (.plain (OpenSpec.ofChange datasetSameSpec)) datasetSameCard

/-- THE TIED CARD OF 'crierlaw07.PropsReads'. -/
def propsReadsCard : Claim7 := { stood := { row := propsReadsRow, standIns := [], harness := (true, "7d72fafba427ff0847a6388f364c9dc63e86c54394e3f85efed268fdec722234"), looks := false }, kinds := [], alts := [], laidByText := true, laidKinds := [.data], laidTests := true, laidLooks := .later }
def PropsReadsCardSaid : Prop := Claim7.holds Tryd.pinned (.plain (OpenSpec.ofChange propsReadsSpec)) propsReadsCard

/-- THE TIED CARD OF 'crierlaw08.DatasetReads'. -/
def datasetReadsCard : Claim7 := { stood := { row := datasetReadsRow, standIns := [], harness := (true, "7d72fafba427ff0847a6388f364c9dc63e86c54394e3f85efed268fdec722234"), looks := false }, kinds := [], alts := [], laidByText := true, laidKinds := [.data], laidTests := true, laidLooks := .later }
def DatasetReadsCardSaid : Prop := Claim7.holds Tryd.pinned (.plain (OpenSpec.ofChange datasetReadsSpec)) datasetReadsCard

/-- THE TIED CARD OF 'crierlaw07.PropsBack'. -/
def propsBackCard : Claim7 := { stood := { row := propsBackRow, standIns := [], harness := (true, "7d72fafba427ff0847a6388f364c9dc63e86c54394e3f85efed268fdec722234"), looks := false }, kinds := [], alts := [], laidByText := true, laidKinds := [.data], laidTests := true, laidLooks := .later }
def PropsBackCardSaid : Prop := Claim7.holds Tryd.pinned (.plain (OpenSpec.ofChange propsBackSpec)) propsBackCard

/-- THE TIED CARD OF 'crierlaw07.PropsDeep'. -/
def propsDeepCard : Claim7 := { stood := { row := propsDeepRow, standIns := [], harness := (true, "7d72fafba427ff0847a6388f364c9dc63e86c54394e3f85efed268fdec722234"), looks := false }, kinds := [], alts := [], laidByText := true, laidKinds := [.data], laidTests := true, laidLooks := .later }
def PropsDeepCardSaid : Prop := Claim7.holds Tryd.pinned (.plain (OpenSpec.ofChange propsDeepSpec)) propsDeepCard

/-- THE TIED CARD OF 'crierlaw08.DatasetBack'. -/
def datasetBackCard : Claim7 := { stood := { row := datasetBackRow, standIns := [], harness := (true, "7d72fafba427ff0847a6388f364c9dc63e86c54394e3f85efed268fdec722234"), looks := false }, kinds := [], alts := [], laidByText := true, laidKinds := [.data], laidTests := true, laidLooks := .later }
def DatasetBackCardSaid : Prop := Claim7.holds Tryd.pinned (.plain (OpenSpec.ofChange datasetBackSpec)) datasetBackCard

/-- THE SECOND FORM's CARD OF 'crierlaw08.DatasetPuts'. -/
def datasetPutsUptoCard : Claim7 := { stood := { row := datasetPutsUptoRow, standIns := [], harness := (true, "7d72fafba427ff0847a6388f364c9dc63e86c54394e3f85efed268fdec722234"), looks := false }, kinds := [], alts := [], laidByText := true, laidKinds := [.data], laidTests := true, laidLooks := .later }
def DatasetPutsUptoCardSaid : Prop := Claim7.holds Tryd.pinned (.plain (OpenSpec.upto datasetPutsSpec)) datasetPutsUptoCard

/-- THE SECOND FORM's CARD OF 'crierlaw07.PropsPuts'. -/
def propsPutsUptoCard : Claim7 := { stood := { row := propsPutsUptoRow, standIns := [], harness := (true, "7d72fafba427ff0847a6388f364c9dc63e86c54394e3f85efed268fdec722234"), looks := false }, kinds := [], alts := [], laidByText := true, laidKinds := [.data], laidTests := true, laidLooks := .later }
def PropsPutsUptoCardSaid : Prop := Claim7.holds Tryd.pinned (.plain (OpenSpec.upto propsPutsSpec)) propsPutsUptoCard

/-- THE SECOND FORM's CARD OF 'crierlaw08.DatasetCells'. -/
def datasetCellsUptoCard : Claim7 := { stood := { row := datasetCellsUptoRow, standIns := [], harness := (true, "7d72fafba427ff0847a6388f364c9dc63e86c54394e3f85efed268fdec722234"), looks := false }, kinds := [], alts := [], laidByText := true, laidKinds := [.data], laidTests := true, laidLooks := .later }
def DatasetCellsUptoCardSaid : Prop := Claim7.holds Tryd.pinned (.plain (OpenSpec.upto datasetCellsSpec)) datasetCellsUptoCard

/-- THE SECOND FORM's CARD OF 'crierlaw07.PropsSame'. -/
def propsSameUptoCard : Claim7 := { stood := { row := propsSameUptoRow, standIns := [], harness := (true, "7d72fafba427ff0847a6388f364c9dc63e86c54394e3f85efed268fdec722234"), looks := false }, kinds := [], alts := [], laidByText := true, laidKinds := [.data], laidTests := true, laidLooks := .later }
def PropsSameUptoCardSaid : Prop := Claim7.holds Tryd.pinned (.plain (OpenSpec.upto propsSameSpec)) propsSameUptoCard

/-- THE SECOND FORM's CARD OF 'crierlaw08.DatasetSame'. -/
def datasetSameUptoCard : Claim7 := { stood := { row := datasetSameUptoRow, standIns := [], harness := (true, "7d72fafba427ff0847a6388f364c9dc63e86c54394e3f85efed268fdec722234"), looks := false }, kinds := [], alts := [], laidByText := true, laidKinds := [.data], laidTests := true, laidLooks := .later }
def DatasetSameUptoCardSaid : Prop := Claim7.holds Tryd.pinned (.plain (OpenSpec.upto datasetSameSpec)) datasetSameUptoCard

/-- THE SECOND FORM's CARD OF 'crierlaw07.PropsReads'. -/
def propsReadsUptoCard : Claim7 := { stood := { row := propsReadsUptoRow, standIns := [], harness := (true, "7d72fafba427ff0847a6388f364c9dc63e86c54394e3f85efed268fdec722234"), looks := false }, kinds := [], alts := [], laidByText := true, laidKinds := [.data], laidTests := true, laidLooks := .later }
def PropsReadsUptoCardSaid : Prop := Claim7.holds Tryd.pinned (.plain (OpenSpec.upto propsReadsSpec)) propsReadsUptoCard

/-- THE SECOND FORM's CARD OF 'crierlaw08.DatasetReads'. -/
def datasetReadsUptoCard : Claim7 := { stood := { row := datasetReadsUptoRow, standIns := [], harness := (true, "7d72fafba427ff0847a6388f364c9dc63e86c54394e3f85efed268fdec722234"), looks := false }, kinds := [], alts := [], laidByText := true, laidKinds := [.data], laidTests := true, laidLooks := .later }
def DatasetReadsUptoCardSaid : Prop := Claim7.holds Tryd.pinned (.plain (OpenSpec.upto datasetReadsSpec)) datasetReadsUptoCard

/-- THE SECOND FORM's CARD OF 'crierlaw07.PropsBack'. -/
def propsBackUptoCard : Claim7 := { stood := { row := propsBackUptoRow, standIns := [], harness := (true, "7d72fafba427ff0847a6388f364c9dc63e86c54394e3f85efed268fdec722234"), looks := false }, kinds := [], alts := [], laidByText := true, laidKinds := [.data], laidTests := true, laidLooks := .later }
def PropsBackUptoCardSaid : Prop := Claim7.holds Tryd.pinned (.plain (OpenSpec.upto propsBackSpec)) propsBackUptoCard

/-- THE SECOND FORM's CARD OF 'crierlaw07.PropsDeep'. -/
def propsDeepUptoCard : Claim7 := { stood := { row := propsDeepUptoRow, standIns := [], harness := (true, "7d72fafba427ff0847a6388f364c9dc63e86c54394e3f85efed268fdec722234"), looks := false }, kinds := [], alts := [], laidByText := true, laidKinds := [.data], laidTests := true, laidLooks := .later }
def PropsDeepUptoCardSaid : Prop := Claim7.holds Tryd.pinned (.plain (OpenSpec.upto propsDeepSpec)) propsDeepUptoCard

/-- THE SECOND FORM's CARD OF 'crierlaw08.DatasetBack'. -/
def datasetBackUptoCard : Claim7 := { stood := { row := datasetBackUptoRow, standIns := [], harness := (true, "7d72fafba427ff0847a6388f364c9dc63e86c54394e3f85efed268fdec722234"), looks := false }, kinds := [], alts := [], laidByText := true, laidKinds := [.data], laidTests := true, laidLooks := .later }
def DatasetBackUptoCardSaid : Prop := Claim7.holds Tryd.pinned (.plain (OpenSpec.upto datasetBackSpec)) datasetBackUptoCard
end Rows
end Go.Proofs.YtanfnjlndckhkaaDoor
