/-
  DERIVED. GIVEN WITH THE SEED: THE CARDS: each row of YtfmamcdlnbmpeaaDoorRows.lean that lists a variable, with what it lists TIED to the program's text (the seventh form; the later family's looks); each row that meets fmt, with fmt's text TOLD by the authors' own Lean function (tested against real Go, not proved from fmt's source: count such statements apart). THE CARD IS WHAT COUNTS. Prove the row's statement (the work); the ties are given (YtfmamcdlnbmpeaaDoorTie.lean); close each card by the builder's one call (the guide's Derived/Test/ToyasCard.lean, 'card_holds'). Laid BY PROGRAM, IN A SANDBOX (cutbox-door.mjs). By AI agents, Wed Nov 11 2026. No macro, syntax, notation, axiom, sorry.
-/
import Derived.Test.YtfmamcdlnbmpeaaDoorRows
import GoSem.ClaimSeven
namespace Go.Proofs.YtfmamcdlnbmpeaaDoor
namespace Rows

/-- THE TIED CARD OF 'crierlaw05.ValuePuts'. -/
def valuePutsCard : Claim7 := { stood := { row := valuePutsRow, standIns := [], harness := (true, "f469367aea271173b19189e608b72dc139e3425ebd409ef7089f7d4838dd783b"), looks := false }, kinds := [], alts := [], laidByText := true, laidKinds := [.data], laidTests := true, laidLooks := .later }
def ValuePutsCardSaid : Prop := Claim7.holds Tryd.pinned (.plain (OpenSpec.ofChange valuePutsSpec)) valuePutsCard

/-- THE TIED CARD OF 'crierlaw05.ValueReads'. -/
def valueReadsCard : Claim7 := { stood := { row := valueReadsRow, standIns := [], harness := (true, "f469367aea271173b19189e608b72dc139e3425ebd409ef7089f7d4838dd783b"), looks := false }, kinds := [], alts := [], laidByText := true, laidKinds := [.data], laidTests := true, laidLooks := .later }
def ValueReadsCardSaid : Prop := Claim7.holds Tryd.pinned (.plain (OpenSpec.ofChange valueReadsSpec)) valueReadsCard

/-- THE TIED CARD OF 'crierlaw05.ValueRaw'. -/
def valueRawCard : Claim7 := { stood := { row := valueRawRow, standIns := [], harness := (true, "f469367aea271173b19189e608b72dc139e3425ebd409ef7089f7d4838dd783b"), looks := false }, kinds := [], alts := [], laidByText := true, laidKinds := [.data], laidTests := true, laidLooks := .later }
def ValueRawCardSaid : Prop := Claim7.holds Tryd.pinned (.plain (OpenSpec.ofChange valueRawSpec)) valueRawCard

/-- THE SECOND FORM's CARD OF 'crierlaw05.ValuePuts'. -/
def valuePutsUptoCard : Claim7 := { stood := { row := valuePutsUptoRow, standIns := [], harness := (true, "f469367aea271173b19189e608b72dc139e3425ebd409ef7089f7d4838dd783b"), looks := false }, kinds := [], alts := [], laidByText := true, laidKinds := [.data], laidTests := true, laidLooks := .later }
def ValuePutsUptoCardSaid : Prop := Claim7.holds Tryd.pinned (.plain (OpenSpec.upto valuePutsSpec)) valuePutsUptoCard

/-- THE SECOND FORM's CARD OF 'crierlaw05.ValueReads'. -/
def valueReadsUptoCard : Claim7 := { stood := { row := valueReadsUptoRow, standIns := [], harness := (true, "f469367aea271173b19189e608b72dc139e3425ebd409ef7089f7d4838dd783b"), looks := false }, kinds := [], alts := [], laidByText := true, laidKinds := [.data], laidTests := true, laidLooks := .later }
def ValueReadsUptoCardSaid : Prop := Claim7.holds Tryd.pinned (.plain (OpenSpec.upto valueReadsSpec)) valueReadsUptoCard

/-- THE SECOND FORM's CARD OF 'crierlaw05.ValueRaw'. -/
def valueRawUptoCard : Claim7 := { stood := { row := valueRawUptoRow, standIns := [], harness := (true, "f469367aea271173b19189e608b72dc139e3425ebd409ef7089f7d4838dd783b"), looks := false }, kinds := [], alts := [], laidByText := true, laidKinds := [.data], laidTests := true, laidLooks := .later }
def ValueRawUptoCardSaid : Prop := Claim7.holds Tryd.pinned (.plain (OpenSpec.upto valueRawSpec)) valueRawUptoCard
end Rows
end Go.Proofs.YtfmamcdlnbmpeaaDoor
