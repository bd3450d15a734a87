/-
  DERIVED. GIVEN WITH THE SEED: THE CARDS: each row of YtieeoakdkbackaaDoorRows.lean that lists a variable, with what it lists TIED to the program's text (the seventh form; the later family's looks); each row that meets fmt, with fmt's text TOLD by the authors' own Lean function (tested against real Go, not proved from fmt's source: count such statements apart). THE CARD IS WHAT COUNTS. Prove the row's statement (the work); the ties are given (YtieeoakdkbackaaDoorTie.lean); close each card by the builder's one call (the guide's Derived/Test/ToyasCard.lean, 'card_holds'). Laid BY PROGRAM, IN A SANDBOX (cutbox-door.mjs). By AI agents, Wed Nov 11 2026. No macro, syntax, notation, axiom, sorry.
-/
import Derived.Test.YtieeoakdkbackaaDoorRows
import GoSem.ClaimSeven
namespace Go.Proofs.YtieeoakdkbackaaDoor
namespace Rows

/-- THE TIED CARD OF 'safehouselaw17.DataReads'. -/
def dataReadsCard : Claim7 := { stood := { row := dataReadsRow, standIns := [], harness := (true, "30fb8166acb64be85a64741f6e8d2359decb1c7b135f688c556d5568ddad5165"), looks := true }, kinds := [], alts := [], laidByText := true, laidKinds := [.data, .data, .data, .sentinel, .sentinel], laidTests := true, laidLooks := .later }
def DataReadsCardSaid : Prop := Claim7.holds Tryd.pinned (.plain (OpenSpec.ofChange dataReadsSpec)) dataReadsCard

/-- THE TIED CARD OF 'safehouselaw17.DataMakes'. -/
def dataMakesCard : Claim7 := { stood := { row := dataMakesRow, standIns := [], harness := (true, "30fb8166acb64be85a64741f6e8d2359decb1c7b135f688c556d5568ddad5165"), looks := true }, kinds := [], alts := [], laidByText := true, laidKinds := [.data, .data, .data, .sentinel, .sentinel], laidTests := true, laidLooks := .later }
def DataMakesCardSaid : Prop := Claim7.holds Tryd.pinned (.plain (OpenSpec.ofChange dataMakesSpec)) dataMakesCard

/-- THE TIED CARD OF 'safehouselaw16.FreshTwins'. -/
def freshTwinsCard : Claim7 := { stood := { row := freshTwinsRow, standIns := [], harness := (true, "30fb8166acb64be85a64741f6e8d2359decb1c7b135f688c556d5568ddad5165"), looks := true }, kinds := [], alts := [], laidByText := true, laidKinds := [.data, .data, .data, .sentinel, .sentinel], laidTests := true, laidLooks := .later }
def FreshTwinsCardSaid : Prop := Claim7.holds Tryd.pinned (.plain (OpenSpec.ofChange freshTwinsSpec)) freshTwinsCard

/-- THE TIED CARD OF 'safehouselaw14.TreeProofs'. -/
def treeProofsCard : Claim7 := { stood := { row := treeProofsRow, standIns := [], harness := (true, "30fb8166acb64be85a64741f6e8d2359decb1c7b135f688c556d5568ddad5165"), looks := true }, kinds := [], alts := [], laidByText := true, laidKinds := [.data, .data, .data, .sentinel, .sentinel], laidTests := true, laidLooks := .later }
def TreeProofsCardSaid : Prop := Claim7.holds Tryd.pinned (.plain (OpenSpec.ofChange treeProofsSpec)) treeProofsCard

/-- THE SECOND FORM's CARD OF 'safehouselaw17.DataReads'. -/
def dataReadsUptoCard : Claim7 := { stood := { row := dataReadsUptoRow, standIns := [], harness := (true, "30fb8166acb64be85a64741f6e8d2359decb1c7b135f688c556d5568ddad5165"), looks := true }, kinds := [], alts := [], laidByText := true, laidKinds := [.data, .data, .data, .sentinel, .sentinel], laidTests := true, laidLooks := .later }
def DataReadsUptoCardSaid : Prop := Claim7.holds Tryd.pinned (.plain (OpenSpec.upto dataReadsSpec)) dataReadsUptoCard

/-- THE SECOND FORM's CARD OF 'safehouselaw17.DataMakes'. -/
def dataMakesUptoCard : Claim7 := { stood := { row := dataMakesUptoRow, standIns := [], harness := (true, "30fb8166acb64be85a64741f6e8d2359decb1c7b135f688c556d5568ddad5165"), looks := true }, kinds := [], alts := [], laidByText := true, laidKinds := [.data, .data, .data, .sentinel, .sentinel], laidTests := true, laidLooks := .later }
def DataMakesUptoCardSaid : Prop := Claim7.holds Tryd.pinned (.plain (OpenSpec.upto dataMakesSpec)) dataMakesUptoCard

/-- THE SECOND FORM's CARD OF 'safehouselaw16.FreshTwins'. -/
def freshTwinsUptoCard : Claim7 := { stood := { row := freshTwinsUptoRow, standIns := [], harness := (true, "30fb8166acb64be85a64741f6e8d2359decb1c7b135f688c556d5568ddad5165"), looks := true }, kinds := [], alts := [], laidByText := true, laidKinds := [.data, .data, .data, .sentinel, .sentinel], laidTests := true, laidLooks := .later }
def FreshTwinsUptoCardSaid : Prop := Claim7.holds Tryd.pinned (.plain (OpenSpec.upto freshTwinsSpec)) freshTwinsUptoCard

/-- THE SECOND FORM's CARD OF 'safehouselaw14.TreeProofs'. -/
def treeProofsUptoCard : Claim7 := { stood := { row := treeProofsUptoRow, standIns := [], harness := (true, "30fb8166acb64be85a64741f6e8d2359decb1c7b135f688c556d5568ddad5165"), looks := true }, kinds := [], alts := [], laidByText := true, laidKinds := [.data, .data, .data, .sentinel, .sentinel], laidTests := true, laidLooks := .later }
def TreeProofsUptoCardSaid : Prop := Claim7.holds Tryd.pinned (.plain (OpenSpec.upto treeProofsSpec)) treeProofsUptoCard
end Rows
end Go.Proofs.YtieeoakdkbackaaDoor
