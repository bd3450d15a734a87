/-
  DERIVED. GIVEN WITH THE SEED: THE CARDS: each row of YtgielmldblopeaaDoorRows.lean that lists a variable, with what it lists TIED to the program's text (the seventh form; the later family's looks); each row that meets fmt, with fmt's text TOLD by the authors' own Lean function (tested against real Go, not proved from fmt's source: count such statements apart). THE CARD IS WHAT COUNTS. Prove the row's statement (the work); the ties are given (YtgielmldblopeaaDoorTie.lean); close each card by the builder's one call (the guide's Derived/Test/ToyasCard.lean, 'card_holds'). Laid BY PROGRAM, IN A SANDBOX (cutbox-door.mjs). By AI agents, Wed Nov 11 2026. No macro, syntax, notation, axiom, sorry.
-/
import Derived.Test.YtgielmldblopeaaDoorRows
import GoSem.ClaimSeven
namespace Go.Proofs.YtgielmldblopeaaDoor
namespace Rows

/-- THE TIED CARD OF 'safehouselaw17.DataReads'. -/
def dataReadsCard : Claim7 := { stood := { row := dataReadsRow, standIns := [], harness := (true, "ffa992c3ea0898cc87c9e270811ba28030a1923f6bb03dd9bf75b2254005cd8f"), looks := true }, kinds := [], alts := [], laidByText := true, laidKinds := [.data, .data, .data, .sentinel, .sentinel], laidTests := true, laidLooks := .later }
def DataReadsCardSaid : Prop := Claim7.holds Tryd.pinned (.plain (OpenSpec.ofChange dataReadsSpec)) dataReadsCard

/-- THE TIED CARD OF 'safehouselaw17.DataMakes'. -/
def dataMakesCard : Claim7 := { stood := { row := dataMakesRow, standIns := [], harness := (true, "ffa992c3ea0898cc87c9e270811ba28030a1923f6bb03dd9bf75b2254005cd8f"), looks := true }, kinds := [], alts := [], laidByText := true, laidKinds := [.data, .data, .data, .sentinel, .sentinel], laidTests := true, laidLooks := .later }
def DataMakesCardSaid : Prop := Claim7.holds Tryd.pinned (.plain (OpenSpec.ofChange dataMakesSpec)) dataMakesCard

/-- THE TIED CARD OF 'safehouselaw17.DataBack'. -/
def dataBackCard : Claim7 := { stood := { row := dataBackRow, standIns := [], harness := (true, "ffa992c3ea0898cc87c9e270811ba28030a1923f6bb03dd9bf75b2254005cd8f"), looks := true }, kinds := [], alts := [], laidByText := true, laidKinds := [.data, .data, .data, .sentinel, .sentinel], laidTests := true, laidLooks := .later }
def DataBackCardSaid : Prop := Claim7.holds Tryd.pinned (.plain (OpenSpec.ofChange dataBackSpec)) dataBackCard

/-- THE TIED CARD OF 'safehouselaw17.DataSecret'. -/
def dataSecretCard : Claim7 := { stood := { row := dataSecretRow, standIns := [], harness := (true, "ffa992c3ea0898cc87c9e270811ba28030a1923f6bb03dd9bf75b2254005cd8f"), looks := true }, kinds := [], alts := [], laidByText := true, laidKinds := [.data, .data, .data, .sentinel, .sentinel], laidTests := true, laidLooks := .later }
def DataSecretCardSaid : Prop := Claim7.holds Tryd.pinned (.plain (OpenSpec.ofChange dataSecretSpec)) dataSecretCard

/-- THE TIED CARD OF 'safehouselaw14.TreeProofs'. -/
def treeProofsCard : Claim7 := { stood := { row := treeProofsRow, standIns := [], harness := (true, "ffa992c3ea0898cc87c9e270811ba28030a1923f6bb03dd9bf75b2254005cd8f"), looks := true }, kinds := [], alts := [], laidByText := true, laidKinds := [.data, .data, .data, .sentinel, .sentinel], laidTests := true, laidLooks := .later }
def TreeProofsCardSaid : Prop := Claim7.holds Tryd.pinned (.plain (OpenSpec.ofChange treeProofsSpec)) treeProofsCard

/-- THE TIED CARD OF 'safehouselaw14.TreeSound'. -/
def treeSoundCard : Claim7 := { stood := { row := treeSoundRow, standIns := [], harness := (true, "ffa992c3ea0898cc87c9e270811ba28030a1923f6bb03dd9bf75b2254005cd8f"), looks := true }, kinds := [], alts := [], laidByText := true, laidKinds := [.data, .data, .data, .sentinel, .sentinel], laidTests := true, laidLooks := .later }
def TreeSoundCardSaid : Prop := Claim7.holds Tryd.pinned (.plain (OpenSpec.ofChange treeSoundSpec)) treeSoundCard

/-- THE TIED CARD OF 'safehouselaw14.TreeUnlike'. -/
def treeUnlikeCard : Claim7 := { stood := { row := treeUnlikeRow, standIns := [], harness := (true, "ffa992c3ea0898cc87c9e270811ba28030a1923f6bb03dd9bf75b2254005cd8f"), looks := true }, kinds := [], alts := [], laidByText := true, laidKinds := [.data, .data, .data, .sentinel, .sentinel], laidTests := true, laidLooks := .later }
def TreeUnlikeCardSaid : Prop := Claim7.holds Tryd.pinned (.plain (OpenSpec.ofChange treeUnlikeSpec)) treeUnlikeCard

/-- THE TIED CARD OF 'safehouselaw14.TreeBack'. -/
def treeBackCard : Claim7 := { stood := { row := treeBackRow, standIns := [], harness := (true, "ffa992c3ea0898cc87c9e270811ba28030a1923f6bb03dd9bf75b2254005cd8f"), looks := true }, kinds := [], alts := [], laidByText := true, laidKinds := [.data, .data, .data, .sentinel, .sentinel], laidTests := true, laidLooks := .later }
def TreeBackCardSaid : Prop := Claim7.holds Tryd.pinned (.plain (OpenSpec.ofChange treeBackSpec)) treeBackCard

/-- THE SECOND FORM's CARD OF 'safehouselaw17.DataReads'. -/
def dataReadsUptoCard : Claim7 := { stood := { row := dataReadsUptoRow, standIns := [], harness := (true, "ffa992c3ea0898cc87c9e270811ba28030a1923f6bb03dd9bf75b2254005cd8f"), looks := true }, kinds := [], alts := [], laidByText := true, laidKinds := [.data, .data, .data, .sentinel, .sentinel], laidTests := true, laidLooks := .later }
def DataReadsUptoCardSaid : Prop := Claim7.holds Tryd.pinned (.plain (OpenSpec.upto dataReadsSpec)) dataReadsUptoCard

/-- THE SECOND FORM's CARD OF 'safehouselaw17.DataMakes'. -/
def dataMakesUptoCard : Claim7 := { stood := { row := dataMakesUptoRow, standIns := [], harness := (true, "ffa992c3ea0898cc87c9e270811ba28030a1923f6bb03dd9bf75b2254005cd8f"), looks := true }, kinds := [], alts := [], laidByText := true, laidKinds := [.data, .data, .data, .sentinel, .sentinel], laidTests := true, laidLooks := .later }
def DataMakesUptoCardSaid : Prop := Claim7.holds Tryd.pinned (.plain (OpenSpec.upto dataMakesSpec)) dataMakesUptoCard

/-- THE SECOND FORM's CARD OF 'safehouselaw17.DataBack'. -/
def dataBackUptoCard : Claim7 := { stood := { row := dataBackUptoRow, standIns := [], harness := (true, "ffa992c3ea0898cc87c9e270811ba28030a1923f6bb03dd9bf75b2254005cd8f"), looks := true }, kinds := [], alts := [], laidByText := true, laidKinds := [.data, .data, .data, .sentinel, .sentinel], laidTests := true, laidLooks := .later }
def DataBackUptoCardSaid : Prop := Claim7.holds Tryd.pinned (.plain (OpenSpec.upto dataBackSpec)) dataBackUptoCard

/-- THE SECOND FORM's CARD OF 'safehouselaw17.DataSecret'. -/
def dataSecretUptoCard : Claim7 := { stood := { row := dataSecretUptoRow, standIns := [], harness := (true, "ffa992c3ea0898cc87c9e270811ba28030a1923f6bb03dd9bf75b2254005cd8f"), looks := true }, kinds := [], alts := [], laidByText := true, laidKinds := [.data, .data, .data, .sentinel, .sentinel], laidTests := true, laidLooks := .later }
def DataSecretUptoCardSaid : Prop := Claim7.holds Tryd.pinned (.plain (OpenSpec.upto dataSecretSpec)) dataSecretUptoCard

/-- THE SECOND FORM's CARD OF 'safehouselaw14.TreeProofs'. -/
def treeProofsUptoCard : Claim7 := { stood := { row := treeProofsUptoRow, standIns := [], harness := (true, "ffa992c3ea0898cc87c9e270811ba28030a1923f6bb03dd9bf75b2254005cd8f"), looks := true }, kinds := [], alts := [], laidByText := true, laidKinds := [.data, .data, .data, .sentinel, .sentinel], laidTests := true, laidLooks := .later }
def TreeProofsUptoCardSaid : Prop := Claim7.holds Tryd.pinned (.plain (OpenSpec.upto treeProofsSpec)) treeProofsUptoCard

/-- THE SECOND FORM's CARD OF 'safehouselaw14.TreeSound'. -/
def treeSoundUptoCard : Claim7 := { stood := { row := treeSoundUptoRow, standIns := [], harness := (true, "ffa992c3ea0898cc87c9e270811ba28030a1923f6bb03dd9bf75b2254005cd8f"), looks := true }, kinds := [], alts := [], laidByText := true, laidKinds := [.data, .data, .data, .sentinel, .sentinel], laidTests := true, laidLooks := .later }
def TreeSoundUptoCardSaid : Prop := Claim7.holds Tryd.pinned (.plain (OpenSpec.upto treeSoundSpec)) treeSoundUptoCard

/-- THE SECOND FORM's CARD OF 'safehouselaw14.TreeUnlike'. -/
def treeUnlikeUptoCard : Claim7 := { stood := { row := treeUnlikeUptoRow, standIns := [], harness := (true, "ffa992c3ea0898cc87c9e270811ba28030a1923f6bb03dd9bf75b2254005cd8f"), looks := true }, kinds := [], alts := [], laidByText := true, laidKinds := [.data, .data, .data, .sentinel, .sentinel], laidTests := true, laidLooks := .later }
def TreeUnlikeUptoCardSaid : Prop := Claim7.holds Tryd.pinned (.plain (OpenSpec.upto treeUnlikeSpec)) treeUnlikeUptoCard

/-- THE SECOND FORM's CARD OF 'safehouselaw14.TreeBack'. -/
def treeBackUptoCard : Claim7 := { stood := { row := treeBackUptoRow, standIns := [], harness := (true, "ffa992c3ea0898cc87c9e270811ba28030a1923f6bb03dd9bf75b2254005cd8f"), looks := true }, kinds := [], alts := [], laidByText := true, laidKinds := [.data, .data, .data, .sentinel, .sentinel], laidTests := true, laidLooks := .later }
def TreeBackUptoCardSaid : Prop := Claim7.holds Tryd.pinned (.plain (OpenSpec.upto treeBackSpec)) treeBackUptoCard
end Rows
end Go.Proofs.YtgielmldblopeaaDoor
