/-
  DERIVED. GIVEN WITH THE SEED: THE CARDS: each row of YtlgnhhebeandkaaGreatDoorRows.lean that lists a variable, with what it lists TIED to the program's text (the seventh form; the later family's looks); each row that meets fmt, with fmt's text TOLD by the authors' own Lean function (tested against real Go, not proved from fmt's source: count such statements apart). THE CARD IS WHAT COUNTS. Prove the row's statement (the work); the ties are given (YtlgnhhebeandkaaGreatDoorTie.lean); close each card by the builder's one call (the guide's Derived/Test/ToyasCard.lean, 'card_holds'). Laid BY PROGRAM, IN A SANDBOX (cutbox-door.mjs). By AI agents, Wed Nov 11 2026. No macro, syntax, notation, axiom, sorry.
-/
import Derived.Test.YtlgnhhebeandkaaGreatDoorRows
import GoSem.ClaimSeven
namespace Go.Proofs.YtlgnhhebeandkaaGreatDoor
namespace Rows

/-- THE TIED CARD OF 'safehouselaw24.ScriptSame'. -/
def scriptSameCard : Claim7 := { stood := { row := scriptSameRow, standIns := [], harness := (true, "57cf3ad29e0d88f0ca7095f37f6970a786248434e87fc92ba9d0f21c8d19e95a"), looks := true }, kinds := [], alts := [], laidByText := true, laidKinds := [.data, .data, .data, .sentinel, .sentinel], laidTests := true, laidLooks := .later }
def ScriptSameCardSaid : Prop := Claim7.holds Tryz.pinned (.plain (OpenSpec.ofChange scriptSameSpec)) scriptSameCard

/-- THE TIED CARD OF 'safehouselaw24.ScriptBack'. -/
def scriptBackCard : Claim7 := { stood := { row := scriptBackRow, standIns := [], harness := (true, "57cf3ad29e0d88f0ca7095f37f6970a786248434e87fc92ba9d0f21c8d19e95a"), looks := true }, kinds := [], alts := [], laidByText := true, laidKinds := [.data, .data, .data, .sentinel, .sentinel], laidTests := true, laidLooks := .later }
def ScriptBackCardSaid : Prop := Claim7.holds Tryz.pinned (.plain (OpenSpec.ofChange scriptBackSpec)) scriptBackCard

/-- THE TIED CARD OF 'safehouselaw24.ScriptLines'. -/
def scriptLinesCard : Claim7 := { stood := { row := scriptLinesRow, standIns := [], harness := (true, "57cf3ad29e0d88f0ca7095f37f6970a786248434e87fc92ba9d0f21c8d19e95a"), looks := true }, kinds := [], alts := [], laidByText := true, laidKinds := [.data, .data, .data, .sentinel, .sentinel], laidTests := true, laidLooks := .later }
def ScriptLinesCardSaid : Prop := Claim7.holds Tryz.pinned (.plain (OpenSpec.ofChange scriptLinesSpec)) scriptLinesCard

/-- THE TIED CARD OF 'safehouselaw24.ScriptTells'. -/
def scriptTellsCard : Claim7 := { stood := { row := scriptTellsRow, standIns := [], harness := (true, "57cf3ad29e0d88f0ca7095f37f6970a786248434e87fc92ba9d0f21c8d19e95a"), looks := true }, kinds := [], alts := [], laidByText := true, laidKinds := [.data, .data, .data, .sentinel, .sentinel], laidTests := true, laidLooks := .later }
def ScriptTellsCardSaid : Prop := Claim7.holds Tryz.pinned (.plain (OpenSpec.ofChange scriptTellsSpec)) scriptTellsCard

/-- THE TIED CARD OF 'safehouselaw12.GroupBytes'. -/
def groupBytesCard : Claim7 := { stood := { row := groupBytesRow, standIns := [], harness := (true, "57cf3ad29e0d88f0ca7095f37f6970a786248434e87fc92ba9d0f21c8d19e95a"), looks := true }, kinds := [], alts := [], laidByText := true, laidKinds := [.data, .data, .data, .sentinel, .sentinel], laidTests := true, laidLooks := .later }
def GroupBytesCardSaid : Prop := Claim7.holds Tryz.pinned (.plain (OpenSpec.ofChange groupBytesSpec)) groupBytesCard

/-- THE TIED CARD OF 'safehouselaw12.GroupTells'. -/
def groupTellsCard : Claim7 := { stood := { row := groupTellsRow, standIns := [], harness := (true, "57cf3ad29e0d88f0ca7095f37f6970a786248434e87fc92ba9d0f21c8d19e95a"), looks := true }, kinds := [], alts := [], laidByText := true, laidKinds := [.data, .data, .data, .sentinel, .sentinel], laidTests := true, laidLooks := .later }
def GroupTellsCardSaid : Prop := Claim7.holds Tryz.pinned (.plain (OpenSpec.ofChange groupTellsSpec)) groupTellsCard

/-- THE TIED CARD OF 'safehouselaw12.GroupIn'. -/
def groupInCard : Claim7 := { stood := { row := groupInRow, standIns := [], harness := (true, "57cf3ad29e0d88f0ca7095f37f6970a786248434e87fc92ba9d0f21c8d19e95a"), looks := true }, kinds := [], alts := [], laidByText := true, laidKinds := [.data, .data, .data, .sentinel, .sentinel], laidTests := true, laidLooks := .later }
def GroupInCardSaid : Prop := Claim7.holds Tryz.pinned (.plain (OpenSpec.ofChange groupInSpec)) groupInCard

/-- THE TIED CARD OF 'safehouselaw12.GroupGone'. -/
def groupGoneCard : Claim7 := { stood := { row := groupGoneRow, standIns := [], harness := (true, "57cf3ad29e0d88f0ca7095f37f6970a786248434e87fc92ba9d0f21c8d19e95a"), looks := true }, kinds := [], alts := [], laidByText := true, laidKinds := [.data, .data, .data, .sentinel, .sentinel], laidTests := true, laidLooks := .later }
def GroupGoneCardSaid : Prop := Claim7.holds Tryz.pinned (.plain (OpenSpec.ofChange groupGoneSpec)) groupGoneCard

/-- THE SECOND FORM's CARD OF 'safehouselaw24.ScriptSame'. -/
def scriptSameUptoCard : Claim7 := { stood := { row := scriptSameUptoRow, standIns := [], harness := (true, "57cf3ad29e0d88f0ca7095f37f6970a786248434e87fc92ba9d0f21c8d19e95a"), looks := true }, kinds := [], alts := [], laidByText := true, laidKinds := [.data, .data, .data, .sentinel, .sentinel], laidTests := true, laidLooks := .later }
def ScriptSameUptoCardSaid : Prop := Claim7.holds Tryz.pinned (.plain (OpenSpec.upto scriptSameSpec)) scriptSameUptoCard

/-- THE SECOND FORM's CARD OF 'safehouselaw24.ScriptBack'. -/
def scriptBackUptoCard : Claim7 := { stood := { row := scriptBackUptoRow, standIns := [], harness := (true, "57cf3ad29e0d88f0ca7095f37f6970a786248434e87fc92ba9d0f21c8d19e95a"), looks := true }, kinds := [], alts := [], laidByText := true, laidKinds := [.data, .data, .data, .sentinel, .sentinel], laidTests := true, laidLooks := .later }
def ScriptBackUptoCardSaid : Prop := Claim7.holds Tryz.pinned (.plain (OpenSpec.upto scriptBackSpec)) scriptBackUptoCard

/-- THE SECOND FORM's CARD OF 'safehouselaw24.ScriptLines'. -/
def scriptLinesUptoCard : Claim7 := { stood := { row := scriptLinesUptoRow, standIns := [], harness := (true, "57cf3ad29e0d88f0ca7095f37f6970a786248434e87fc92ba9d0f21c8d19e95a"), looks := true }, kinds := [], alts := [], laidByText := true, laidKinds := [.data, .data, .data, .sentinel, .sentinel], laidTests := true, laidLooks := .later }
def ScriptLinesUptoCardSaid : Prop := Claim7.holds Tryz.pinned (.plain (OpenSpec.upto scriptLinesSpec)) scriptLinesUptoCard

/-- THE SECOND FORM's CARD OF 'safehouselaw24.ScriptTells'. -/
def scriptTellsUptoCard : Claim7 := { stood := { row := scriptTellsUptoRow, standIns := [], harness := (true, "57cf3ad29e0d88f0ca7095f37f6970a786248434e87fc92ba9d0f21c8d19e95a"), looks := true }, kinds := [], alts := [], laidByText := true, laidKinds := [.data, .data, .data, .sentinel, .sentinel], laidTests := true, laidLooks := .later }
def ScriptTellsUptoCardSaid : Prop := Claim7.holds Tryz.pinned (.plain (OpenSpec.upto scriptTellsSpec)) scriptTellsUptoCard

/-- THE SECOND FORM's CARD OF 'safehouselaw12.GroupBytes'. -/
def groupBytesUptoCard : Claim7 := { stood := { row := groupBytesUptoRow, standIns := [], harness := (true, "57cf3ad29e0d88f0ca7095f37f6970a786248434e87fc92ba9d0f21c8d19e95a"), looks := true }, kinds := [], alts := [], laidByText := true, laidKinds := [.data, .data, .data, .sentinel, .sentinel], laidTests := true, laidLooks := .later }
def GroupBytesUptoCardSaid : Prop := Claim7.holds Tryz.pinned (.plain (OpenSpec.upto groupBytesSpec)) groupBytesUptoCard

/-- THE SECOND FORM's CARD OF 'safehouselaw12.GroupTells'. -/
def groupTellsUptoCard : Claim7 := { stood := { row := groupTellsUptoRow, standIns := [], harness := (true, "57cf3ad29e0d88f0ca7095f37f6970a786248434e87fc92ba9d0f21c8d19e95a"), looks := true }, kinds := [], alts := [], laidByText := true, laidKinds := [.data, .data, .data, .sentinel, .sentinel], laidTests := true, laidLooks := .later }
def GroupTellsUptoCardSaid : Prop := Claim7.holds Tryz.pinned (.plain (OpenSpec.upto groupTellsSpec)) groupTellsUptoCard

/-- THE SECOND FORM's CARD OF 'safehouselaw12.GroupIn'. -/
def groupInUptoCard : Claim7 := { stood := { row := groupInUptoRow, standIns := [], harness := (true, "57cf3ad29e0d88f0ca7095f37f6970a786248434e87fc92ba9d0f21c8d19e95a"), looks := true }, kinds := [], alts := [], laidByText := true, laidKinds := [.data, .data, .data, .sentinel, .sentinel], laidTests := true, laidLooks := .later }
def GroupInUptoCardSaid : Prop := Claim7.holds Tryz.pinned (.plain (OpenSpec.upto groupInSpec)) groupInUptoCard

/-- THE SECOND FORM's CARD OF 'safehouselaw12.GroupGone'. -/
def groupGoneUptoCard : Claim7 := { stood := { row := groupGoneUptoRow, standIns := [], harness := (true, "57cf3ad29e0d88f0ca7095f37f6970a786248434e87fc92ba9d0f21c8d19e95a"), looks := true }, kinds := [], alts := [], laidByText := true, laidKinds := [.data, .data, .data, .sentinel, .sentinel], laidTests := true, laidLooks := .later }
def GroupGoneUptoCardSaid : Prop := Claim7.holds Tryz.pinned (.plain (OpenSpec.upto groupGoneSpec)) groupGoneUptoCard
end Rows
end Go.Proofs.YtlgnhhebeandkaaGreatDoor
