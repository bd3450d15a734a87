/-
  DERIVED. GIVEN WITH THE SEED: THE CARDS: each row of YtmngicgdgpimlaaDoorRows.lean that lists a variable, with what it lists TIED to the program's text (the seventh form; the later family's looks); each row that meets fmt, with fmt's text TOLD by the authors' own Lean function (tested against real Go, not proved from fmt's source: count such statements apart). THE CARD IS WHAT COUNTS. Prove the row's statement (the work); the ties are given (YtmngicgdgpimlaaDoorTie.lean); close each card by the builder's one call (the guide's Derived/Test/ToyasCard.lean, 'card_holds'). Laid BY PROGRAM, IN A SANDBOX (cutbox-door.mjs). By AI agents, Wed Nov 11 2026. No macro, syntax, notation, axiom, sorry.
-/
import Derived.Test.YtmngicgdgpimlaaDoorRows
import GoSem.ClaimSeven
namespace Go.Proofs.YtmngicgdgpimlaaDoor
namespace Rows

/-- THE TIED CARD OF 'safehouselaw16.FreshBack'. -/
def freshBackCard : Claim7 := { stood := { row := freshBackRow, standIns := [], harness := (true, "873caabad86d3e73b16b0ea13cc822537d77bb6947db144a90c5a1d9687db6da"), looks := true }, kinds := [], alts := [], laidByText := true, laidKinds := [.data, .data, .data, .sentinel, .sentinel], laidTests := true, laidLooks := .later }
def FreshBackCardSaid : Prop := Claim7.holds Tryd.pinned (.plain (OpenSpec.ofChange freshBackSpec)) freshBackCard

/-- THE TIED CARD OF 'safehouselaw16.FreshTwins'. -/
def freshTwinsCard : Claim7 := { stood := { row := freshTwinsRow, standIns := [], harness := (true, "873caabad86d3e73b16b0ea13cc822537d77bb6947db144a90c5a1d9687db6da"), looks := true }, kinds := [], alts := [], laidByText := true, laidKinds := [.data, .data, .data, .sentinel, .sentinel], laidTests := true, laidLooks := .later }
def FreshTwinsCardSaid : Prop := Claim7.holds Tryd.pinned (.plain (OpenSpec.ofChange freshTwinsSpec)) freshTwinsCard

/-- THE SECOND FORM's CARD OF 'safehouselaw16.FreshBack'. -/
def freshBackUptoCard : Claim7 := { stood := { row := freshBackUptoRow, standIns := [], harness := (true, "873caabad86d3e73b16b0ea13cc822537d77bb6947db144a90c5a1d9687db6da"), looks := true }, kinds := [], alts := [], laidByText := true, laidKinds := [.data, .data, .data, .sentinel, .sentinel], laidTests := true, laidLooks := .later }
def FreshBackUptoCardSaid : Prop := Claim7.holds Tryd.pinned (.plain (OpenSpec.upto freshBackSpec)) freshBackUptoCard

/-- THE SECOND FORM's CARD OF 'safehouselaw16.FreshTwins'. -/
def freshTwinsUptoCard : Claim7 := { stood := { row := freshTwinsUptoRow, standIns := [], harness := (true, "873caabad86d3e73b16b0ea13cc822537d77bb6947db144a90c5a1d9687db6da"), looks := true }, kinds := [], alts := [], laidByText := true, laidKinds := [.data, .data, .data, .sentinel, .sentinel], laidTests := true, laidLooks := .later }
def FreshTwinsUptoCardSaid : Prop := Claim7.holds Tryd.pinned (.plain (OpenSpec.upto freshTwinsSpec)) freshTwinsUptoCard
end Rows
end Go.Proofs.YtmngicgdgpimlaaDoor
