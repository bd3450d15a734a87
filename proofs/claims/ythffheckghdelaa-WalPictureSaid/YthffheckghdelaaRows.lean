/-
  No cell of these rows narrows 'for every input' (looked for: loops, veiled, ifaces, maps, wideKeys, modest, calm, conditions, laid).
  DERIVED. THE GIVEN ROWS OF THIS SEAT. 6 by the template 'for every input the law returns true; each argument reads behind the call as it read before'; 0 by the template 'total and deterministic' (their statements: YthffheckghdelaaTotals.lean).
  GIVEN WITH THE SEED: the statements are not yours to turn. If you find one false, say at which input.
  Laid BY PROGRAM, IN A SANDBOX (cutbox-rows.mjs): the forced cells as the released guide's own fill.sh prints them over the translation 0e8cd5b752dedf94… (all of the seat's roots in one cut). By AI agents, Wed Nov 11 2026. No macro, syntax, notation, axiom, sorry.
-/
import Derived.Test.YthffheckghdelaaChecked
import GoSem.Claim
import GoSem.ClaimJoined
import GoSem.ClaimMapViews
import Derived.JoinedTies
import Derived.KernelRfl
namespace Go.Proofs.Ythffheckghdelaa
/- THE CELL 'sum', in the pinned program and in every row, IS THE sha256 OF THE DUMP (.gsa) THAT YthffheckghdelaaProg.lean LOADS. Nothing in Lean hashes anything: it is a label: what it is worth is what the hold of that sum in a sandbox is worth. -/
noncomputable def Try.pinned : Pinned := { name := "ythffheckghdelaa", sum := "0e8cd5b752dedf948aa71831e51eca1caa275af96e170b20c157ddbddabdae9a", checked := Try.checked }
namespace Rows
def none {H : Type} : Left H := { results := [], args := [] }

/-- 'safehouselaw04.WalFills': WHATEVER THE INPUT: true; the input reads as it did. -/
def walFillsSpec : ChangeSpec := { name := "walFills", fn := fun _ => fun
  | [d] => { results := [.lit (.bool true)], args := [d] }
  | _ => none }
def walFillsRow : OpenClaim := { program := "ythffheckghdelaa", sum := "0e8cd5b752dedf948aa71831e51eca1caa275af96e170b20c157ddbddabdae9a", func := "safehouse/safehouselaw04.WalFills", spec := "walFills", unfollowed := true, recurses := true, apart := false }
def WalFillsSaid : Prop := walFillsRow.holds Try.pinned (OpenSpec.ofChange walFillsSpec)

/-- ITS FALSE NEIGHBOUR: 'it returns false'. Refute it at one input. -/
def walFillsWrong : ChangeSpec := { name := "walFills", fn := fun _ => fun
  | [d] => { results := [.lit (.bool false)], args := [d] }
  | _ => none }
def WalFillsWrongFalsely : Prop := walFillsRow.holds Try.pinned (OpenSpec.ofChange walFillsWrong)

/-- 'safehouselaw04.WalRoom': WHATEVER THE INPUT: true; the input reads as it did. -/
def walRoomSpec : ChangeSpec := { name := "walRoom", fn := fun _ => fun
  | [d1, d2] => { results := [.lit (.bool true)], args := [d1, d2] }
  | _ => none }
def walRoomRow : OpenClaim := { program := "ythffheckghdelaa", sum := "0e8cd5b752dedf948aa71831e51eca1caa275af96e170b20c157ddbddabdae9a", func := "safehouse/safehouselaw04.WalRoom", spec := "walRoom", unfollowed := true, recurses := true, apart := false }
def WalRoomSaid : Prop := walRoomRow.holds Try.pinned (OpenSpec.ofChange walRoomSpec)

/-- ITS FALSE NEIGHBOUR: 'it returns false'. Refute it at one input. -/
def walRoomWrong : ChangeSpec := { name := "walRoom", fn := fun _ => fun
  | [d1, d2] => { results := [.lit (.bool false)], args := [d1, d2] }
  | _ => none }
def WalRoomWrongFalsely : Prop := walRoomRow.holds Try.pinned (OpenSpec.ofChange walRoomWrong)

/-- 'safehouselaw04.WalAbsent': WHATEVER THE INPUT: true; the input reads as it did. -/
def walAbsentSpec : ChangeSpec := { name := "walAbsent", fn := fun _ => fun
  | [d1, d2] => { results := [.lit (.bool true)], args := [d1, d2] }
  | _ => none }
def walAbsentRow : OpenClaim := { program := "ythffheckghdelaa", sum := "0e8cd5b752dedf948aa71831e51eca1caa275af96e170b20c157ddbddabdae9a", func := "safehouse/safehouselaw04.WalAbsent", spec := "walAbsent", unfollowed := true, recurses := true, apart := false }
def WalAbsentSaid : Prop := walAbsentRow.holds Try.pinned (OpenSpec.ofChange walAbsentSpec)

/-- ITS FALSE NEIGHBOUR: 'it returns false'. Refute it at one input. -/
def walAbsentWrong : ChangeSpec := { name := "walAbsent", fn := fun _ => fun
  | [d1, d2] => { results := [.lit (.bool false)], args := [d1, d2] }
  | _ => none }
def WalAbsentWrongFalsely : Prop := walAbsentRow.holds Try.pinned (OpenSpec.ofChange walAbsentWrong)

/-- 'safehouselaw04.WalPicture': WHATEVER THE INPUT: true; the input reads as it did. -/
def walPictureSpec : ChangeSpec := { name := "walPicture", fn := fun _ => fun
  | [d1, d2, d3] => { results := [.lit (.bool true)], args := [d1, d2, d3] }
  | _ => none }
def walPictureRow : OpenClaim := { program := "ythffheckghdelaa", sum := "0e8cd5b752dedf948aa71831e51eca1caa275af96e170b20c157ddbddabdae9a", func := "safehouse/safehouselaw04.WalPicture", spec := "walPicture", unfollowed := true, recurses := true, apart := false }
def WalPictureSaid : Prop := walPictureRow.holds Try.pinned (OpenSpec.ofChange walPictureSpec)

/-- ITS FALSE NEIGHBOUR: 'it returns false'. Refute it at one input. -/
def walPictureWrong : ChangeSpec := { name := "walPicture", fn := fun _ => fun
  | [d1, d2, d3] => { results := [.lit (.bool false)], args := [d1, d2, d3] }
  | _ => none }
def WalPictureWrongFalsely : Prop := walPictureRow.holds Try.pinned (OpenSpec.ofChange walPictureWrong)

/-- 'safehouselaw04.WalLasts': WHATEVER THE INPUT: true; the input reads as it did. -/
def walLastsSpec : ChangeSpec := { name := "walLasts", fn := fun _ => fun
  | [d1, d2, d3] => { results := [.lit (.bool true)], args := [d1, d2, d3] }
  | _ => none }
def walLastsRow : OpenClaim := { program := "ythffheckghdelaa", sum := "0e8cd5b752dedf948aa71831e51eca1caa275af96e170b20c157ddbddabdae9a", func := "safehouse/safehouselaw04.WalLasts", spec := "walLasts", unfollowed := true, recurses := true, apart := false }
def WalLastsSaid : Prop := walLastsRow.holds Try.pinned (OpenSpec.ofChange walLastsSpec)

/-- ITS FALSE NEIGHBOUR: 'it returns false'. Refute it at one input. -/
def walLastsWrong : ChangeSpec := { name := "walLasts", fn := fun _ => fun
  | [d1, d2, d3] => { results := [.lit (.bool false)], args := [d1, d2, d3] }
  | _ => none }
def WalLastsWrongFalsely : Prop := walLastsRow.holds Try.pinned (OpenSpec.ofChange walLastsWrong)

/-- 'safehouselaw04.WalStill': WHATEVER THE INPUT: true; the input reads as it did. -/
def walStillSpec : ChangeSpec := { name := "walStill", fn := fun _ => fun
  | [d1, d2] => { results := [.lit (.bool true)], args := [d1, d2] }
  | _ => none }
def walStillRow : OpenClaim := { program := "ythffheckghdelaa", sum := "0e8cd5b752dedf948aa71831e51eca1caa275af96e170b20c157ddbddabdae9a", func := "safehouse/safehouselaw04.WalStill", spec := "walStill", unfollowed := true, recurses := true, apart := false }
def WalStillSaid : Prop := walStillRow.holds Try.pinned (OpenSpec.ofChange walStillSpec)

/-- ITS FALSE NEIGHBOUR: 'it returns false'. Refute it at one input. -/
def walStillWrong : ChangeSpec := { name := "walStill", fn := fun _ => fun
  | [d1, d2] => { results := [.lit (.bool false)], args := [d1, d2] }
  | _ => none }
def WalStillWrongFalsely : Prop := walStillRow.holds Try.pinned (OpenSpec.ofChange walStillWrong)

/- THE SECOND FORM. 'bulk': how many values and letters a reading holds, each counted each time it is reached (what is shared counts as often as it is met; a slice's spare places count too). A statement '..UptoSaid' is the law's where the arguments, and the package variables that the reading takes, are together of bulk at most 1048576: NARROWER than '..Said'. Prove '..Said' where nothing that the law and all that it calls make is longer than what came in: it says more and counts as full. Else prove '..UptoSaid'. A law counts once. -/
mutual
def uptoBulk {H : Type} : DataW H → Nat
  | .lit (.string bytes) => bytes.length + 1
  | .lit _ => 1
  | .nil => 1
  | .ptr d => uptoBulk d + 1
  | .slice elems spare => uptoBulkAll elems + uptoBulkAll spare + 1
  | .agg parts => uptoBulkAll parts + 1
  | .iface _ d => uptoBulk d + 1
  | .map entries => uptoBulkEntries entries + 1
  | .held _ => 1
def uptoBulkAll {H : Type} : List (DataW H) → Nat
  | [] => 0
  | d :: r => uptoBulk d + uptoBulkAll r
def uptoBulkEntries {H : Type} : List (Lit × DataW H) → Nat
  | [] => 0
  | x :: r => uptoBulkEntry x + uptoBulkEntries r
def uptoBulkEntry {H : Type} : Lit × DataW H → Nat
  | (.string bytes, d) => bytes.length + uptoBulk d + 1
  | (_, d) => uptoBulk d + 1
 end
def uptoSmall : (H : Type) → List (DataW H) → Bool := fun _ ds => decide (uptoBulkAll ds ≤ 1048576)
def OpenSpec.upto (s : _root_.Go.ChangeSpec) : _root_.Go.OpenSpec := { _root_.Go.OpenSpec.ofChange s with cond := some uptoSmall }

/-- 'safehouselaw04.WalFills', WHERE WHAT IT READS IS OF BULK AT MOST 1048576: true; the input reads as it did. -/
def walFillsUptoRow : OpenClaim := { program := "ythffheckghdelaa", sum := "0e8cd5b752dedf948aa71831e51eca1caa275af96e170b20c157ddbddabdae9a", func := "safehouse/safehouselaw04.WalFills", spec := "walFills", unfollowed := true, recurses := true, apart := false, narrowed := true }
def WalFillsUptoSaid : Prop := walFillsUptoRow.holds Try.pinned (OpenSpec.upto walFillsSpec)

/-- 'safehouselaw04.WalRoom', WHERE WHAT IT READS IS OF BULK AT MOST 1048576: true; the input reads as it did. -/
def walRoomUptoRow : OpenClaim := { program := "ythffheckghdelaa", sum := "0e8cd5b752dedf948aa71831e51eca1caa275af96e170b20c157ddbddabdae9a", func := "safehouse/safehouselaw04.WalRoom", spec := "walRoom", unfollowed := true, recurses := true, apart := false, narrowed := true }
def WalRoomUptoSaid : Prop := walRoomUptoRow.holds Try.pinned (OpenSpec.upto walRoomSpec)

/-- 'safehouselaw04.WalAbsent', WHERE WHAT IT READS IS OF BULK AT MOST 1048576: true; the input reads as it did. -/
def walAbsentUptoRow : OpenClaim := { program := "ythffheckghdelaa", sum := "0e8cd5b752dedf948aa71831e51eca1caa275af96e170b20c157ddbddabdae9a", func := "safehouse/safehouselaw04.WalAbsent", spec := "walAbsent", unfollowed := true, recurses := true, apart := false, narrowed := true }
def WalAbsentUptoSaid : Prop := walAbsentUptoRow.holds Try.pinned (OpenSpec.upto walAbsentSpec)

/-- 'safehouselaw04.WalPicture', WHERE WHAT IT READS IS OF BULK AT MOST 1048576: true; the input reads as it did. -/
def walPictureUptoRow : OpenClaim := { program := "ythffheckghdelaa", sum := "0e8cd5b752dedf948aa71831e51eca1caa275af96e170b20c157ddbddabdae9a", func := "safehouse/safehouselaw04.WalPicture", spec := "walPicture", unfollowed := true, recurses := true, apart := false, narrowed := true }
def WalPictureUptoSaid : Prop := walPictureUptoRow.holds Try.pinned (OpenSpec.upto walPictureSpec)

/-- 'safehouselaw04.WalLasts', WHERE WHAT IT READS IS OF BULK AT MOST 1048576: true; the input reads as it did. -/
def walLastsUptoRow : OpenClaim := { program := "ythffheckghdelaa", sum := "0e8cd5b752dedf948aa71831e51eca1caa275af96e170b20c157ddbddabdae9a", func := "safehouse/safehouselaw04.WalLasts", spec := "walLasts", unfollowed := true, recurses := true, apart := false, narrowed := true }
def WalLastsUptoSaid : Prop := walLastsUptoRow.holds Try.pinned (OpenSpec.upto walLastsSpec)

/-- 'safehouselaw04.WalStill', WHERE WHAT IT READS IS OF BULK AT MOST 1048576: true; the input reads as it did. -/
def walStillUptoRow : OpenClaim := { program := "ythffheckghdelaa", sum := "0e8cd5b752dedf948aa71831e51eca1caa275af96e170b20c157ddbddabdae9a", func := "safehouse/safehouselaw04.WalStill", spec := "walStill", unfollowed := true, recurses := true, apart := false, narrowed := true }
def WalStillUptoSaid : Prop := walStillUptoRow.holds Try.pinned (OpenSpec.upto walStillSpec)

end Rows
end Go.Proofs.Ythffheckghdelaa
