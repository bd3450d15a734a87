/-
  No cell of these rows narrows 'for every input' (looked for: loops, veiled, ifaces, maps, wideKeys, modest, calm, conditions, laid).
  DERIVED. THE GIVEN ROWS OF THIS SEAT. 3 by the template 'for every input the law returns true; each argument reads behind the call as it read before'; 0 by the template 'total and deterministic' (their statements: YtlphkccfcodmcaaGreatTotals.lean).
  GIVEN WITH THE SEED: the statements are not yours to turn. If you find one false, say at which input.
  Laid BY PROGRAM, IN A SANDBOX (cutbox-rows.mjs): the forced cells as the released guide's own fill.sh prints them over the translation 1b90158fb53028ca… (all of the seat's roots in one cut). By AI agents, Wed Nov 11 2026. No macro, syntax, notation, axiom, sorry.
-/
import Derived.Test.YtlphkccfcodmcaaGreatChecked
import GoSem.Claim
import GoSem.ClaimJoined
import GoSem.ClaimMapViews
import Derived.JoinedTies
import Derived.KernelRfl
namespace Go.Proofs.YtlphkccfcodmcaaGreat
/- THE CELL 'sum', in the pinned program and in every row, IS THE sha256 OF THE DUMP (.gsa) THAT YtlphkccfcodmcaaGreatProg.lean LOADS. Nothing in Lean hashes anything: it is a label: what it is worth is what the hold of that sum in a sandbox is worth. -/
noncomputable def Tryz.pinned : Pinned := { name := "ytlphkccfcodmcaagreat", sum := "1b90158fb53028ca972ec4ae71c82a66515653a62530d7c967bc5ddcd99a931d", checked := Tryz.checked }
namespace Rows
def none {H : Type} : Left H := { results := [], args := [] }

/-- 'safehouselaw10.SignerOnce': WHATEVER THE INPUT: true; the input reads as it did. -/
def signerOnceSpec : ChangeSpec := { name := "signerOnce", fn := fun _ => fun
  | [d1, d2, d3] => { results := [.lit (.bool true)], args := [d1, d2, d3] }
  | _ => none }
def signerOnceRow : OpenClaim := { program := "ytlphkccfcodmcaagreat", sum := "1b90158fb53028ca972ec4ae71c82a66515653a62530d7c967bc5ddcd99a931d", func := "safehouse/safehouselaw10.SignerOnce", spec := "signerOnce", unfollowed := true, recurses := true, apart := false }
def SignerOnceSaid : Prop := signerOnceRow.holds Tryz.pinned (OpenSpec.ofChange signerOnceSpec)

/-- ITS FALSE NEIGHBOUR: 'it returns false'. Refute it at one input. -/
def signerOnceWrong : ChangeSpec := { name := "signerOnce", fn := fun _ => fun
  | [d1, d2, d3] => { results := [.lit (.bool false)], args := [d1, d2, d3] }
  | _ => none }
def SignerOnceWrongFalsely : Prop := signerOnceRow.holds Tryz.pinned (OpenSpec.ofChange signerOnceWrong)

/-- 'safehouselaw10.SignerDoes': WHATEVER THE INPUT: true; the input reads as it did. -/
def signerDoesSpec : ChangeSpec := { name := "signerDoes", fn := fun _ => fun
  | [d1, d2, d3] => { results := [.lit (.bool true)], args := [d1, d2, d3] }
  | _ => none }
def signerDoesRow : OpenClaim := { program := "ytlphkccfcodmcaagreat", sum := "1b90158fb53028ca972ec4ae71c82a66515653a62530d7c967bc5ddcd99a931d", func := "safehouse/safehouselaw10.SignerDoes", spec := "signerDoes", unfollowed := true, recurses := true, apart := false }
def SignerDoesSaid : Prop := signerDoesRow.holds Tryz.pinned (OpenSpec.ofChange signerDoesSpec)

/-- ITS FALSE NEIGHBOUR: 'it returns false'. Refute it at one input. -/
def signerDoesWrong : ChangeSpec := { name := "signerDoes", fn := fun _ => fun
  | [d1, d2, d3] => { results := [.lit (.bool false)], args := [d1, d2, d3] }
  | _ => none }
def SignerDoesWrongFalsely : Prop := signerDoesRow.holds Tryz.pinned (OpenSpec.ofChange signerDoesWrong)

/-- 'safehouselaw10.SignerOpens': WHATEVER THE INPUT: true; the input reads as it did. -/
def signerOpensSpec : ChangeSpec := { name := "signerOpens", fn := fun _ => fun
  | [d1, d2, d3] => { results := [.lit (.bool true)], args := [d1, d2, d3] }
  | _ => none }
def signerOpensRow : OpenClaim := { program := "ytlphkccfcodmcaagreat", sum := "1b90158fb53028ca972ec4ae71c82a66515653a62530d7c967bc5ddcd99a931d", func := "safehouse/safehouselaw10.SignerOpens", spec := "signerOpens", unfollowed := true, recurses := true, apart := false }
def SignerOpensSaid : Prop := signerOpensRow.holds Tryz.pinned (OpenSpec.ofChange signerOpensSpec)

/-- ITS FALSE NEIGHBOUR: 'it returns false'. Refute it at one input. -/
def signerOpensWrong : ChangeSpec := { name := "signerOpens", fn := fun _ => fun
  | [d1, d2, d3] => { results := [.lit (.bool false)], args := [d1, d2, d3] }
  | _ => none }
def SignerOpensWrongFalsely : Prop := signerOpensRow.holds Tryz.pinned (OpenSpec.ofChange signerOpensWrong)

/- THE SECOND FORM. 'bulk': how many values and letters a reading holds, each counted each time it is reached (what is shared counts as often as it is met; a slice's spare places count too). A statement '..UptoSaid' is the law's where the arguments, and the package variables that the reading takes, are together of bulk at most 1048576: NARROWER than '..Said'. Prove '..Said' where nothing that the law and all that it calls make is longer than what came in: it says more and counts as full. Else prove '..UptoSaid'. A law counts once. -/
mutual
def uptoBulk {H : Type} : DataW H → Nat
  | .lit (.string bytes) => bytes.length + 1
  | .lit _ => 1
  | .nil => 1
  | .ptr d => uptoBulk d + 1
  | .slice elems spare => uptoBulkAll elems + uptoBulkAll spare + 1
  | .agg parts => uptoBulkAll parts + 1
  | .iface _ d => uptoBulk d + 1
  | .map entries => uptoBulkEntries entries + 1
  | .held _ => 1
def uptoBulkAll {H : Type} : List (DataW H) → Nat
  | [] => 0
  | d :: r => uptoBulk d + uptoBulkAll r
def uptoBulkEntries {H : Type} : List (Lit × DataW H) → Nat
  | [] => 0
  | x :: r => uptoBulkEntry x + uptoBulkEntries r
def uptoBulkEntry {H : Type} : Lit × DataW H → Nat
  | (.string bytes, d) => bytes.length + uptoBulk d + 1
  | (_, d) => uptoBulk d + 1
 end
def uptoSmall : (H : Type) → List (DataW H) → Bool := fun _ ds => decide (uptoBulkAll ds ≤ 1048576)
def OpenSpec.upto (s : _root_.Go.ChangeSpec) : _root_.Go.OpenSpec := { _root_.Go.OpenSpec.ofChange s with cond := some uptoSmall }

/-- 'safehouselaw10.SignerOnce', WHERE WHAT IT READS IS OF BULK AT MOST 1048576: true; the input reads as it did. -/
def signerOnceUptoRow : OpenClaim := { program := "ytlphkccfcodmcaagreat", sum := "1b90158fb53028ca972ec4ae71c82a66515653a62530d7c967bc5ddcd99a931d", func := "safehouse/safehouselaw10.SignerOnce", spec := "signerOnce", unfollowed := true, recurses := true, apart := false, narrowed := true }
def SignerOnceUptoSaid : Prop := signerOnceUptoRow.holds Tryz.pinned (OpenSpec.upto signerOnceSpec)

/-- 'safehouselaw10.SignerDoes', WHERE WHAT IT READS IS OF BULK AT MOST 1048576: true; the input reads as it did. -/
def signerDoesUptoRow : OpenClaim := { program := "ytlphkccfcodmcaagreat", sum := "1b90158fb53028ca972ec4ae71c82a66515653a62530d7c967bc5ddcd99a931d", func := "safehouse/safehouselaw10.SignerDoes", spec := "signerDoes", unfollowed := true, recurses := true, apart := false, narrowed := true }
def SignerDoesUptoSaid : Prop := signerDoesUptoRow.holds Tryz.pinned (OpenSpec.upto signerDoesSpec)

/-- 'safehouselaw10.SignerOpens', WHERE WHAT IT READS IS OF BULK AT MOST 1048576: true; the input reads as it did. -/
def signerOpensUptoRow : OpenClaim := { program := "ytlphkccfcodmcaagreat", sum := "1b90158fb53028ca972ec4ae71c82a66515653a62530d7c967bc5ddcd99a931d", func := "safehouse/safehouselaw10.SignerOpens", spec := "signerOpens", unfollowed := true, recurses := true, apart := false, narrowed := true }
def SignerOpensUptoSaid : Prop := signerOpensUptoRow.holds Tryz.pinned (OpenSpec.upto signerOpensSpec)

end Rows
end Go.Proofs.YtlphkccfcodmcaaGreat
