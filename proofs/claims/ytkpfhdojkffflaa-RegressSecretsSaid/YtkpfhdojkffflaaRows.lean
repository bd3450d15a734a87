/-
  NARROWER THAN 'FOR EVERY INPUT', by the rows' own cells (each row's printed sentence says how): RegressStates: loops · RegressKeys: loops · RegressBack: loops.
  DERIVED. THE GIVEN ROWS OF THIS SEAT. 4 by the template 'for every input the law returns true; each argument reads behind the call as it read before'; 0 by the template 'total and deterministic' (their statements: YtkpfhdojkffflaaTotals.lean).
  GIVEN WITH THE SEED: the statements are not yours to turn. If you find one false, say at which input.
  Laid BY PROGRAM, IN A SANDBOX (cutbox-rows.mjs): the forced cells as the released guide's own fill.sh prints them over the translation e2a11ef0af904429… (all of the seat's roots in one cut). By AI agents, Wed Nov 11 2026. No macro, syntax, notation, axiom, sorry.
-/
import Derived.Test.YtkpfhdojkffflaaChecked
import GoSem.Claim
import GoSem.ClaimJoined
import GoSem.ClaimMapViews
import Derived.JoinedTies
import Derived.KernelRfl
namespace Go.Proofs.Ytkpfhdojkffflaa
/- THE CELL 'sum', in the pinned program and in every row, IS THE sha256 OF THE DUMP (.gsa) THAT YtkpfhdojkffflaaProg.lean LOADS. Nothing in Lean hashes anything: it is a label: what it is worth is what the hold of that sum in a sandbox is worth. -/
noncomputable def Try.pinned : Pinned := { name := "ytkpfhdojkffflaa", sum := "e2a11ef0af904429513d68c0d33ee3505aa1844d3e361418ad0b68a0d6a82bd4", checked := Try.checked }
namespace Rows
def none {H : Type} : Left H := { results := [], args := [] }

/-- 'safehouselaw09.RegressStates': WHATEVER THE INPUT: true; the input reads as it did. -/
def regressStatesSpec : ChangeSpec := { name := "regressStates", fn := fun _ => fun
  | [d1, d2, d3] => { results := [.lit (.bool true)], args := [d1, d2, d3] }
  | _ => none }
def regressStatesRow : OpenClaim := { program := "ytkpfhdojkffflaa", sum := "e2a11ef0af904429513d68c0d33ee3505aa1844d3e361418ad0b68a0d6a82bd4", func := "safehouse/safehouselaw09.RegressStates", spec := "regressStates", unfollowed := true, recurses := true, loops := true, apart := false }
def RegressStatesSaid : Prop := regressStatesRow.holds Try.pinned (OpenSpec.ofChange regressStatesSpec)

/-- ITS FALSE NEIGHBOUR: 'it returns false'. Refute it at one input. -/
def regressStatesWrong : ChangeSpec := { name := "regressStates", fn := fun _ => fun
  | [d1, d2, d3] => { results := [.lit (.bool false)], args := [d1, d2, d3] }
  | _ => none }
def RegressStatesWrongFalsely : Prop := regressStatesRow.holds Try.pinned (OpenSpec.ofChange regressStatesWrong)

/-- 'safehouselaw09.RegressKeys': WHATEVER THE INPUT: true; the input reads as it did. -/
def regressKeysSpec : ChangeSpec := { name := "regressKeys", fn := fun _ => fun
  | [d] => { results := [.lit (.bool true)], args := [d] }
  | _ => none }
def regressKeysRow : OpenClaim := { program := "ytkpfhdojkffflaa", sum := "e2a11ef0af904429513d68c0d33ee3505aa1844d3e361418ad0b68a0d6a82bd4", func := "safehouse/safehouselaw09.RegressKeys", spec := "regressKeys", unfollowed := true, recurses := true, loops := true, apart := false }
def RegressKeysSaid : Prop := regressKeysRow.holds Try.pinned (OpenSpec.ofChange regressKeysSpec)

/-- ITS FALSE NEIGHBOUR: 'it returns false'. Refute it at one input. -/
def regressKeysWrong : ChangeSpec := { name := "regressKeys", fn := fun _ => fun
  | [d] => { results := [.lit (.bool false)], args := [d] }
  | _ => none }
def RegressKeysWrongFalsely : Prop := regressKeysRow.holds Try.pinned (OpenSpec.ofChange regressKeysWrong)

/-- 'safehouselaw09.RegressBack': WHATEVER THE INPUT: true; the input reads as it did. -/
def regressBackSpec : ChangeSpec := { name := "regressBack", fn := fun _ => fun
  | [d1, d2, d3] => { results := [.lit (.bool true)], args := [d1, d2, d3] }
  | _ => none }
def regressBackRow : OpenClaim := { program := "ytkpfhdojkffflaa", sum := "e2a11ef0af904429513d68c0d33ee3505aa1844d3e361418ad0b68a0d6a82bd4", func := "safehouse/safehouselaw09.RegressBack", spec := "regressBack", unfollowed := true, recurses := true, loops := true, apart := false }
def RegressBackSaid : Prop := regressBackRow.holds Try.pinned (OpenSpec.ofChange regressBackSpec)

/-- ITS FALSE NEIGHBOUR: 'it returns false'. Refute it at one input. -/
def regressBackWrong : ChangeSpec := { name := "regressBack", fn := fun _ => fun
  | [d1, d2, d3] => { results := [.lit (.bool false)], args := [d1, d2, d3] }
  | _ => none }
def RegressBackWrongFalsely : Prop := regressBackRow.holds Try.pinned (OpenSpec.ofChange regressBackWrong)

/-- 'safehouselaw09.RegressSecrets': WHATEVER THE INPUT: true; the input reads as it did. -/
def regressSecretsSpec : ChangeSpec := { name := "regressSecrets", fn := fun _ => fun
  | [d1, d2, d3] => { results := [.lit (.bool true)], args := [d1, d2, d3] }
  | _ => none }
def regressSecretsRow : OpenClaim := { program := "ytkpfhdojkffflaa", sum := "e2a11ef0af904429513d68c0d33ee3505aa1844d3e361418ad0b68a0d6a82bd4", func := "safehouse/safehouselaw09.RegressSecrets", spec := "regressSecrets", unfollowed := true, recurses := true, apart := false }
def RegressSecretsSaid : Prop := regressSecretsRow.holds Try.pinned (OpenSpec.ofChange regressSecretsSpec)

/-- ITS FALSE NEIGHBOUR: 'it returns false'. Refute it at one input. -/
def regressSecretsWrong : ChangeSpec := { name := "regressSecrets", fn := fun _ => fun
  | [d1, d2, d3] => { results := [.lit (.bool false)], args := [d1, d2, d3] }
  | _ => none }
def RegressSecretsWrongFalsely : Prop := regressSecretsRow.holds Try.pinned (OpenSpec.ofChange regressSecretsWrong)

/- THE SECOND FORM. 'bulk': how many values and letters a reading holds, each counted each time it is reached (what is shared counts as often as it is met; a slice's spare places count too). A statement '..UptoSaid' is the law's where the arguments, and the package variables that the reading takes, are together of bulk at most 1048576: NARROWER than '..Said'. Prove '..Said' where nothing that the law and all that it calls make is longer than what came in: it says more and counts as full. Else prove '..UptoSaid'. A law counts once. -/
mutual
def uptoBulk {H : Type} : DataW H → Nat
  | .lit (.string bytes) => bytes.length + 1
  | .lit _ => 1
  | .nil => 1
  | .ptr d => uptoBulk d + 1
  | .slice elems spare => uptoBulkAll elems + uptoBulkAll spare + 1
  | .agg parts => uptoBulkAll parts + 1
  | .iface _ d => uptoBulk d + 1
  | .map entries => uptoBulkEntries entries + 1
  | .held _ => 1
def uptoBulkAll {H : Type} : List (DataW H) → Nat
  | [] => 0
  | d :: r => uptoBulk d + uptoBulkAll r
def uptoBulkEntries {H : Type} : List (Lit × DataW H) → Nat
  | [] => 0
  | x :: r => uptoBulkEntry x + uptoBulkEntries r
def uptoBulkEntry {H : Type} : Lit × DataW H → Nat
  | (.string bytes, d) => bytes.length + uptoBulk d + 1
  | (_, d) => uptoBulk d + 1
 end
def uptoSmall : (H : Type) → List (DataW H) → Bool := fun _ ds => decide (uptoBulkAll ds ≤ 1048576)
def OpenSpec.upto (s : _root_.Go.ChangeSpec) : _root_.Go.OpenSpec := { _root_.Go.OpenSpec.ofChange s with cond := some uptoSmall }

/-- 'safehouselaw09.RegressStates', WHERE WHAT IT READS IS OF BULK AT MOST 1048576: true; the input reads as it did. -/
def regressStatesUptoRow : OpenClaim := { program := "ytkpfhdojkffflaa", sum := "e2a11ef0af904429513d68c0d33ee3505aa1844d3e361418ad0b68a0d6a82bd4", func := "safehouse/safehouselaw09.RegressStates", spec := "regressStates", unfollowed := true, recurses := true, loops := true, apart := false, narrowed := true }
def RegressStatesUptoSaid : Prop := regressStatesUptoRow.holds Try.pinned (OpenSpec.upto regressStatesSpec)

/-- 'safehouselaw09.RegressKeys', WHERE WHAT IT READS IS OF BULK AT MOST 1048576: true; the input reads as it did. -/
def regressKeysUptoRow : OpenClaim := { program := "ytkpfhdojkffflaa", sum := "e2a11ef0af904429513d68c0d33ee3505aa1844d3e361418ad0b68a0d6a82bd4", func := "safehouse/safehouselaw09.RegressKeys", spec := "regressKeys", unfollowed := true, recurses := true, loops := true, apart := false, narrowed := true }
def RegressKeysUptoSaid : Prop := regressKeysUptoRow.holds Try.pinned (OpenSpec.upto regressKeysSpec)

/-- 'safehouselaw09.RegressBack', WHERE WHAT IT READS IS OF BULK AT MOST 1048576: true; the input reads as it did. -/
def regressBackUptoRow : OpenClaim := { program := "ytkpfhdojkffflaa", sum := "e2a11ef0af904429513d68c0d33ee3505aa1844d3e361418ad0b68a0d6a82bd4", func := "safehouse/safehouselaw09.RegressBack", spec := "regressBack", unfollowed := true, recurses := true, loops := true, apart := false, narrowed := true }
def RegressBackUptoSaid : Prop := regressBackUptoRow.holds Try.pinned (OpenSpec.upto regressBackSpec)

/-- 'safehouselaw09.RegressSecrets', WHERE WHAT IT READS IS OF BULK AT MOST 1048576: true; the input reads as it did. -/
def regressSecretsUptoRow : OpenClaim := { program := "ytkpfhdojkffflaa", sum := "e2a11ef0af904429513d68c0d33ee3505aa1844d3e361418ad0b68a0d6a82bd4", func := "safehouse/safehouselaw09.RegressSecrets", spec := "regressSecrets", unfollowed := true, recurses := true, apart := false, narrowed := true }
def RegressSecretsUptoSaid : Prop := regressSecretsUptoRow.holds Try.pinned (OpenSpec.upto regressSecretsSpec)

end Rows
end Go.Proofs.Ytkpfhdojkffflaa
