/-
  NARROWER THAN 'FOR EVERY INPUT', by the rows' own cells (each row's printed sentence says how): AttackForged: loops · AttackCans: loops.
  DERIVED. THE GIVEN ROWS OF THIS SEAT. 4 by the template 'for every input the law returns true; each argument reads behind the call as it read before'; 0 by the template 'total and deterministic' (their statements: YtgielmldblopeaaTotals.lean).
  GIVEN WITH THE SEED: the statements are not yours to turn. If you find one false, say at which input.
  Laid BY PROGRAM, IN A SANDBOX (cutbox-rows.mjs): the forced cells as the released guide's own fill.sh prints them over the translation 12d67e1575183acf… (all of the seat's roots in one cut). By AI agents, Wed Nov 11 2026. No macro, syntax, notation, axiom, sorry.
-/
import Derived.Test.YtgielmldblopeaaChecked
import GoSem.Claim
import GoSem.ClaimJoined
import GoSem.ClaimMapViews
import Derived.JoinedTies
import Derived.KernelRfl
namespace Go.Proofs.Ytgielmldblopeaa
/- THE CELL 'sum', in the pinned program and in every row, IS THE sha256 OF THE DUMP (.gsa) THAT YtgielmldblopeaaProg.lean LOADS. Nothing in Lean hashes anything: it is a label: what it is worth is what the hold of that sum in a sandbox is worth. -/
noncomputable def Try.pinned : Pinned := { name := "ytgielmldblopeaa", sum := "12d67e1575183acfc741a2eaf60ebf242a21bd668a63b24502f2ea855906fa2f", checked := Try.checked }
namespace Rows
def none {H : Type} : Left H := { results := [], args := [] }

/-- 'safehouselaw22.AttackForged': WHATEVER THE INPUT: true; the input reads as it did. -/
def attackForgedSpec : ChangeSpec := { name := "attackForged", fn := fun _ => fun
  | [d1, d2, d3] => { results := [.lit (.bool true)], args := [d1, d2, d3] }
  | _ => none }
def attackForgedRow : OpenClaim := { program := "ytgielmldblopeaa", sum := "12d67e1575183acfc741a2eaf60ebf242a21bd668a63b24502f2ea855906fa2f", func := "safehouse/safehouselaw22.AttackForged", spec := "attackForged", inPlace := ["slices.overlaps[int]"], unfollowed := true, recurses := true, loops := true, apart := false }
def AttackForgedSaid : Prop := attackForgedRow.holds Try.pinned (OpenSpec.ofChange attackForgedSpec)

/-- ITS FALSE NEIGHBOUR: 'it returns false'. Refute it at one input. -/
def attackForgedWrong : ChangeSpec := { name := "attackForged", fn := fun _ => fun
  | [d1, d2, d3] => { results := [.lit (.bool false)], args := [d1, d2, d3] }
  | _ => none }
def AttackForgedWrongFalsely : Prop := attackForgedRow.holds Try.pinned (OpenSpec.ofChange attackForgedWrong)

/-- 'safehouselaw22.AttackCans': WHATEVER THE INPUT: true; the input reads as it did. -/
def attackCansSpec : ChangeSpec := { name := "attackCans", fn := fun _ => fun
  | [d1, d2] => { results := [.lit (.bool true)], args := [d1, d2] }
  | _ => none }
def attackCansRow : OpenClaim := { program := "ytgielmldblopeaa", sum := "12d67e1575183acfc741a2eaf60ebf242a21bd668a63b24502f2ea855906fa2f", func := "safehouse/safehouselaw22.AttackCans", spec := "attackCans", inPlace := ["slices.overlaps[int]"], unfollowed := true, recurses := true, loops := true, apart := false }
def AttackCansSaid : Prop := attackCansRow.holds Try.pinned (OpenSpec.ofChange attackCansSpec)

/-- ITS FALSE NEIGHBOUR: 'it returns false'. Refute it at one input. -/
def attackCansWrong : ChangeSpec := { name := "attackCans", fn := fun _ => fun
  | [d1, d2] => { results := [.lit (.bool false)], args := [d1, d2] }
  | _ => none }
def AttackCansWrongFalsely : Prop := attackCansRow.holds Try.pinned (OpenSpec.ofChange attackCansWrong)

/-- 'safehouselaw13.CapReads': WHATEVER THE INPUT: true; the input reads as it did. -/
def capReadsSpec : ChangeSpec := { name := "capReads", fn := fun _ => fun
  | [d1, d2, d3] => { results := [.lit (.bool true)], args := [d1, d2, d3] }
  | _ => none }
def capReadsRow : OpenClaim := { program := "ytgielmldblopeaa", sum := "12d67e1575183acfc741a2eaf60ebf242a21bd668a63b24502f2ea855906fa2f", func := "safehouse/safehouselaw13.CapReads", spec := "capReads", unfollowed := true, recurses := true, apart := false }
def CapReadsSaid : Prop := capReadsRow.holds Try.pinned (OpenSpec.ofChange capReadsSpec)

/-- ITS FALSE NEIGHBOUR: 'it returns false'. Refute it at one input. -/
def capReadsWrong : ChangeSpec := { name := "capReads", fn := fun _ => fun
  | [d1, d2, d3] => { results := [.lit (.bool false)], args := [d1, d2, d3] }
  | _ => none }
def CapReadsWrongFalsely : Prop := capReadsRow.holds Try.pinned (OpenSpec.ofChange capReadsWrong)

/-- 'safehouselaw13.CapSecrets': WHATEVER THE INPUT: true; the input reads as it did. -/
def capSecretsSpec : ChangeSpec := { name := "capSecrets", fn := fun _ => fun
  | [d1, d2, d3] => { results := [.lit (.bool true)], args := [d1, d2, d3] }
  | _ => none }
def capSecretsRow : OpenClaim := { program := "ytgielmldblopeaa", sum := "12d67e1575183acfc741a2eaf60ebf242a21bd668a63b24502f2ea855906fa2f", func := "safehouse/safehouselaw13.CapSecrets", spec := "capSecrets", unfollowed := true, recurses := true, apart := false }
def CapSecretsSaid : Prop := capSecretsRow.holds Try.pinned (OpenSpec.ofChange capSecretsSpec)

/-- ITS FALSE NEIGHBOUR: 'it returns false'. Refute it at one input. -/
def capSecretsWrong : ChangeSpec := { name := "capSecrets", fn := fun _ => fun
  | [d1, d2, d3] => { results := [.lit (.bool false)], args := [d1, d2, d3] }
  | _ => none }
def CapSecretsWrongFalsely : Prop := capSecretsRow.holds Try.pinned (OpenSpec.ofChange capSecretsWrong)

/- THE SECOND FORM. 'bulk': how many values and letters a reading holds, each counted each time it is reached (what is shared counts as often as it is met; a slice's spare places count too). A statement '..UptoSaid' is the law's where the arguments, and the package variables that the reading takes, are together of bulk at most 1048576: NARROWER than '..Said'. Prove '..Said' where nothing that the law and all that it calls make is longer than what came in: it says more and counts as full. Else prove '..UptoSaid'. A law counts once. -/
mutual
def uptoBulk {H : Type} : DataW H → Nat
  | .lit (.string bytes) => bytes.length + 1
  | .lit _ => 1
  | .nil => 1
  | .ptr d => uptoBulk d + 1
  | .slice elems spare => uptoBulkAll elems + uptoBulkAll spare + 1
  | .agg parts => uptoBulkAll parts + 1
  | .iface _ d => uptoBulk d + 1
  | .map entries => uptoBulkEntries entries + 1
  | .held _ => 1
def uptoBulkAll {H : Type} : List (DataW H) → Nat
  | [] => 0
  | d :: r => uptoBulk d + uptoBulkAll r
def uptoBulkEntries {H : Type} : List (Lit × DataW H) → Nat
  | [] => 0
  | x :: r => uptoBulkEntry x + uptoBulkEntries r
def uptoBulkEntry {H : Type} : Lit × DataW H → Nat
  | (.string bytes, d) => bytes.length + uptoBulk d + 1
  | (_, d) => uptoBulk d + 1
 end
def uptoSmall : (H : Type) → List (DataW H) → Bool := fun _ ds => decide (uptoBulkAll ds ≤ 1048576)
def OpenSpec.upto (s : _root_.Go.ChangeSpec) : _root_.Go.OpenSpec := { _root_.Go.OpenSpec.ofChange s with cond := some uptoSmall }

/-- 'safehouselaw22.AttackForged', WHERE WHAT IT READS IS OF BULK AT MOST 1048576: true; the input reads as it did. -/
def attackForgedUptoRow : OpenClaim := { program := "ytgielmldblopeaa", sum := "12d67e1575183acfc741a2eaf60ebf242a21bd668a63b24502f2ea855906fa2f", func := "safehouse/safehouselaw22.AttackForged", spec := "attackForged", inPlace := ["slices.overlaps[int]"], unfollowed := true, recurses := true, loops := true, apart := false, narrowed := true }
def AttackForgedUptoSaid : Prop := attackForgedUptoRow.holds Try.pinned (OpenSpec.upto attackForgedSpec)

/-- 'safehouselaw22.AttackCans', WHERE WHAT IT READS IS OF BULK AT MOST 1048576: true; the input reads as it did. -/
def attackCansUptoRow : OpenClaim := { program := "ytgielmldblopeaa", sum := "12d67e1575183acfc741a2eaf60ebf242a21bd668a63b24502f2ea855906fa2f", func := "safehouse/safehouselaw22.AttackCans", spec := "attackCans", inPlace := ["slices.overlaps[int]"], unfollowed := true, recurses := true, loops := true, apart := false, narrowed := true }
def AttackCansUptoSaid : Prop := attackCansUptoRow.holds Try.pinned (OpenSpec.upto attackCansSpec)

/-- 'safehouselaw13.CapReads', WHERE WHAT IT READS IS OF BULK AT MOST 1048576: true; the input reads as it did. -/
def capReadsUptoRow : OpenClaim := { program := "ytgielmldblopeaa", sum := "12d67e1575183acfc741a2eaf60ebf242a21bd668a63b24502f2ea855906fa2f", func := "safehouse/safehouselaw13.CapReads", spec := "capReads", unfollowed := true, recurses := true, apart := false, narrowed := true }
def CapReadsUptoSaid : Prop := capReadsUptoRow.holds Try.pinned (OpenSpec.upto capReadsSpec)

/-- 'safehouselaw13.CapSecrets', WHERE WHAT IT READS IS OF BULK AT MOST 1048576: true; the input reads as it did. -/
def capSecretsUptoRow : OpenClaim := { program := "ytgielmldblopeaa", sum := "12d67e1575183acfc741a2eaf60ebf242a21bd668a63b24502f2ea855906fa2f", func := "safehouse/safehouselaw13.CapSecrets", spec := "capSecrets", unfollowed := true, recurses := true, apart := false, narrowed := true }
def CapSecretsUptoSaid : Prop := capSecretsUptoRow.holds Try.pinned (OpenSpec.upto capSecretsSpec)

end Rows
end Go.Proofs.Ytgielmldblopeaa
