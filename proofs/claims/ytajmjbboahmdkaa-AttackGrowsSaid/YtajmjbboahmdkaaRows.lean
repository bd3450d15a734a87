/-
  NARROWER THAN 'FOR EVERY INPUT', by the rows' own cells (each row's printed sentence says how): AttackCans: loops · AttackGrows: loops · AttackSame: loops · AttackForged: loops · CloseMore: loops · CloseKeeps: loops · CloseAtoms: loops.
  DERIVED. THE GIVEN ROWS OF THIS SEAT. 8 by the template 'for every input the law returns true; each argument reads behind the call as it read before'; 0 by the template 'total and deterministic' (their statements: YtajmjbboahmdkaaTotals.lean).
  GIVEN WITH THE SEED: the statements are not yours to turn. If you find one false, say at which input.
  Laid BY PROGRAM, IN A SANDBOX (cutbox-rows.mjs): the forced cells as the released guide's own fill.sh prints them over the translation f5601091b04c5a3f… (all of the seat's roots in one cut). By AI agents, Wed Nov 11 2026. No macro, syntax, notation, axiom, sorry.
-/
import Derived.Test.YtajmjbboahmdkaaChecked
import GoSem.Claim
import GoSem.ClaimJoined
import GoSem.ClaimMapViews
import Derived.JoinedTies
import Derived.KernelRfl
namespace Go.Proofs.Ytajmjbboahmdkaa
/- THE CELL 'sum', in the pinned program and in every row, IS THE sha256 OF THE DUMP (.gsa) THAT YtajmjbboahmdkaaProg.lean LOADS. Nothing in Lean hashes anything: it is a label: what it is worth is what the hold of that sum in a sandbox is worth. -/
noncomputable def Try.pinned : Pinned := { name := "ytajmjbboahmdkaa", sum := "f5601091b04c5a3f55f24ac024eee82d92bc06466334b7dbbd5d3c050ed00128", checked := Try.checked }
namespace Rows
def none {H : Type} : Left H := { results := [], args := [] }

/-- 'safehouselaw22.AttackCans': WHATEVER THE INPUT: true; the input reads as it did. -/
def attackCansSpec : ChangeSpec := { name := "attackCans", fn := fun _ => fun
  | [d1, d2] => { results := [.lit (.bool true)], args := [d1, d2] }
  | _ => none }
def attackCansRow : OpenClaim := { program := "ytajmjbboahmdkaa", sum := "f5601091b04c5a3f55f24ac024eee82d92bc06466334b7dbbd5d3c050ed00128", func := "safehouse/safehouselaw22.AttackCans", spec := "attackCans", inPlace := ["slices.overlaps[int]"], unfollowed := true, recurses := true, loops := true, apart := false }
def AttackCansSaid : Prop := attackCansRow.holds Try.pinned (OpenSpec.ofChange attackCansSpec)

/-- ITS FALSE NEIGHBOUR: 'it returns false'. Refute it at one input. -/
def attackCansWrong : ChangeSpec := { name := "attackCans", fn := fun _ => fun
  | [d1, d2] => { results := [.lit (.bool false)], args := [d1, d2] }
  | _ => none }
def AttackCansWrongFalsely : Prop := attackCansRow.holds Try.pinned (OpenSpec.ofChange attackCansWrong)

/-- 'safehouselaw22.AttackGrows': WHATEVER THE INPUT: true; the input reads as it did. -/
def attackGrowsSpec : ChangeSpec := { name := "attackGrows", fn := fun _ => fun
  | [d1, d2, d3] => { results := [.lit (.bool true)], args := [d1, d2, d3] }
  | _ => none }
def attackGrowsRow : OpenClaim := { program := "ytajmjbboahmdkaa", sum := "f5601091b04c5a3f55f24ac024eee82d92bc06466334b7dbbd5d3c050ed00128", func := "safehouse/safehouselaw22.AttackGrows", spec := "attackGrows", inPlace := ["slices.overlaps[int]"], unfollowed := true, recurses := true, loops := true, apart := false }
def AttackGrowsSaid : Prop := attackGrowsRow.holds Try.pinned (OpenSpec.ofChange attackGrowsSpec)

/-- ITS FALSE NEIGHBOUR: 'it returns false'. Refute it at one input. -/
def attackGrowsWrong : ChangeSpec := { name := "attackGrows", fn := fun _ => fun
  | [d1, d2, d3] => { results := [.lit (.bool false)], args := [d1, d2, d3] }
  | _ => none }
def AttackGrowsWrongFalsely : Prop := attackGrowsRow.holds Try.pinned (OpenSpec.ofChange attackGrowsWrong)

/-- 'safehouselaw22.AttackSame': WHATEVER THE INPUT: true; the input reads as it did. -/
def attackSameSpec : ChangeSpec := { name := "attackSame", fn := fun _ => fun
  | [d1, d2] => { results := [.lit (.bool true)], args := [d1, d2] }
  | _ => none }
def attackSameRow : OpenClaim := { program := "ytajmjbboahmdkaa", sum := "f5601091b04c5a3f55f24ac024eee82d92bc06466334b7dbbd5d3c050ed00128", func := "safehouse/safehouselaw22.AttackSame", spec := "attackSame", inPlace := ["slices.overlaps[int]"], unfollowed := true, recurses := true, loops := true, apart := false }
def AttackSameSaid : Prop := attackSameRow.holds Try.pinned (OpenSpec.ofChange attackSameSpec)

/-- ITS FALSE NEIGHBOUR: 'it returns false'. Refute it at one input. -/
def attackSameWrong : ChangeSpec := { name := "attackSame", fn := fun _ => fun
  | [d1, d2] => { results := [.lit (.bool false)], args := [d1, d2] }
  | _ => none }
def AttackSameWrongFalsely : Prop := attackSameRow.holds Try.pinned (OpenSpec.ofChange attackSameWrong)

/-- 'safehouselaw22.AttackForged': WHATEVER THE INPUT: true; the input reads as it did. -/
def attackForgedSpec : ChangeSpec := { name := "attackForged", fn := fun _ => fun
  | [d1, d2, d3] => { results := [.lit (.bool true)], args := [d1, d2, d3] }
  | _ => none }
def attackForgedRow : OpenClaim := { program := "ytajmjbboahmdkaa", sum := "f5601091b04c5a3f55f24ac024eee82d92bc06466334b7dbbd5d3c050ed00128", func := "safehouse/safehouselaw22.AttackForged", spec := "attackForged", inPlace := ["slices.overlaps[int]"], unfollowed := true, recurses := true, loops := true, apart := false }
def AttackForgedSaid : Prop := attackForgedRow.holds Try.pinned (OpenSpec.ofChange attackForgedSpec)

/-- ITS FALSE NEIGHBOUR: 'it returns false'. Refute it at one input. -/
def attackForgedWrong : ChangeSpec := { name := "attackForged", fn := fun _ => fun
  | [d1, d2, d3] => { results := [.lit (.bool false)], args := [d1, d2, d3] }
  | _ => none }
def AttackForgedWrongFalsely : Prop := attackForgedRow.holds Try.pinned (OpenSpec.ofChange attackForgedWrong)

/-- 'safehouselaw07.CloseMore': WHATEVER THE INPUT: true; the input reads as it did. -/
def closeMoreSpec : ChangeSpec := { name := "closeMore", fn := fun _ => fun
  | [d1, d2, d3] => { results := [.lit (.bool true)], args := [d1, d2, d3] }
  | _ => none }
def closeMoreRow : OpenClaim := { program := "ytajmjbboahmdkaa", sum := "f5601091b04c5a3f55f24ac024eee82d92bc06466334b7dbbd5d3c050ed00128", func := "safehouse/safehouselaw07.CloseMore", spec := "closeMore", unfollowed := true, recurses := true, loops := true, apart := false }
def CloseMoreSaid : Prop := closeMoreRow.holds Try.pinned (OpenSpec.ofChange closeMoreSpec)

/-- ITS FALSE NEIGHBOUR: 'it returns false'. Refute it at one input. -/
def closeMoreWrong : ChangeSpec := { name := "closeMore", fn := fun _ => fun
  | [d1, d2, d3] => { results := [.lit (.bool false)], args := [d1, d2, d3] }
  | _ => none }
def CloseMoreWrongFalsely : Prop := closeMoreRow.holds Try.pinned (OpenSpec.ofChange closeMoreWrong)

/-- 'safehouselaw07.CloseKeeps': WHATEVER THE INPUT: true; the input reads as it did. -/
def closeKeepsSpec : ChangeSpec := { name := "closeKeeps", fn := fun _ => fun
  | [d1, d2, d3] => { results := [.lit (.bool true)], args := [d1, d2, d3] }
  | _ => none }
def closeKeepsRow : OpenClaim := { program := "ytajmjbboahmdkaa", sum := "f5601091b04c5a3f55f24ac024eee82d92bc06466334b7dbbd5d3c050ed00128", func := "safehouse/safehouselaw07.CloseKeeps", spec := "closeKeeps", unfollowed := true, recurses := true, loops := true, apart := false }
def CloseKeepsSaid : Prop := closeKeepsRow.holds Try.pinned (OpenSpec.ofChange closeKeepsSpec)

/-- ITS FALSE NEIGHBOUR: 'it returns false'. Refute it at one input. -/
def closeKeepsWrong : ChangeSpec := { name := "closeKeeps", fn := fun _ => fun
  | [d1, d2, d3] => { results := [.lit (.bool false)], args := [d1, d2, d3] }
  | _ => none }
def CloseKeepsWrongFalsely : Prop := closeKeepsRow.holds Try.pinned (OpenSpec.ofChange closeKeepsWrong)

/-- 'safehouselaw07.CloseAtoms': WHATEVER THE INPUT: true; the input reads as it did. -/
def closeAtomsSpec : ChangeSpec := { name := "closeAtoms", fn := fun _ => fun
  | [d1, d2, d3] => { results := [.lit (.bool true)], args := [d1, d2, d3] }
  | _ => none }
def closeAtomsRow : OpenClaim := { program := "ytajmjbboahmdkaa", sum := "f5601091b04c5a3f55f24ac024eee82d92bc06466334b7dbbd5d3c050ed00128", func := "safehouse/safehouselaw07.CloseAtoms", spec := "closeAtoms", unfollowed := true, recurses := true, loops := true, apart := false }
def CloseAtomsSaid : Prop := closeAtomsRow.holds Try.pinned (OpenSpec.ofChange closeAtomsSpec)

/-- ITS FALSE NEIGHBOUR: 'it returns false'. Refute it at one input. -/
def closeAtomsWrong : ChangeSpec := { name := "closeAtoms", fn := fun _ => fun
  | [d1, d2, d3] => { results := [.lit (.bool false)], args := [d1, d2, d3] }
  | _ => none }
def CloseAtomsWrongFalsely : Prop := closeAtomsRow.holds Try.pinned (OpenSpec.ofChange closeAtomsWrong)

/-- 'safehouselaw13.CapReads': WHATEVER THE INPUT: true; the input reads as it did. -/
def capReadsSpec : ChangeSpec := { name := "capReads", fn := fun _ => fun
  | [d1, d2, d3] => { results := [.lit (.bool true)], args := [d1, d2, d3] }
  | _ => none }
def capReadsRow : OpenClaim := { program := "ytajmjbboahmdkaa", sum := "f5601091b04c5a3f55f24ac024eee82d92bc06466334b7dbbd5d3c050ed00128", func := "safehouse/safehouselaw13.CapReads", spec := "capReads", unfollowed := true, recurses := true, apart := false }
def CapReadsSaid : Prop := capReadsRow.holds Try.pinned (OpenSpec.ofChange capReadsSpec)

/-- ITS FALSE NEIGHBOUR: 'it returns false'. Refute it at one input. -/
def capReadsWrong : ChangeSpec := { name := "capReads", fn := fun _ => fun
  | [d1, d2, d3] => { results := [.lit (.bool false)], args := [d1, d2, d3] }
  | _ => none }
def CapReadsWrongFalsely : Prop := capReadsRow.holds Try.pinned (OpenSpec.ofChange capReadsWrong)

/- THE SECOND FORM. 'bulk': how many values and letters a reading holds, each counted each time it is reached (what is shared counts as often as it is met; a slice's spare places count too). A statement '..UptoSaid' is the law's where the arguments, and the package variables that the reading takes, are together of bulk at most 1048576: NARROWER than '..Said'. Prove '..Said' where nothing that the law and all that it calls make is longer than what came in: it says more and counts as full. Else prove '..UptoSaid'. A law counts once. -/
mutual
def uptoBulk {H : Type} : DataW H → Nat
  | .lit (.string bytes) => bytes.length + 1
  | .lit _ => 1
  | .nil => 1
  | .ptr d => uptoBulk d + 1
  | .slice elems spare => uptoBulkAll elems + uptoBulkAll spare + 1
  | .agg parts => uptoBulkAll parts + 1
  | .iface _ d => uptoBulk d + 1
  | .map entries => uptoBulkEntries entries + 1
  | .held _ => 1
def uptoBulkAll {H : Type} : List (DataW H) → Nat
  | [] => 0
  | d :: r => uptoBulk d + uptoBulkAll r
def uptoBulkEntries {H : Type} : List (Lit × DataW H) → Nat
  | [] => 0
  | x :: r => uptoBulkEntry x + uptoBulkEntries r
def uptoBulkEntry {H : Type} : Lit × DataW H → Nat
  | (.string bytes, d) => bytes.length + uptoBulk d + 1
  | (_, d) => uptoBulk d + 1
 end
def uptoSmall : (H : Type) → List (DataW H) → Bool := fun _ ds => decide (uptoBulkAll ds ≤ 1048576)
def OpenSpec.upto (s : _root_.Go.ChangeSpec) : _root_.Go.OpenSpec := { _root_.Go.OpenSpec.ofChange s with cond := some uptoSmall }

/-- 'safehouselaw22.AttackCans', WHERE WHAT IT READS IS OF BULK AT MOST 1048576: true; the input reads as it did. -/
def attackCansUptoRow : OpenClaim := { program := "ytajmjbboahmdkaa", sum := "f5601091b04c5a3f55f24ac024eee82d92bc06466334b7dbbd5d3c050ed00128", func := "safehouse/safehouselaw22.AttackCans", spec := "attackCans", inPlace := ["slices.overlaps[int]"], unfollowed := true, recurses := true, loops := true, apart := false, narrowed := true }
def AttackCansUptoSaid : Prop := attackCansUptoRow.holds Try.pinned (OpenSpec.upto attackCansSpec)

/-- 'safehouselaw22.AttackGrows', WHERE WHAT IT READS IS OF BULK AT MOST 1048576: true; the input reads as it did. -/
def attackGrowsUptoRow : OpenClaim := { program := "ytajmjbboahmdkaa", sum := "f5601091b04c5a3f55f24ac024eee82d92bc06466334b7dbbd5d3c050ed00128", func := "safehouse/safehouselaw22.AttackGrows", spec := "attackGrows", inPlace := ["slices.overlaps[int]"], unfollowed := true, recurses := true, loops := true, apart := false, narrowed := true }
def AttackGrowsUptoSaid : Prop := attackGrowsUptoRow.holds Try.pinned (OpenSpec.upto attackGrowsSpec)

/-- 'safehouselaw22.AttackSame', WHERE WHAT IT READS IS OF BULK AT MOST 1048576: true; the input reads as it did. -/
def attackSameUptoRow : OpenClaim := { program := "ytajmjbboahmdkaa", sum := "f5601091b04c5a3f55f24ac024eee82d92bc06466334b7dbbd5d3c050ed00128", func := "safehouse/safehouselaw22.AttackSame", spec := "attackSame", inPlace := ["slices.overlaps[int]"], unfollowed := true, recurses := true, loops := true, apart := false, narrowed := true }
def AttackSameUptoSaid : Prop := attackSameUptoRow.holds Try.pinned (OpenSpec.upto attackSameSpec)

/-- 'safehouselaw22.AttackForged', WHERE WHAT IT READS IS OF BULK AT MOST 1048576: true; the input reads as it did. -/
def attackForgedUptoRow : OpenClaim := { program := "ytajmjbboahmdkaa", sum := "f5601091b04c5a3f55f24ac024eee82d92bc06466334b7dbbd5d3c050ed00128", func := "safehouse/safehouselaw22.AttackForged", spec := "attackForged", inPlace := ["slices.overlaps[int]"], unfollowed := true, recurses := true, loops := true, apart := false, narrowed := true }
def AttackForgedUptoSaid : Prop := attackForgedUptoRow.holds Try.pinned (OpenSpec.upto attackForgedSpec)

/-- 'safehouselaw07.CloseMore', WHERE WHAT IT READS IS OF BULK AT MOST 1048576: true; the input reads as it did. -/
def closeMoreUptoRow : OpenClaim := { program := "ytajmjbboahmdkaa", sum := "f5601091b04c5a3f55f24ac024eee82d92bc06466334b7dbbd5d3c050ed00128", func := "safehouse/safehouselaw07.CloseMore", spec := "closeMore", unfollowed := true, recurses := true, loops := true, apart := false, narrowed := true }
def CloseMoreUptoSaid : Prop := closeMoreUptoRow.holds Try.pinned (OpenSpec.upto closeMoreSpec)

/-- 'safehouselaw07.CloseKeeps', WHERE WHAT IT READS IS OF BULK AT MOST 1048576: true; the input reads as it did. -/
def closeKeepsUptoRow : OpenClaim := { program := "ytajmjbboahmdkaa", sum := "f5601091b04c5a3f55f24ac024eee82d92bc06466334b7dbbd5d3c050ed00128", func := "safehouse/safehouselaw07.CloseKeeps", spec := "closeKeeps", unfollowed := true, recurses := true, loops := true, apart := false, narrowed := true }
def CloseKeepsUptoSaid : Prop := closeKeepsUptoRow.holds Try.pinned (OpenSpec.upto closeKeepsSpec)

/-- 'safehouselaw07.CloseAtoms', WHERE WHAT IT READS IS OF BULK AT MOST 1048576: true; the input reads as it did. -/
def closeAtomsUptoRow : OpenClaim := { program := "ytajmjbboahmdkaa", sum := "f5601091b04c5a3f55f24ac024eee82d92bc06466334b7dbbd5d3c050ed00128", func := "safehouse/safehouselaw07.CloseAtoms", spec := "closeAtoms", unfollowed := true, recurses := true, loops := true, apart := false, narrowed := true }
def CloseAtomsUptoSaid : Prop := closeAtomsUptoRow.holds Try.pinned (OpenSpec.upto closeAtomsSpec)

/-- 'safehouselaw13.CapReads', WHERE WHAT IT READS IS OF BULK AT MOST 1048576: true; the input reads as it did. -/
def capReadsUptoRow : OpenClaim := { program := "ytajmjbboahmdkaa", sum := "f5601091b04c5a3f55f24ac024eee82d92bc06466334b7dbbd5d3c050ed00128", func := "safehouse/safehouselaw13.CapReads", spec := "capReads", unfollowed := true, recurses := true, apart := false, narrowed := true }
def CapReadsUptoSaid : Prop := capReadsUptoRow.holds Try.pinned (OpenSpec.upto capReadsSpec)

end Rows
end Go.Proofs.Ytajmjbboahmdkaa
