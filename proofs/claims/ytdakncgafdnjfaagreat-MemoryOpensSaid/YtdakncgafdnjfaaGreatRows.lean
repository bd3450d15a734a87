/-
  NARROWER THAN 'FOR EVERY INPUT', by the rows' own cells (each row's printed sentence says how): VaultBack: loops · VaultNone: loops · VaultLasts: loops · MemoryChecks: loops · MemoryCovers: loops · MemoryBack: loops · MemoryKeeps: loops · MemoryOpens: loops.
  DERIVED. THE GIVEN ROWS OF THIS SEAT. 9 by the template 'for every input the law returns true; each argument reads behind the call as it read before'; 0 by the template 'total and deterministic' (their statements: YtdakncgafdnjfaaGreatTotals.lean).
  GIVEN WITH THE SEED: the statements are not yours to turn. If you find one false, say at which input.
  Laid BY PROGRAM, IN A SANDBOX (cutbox-rows.mjs): the forced cells as the released guide's own fill.sh prints them over the translation 4b3559d094723052… (all of the seat's roots in one cut). By AI agents, Wed Nov 11 2026. No macro, syntax, notation, axiom, sorry.
-/
import Derived.Test.YtdakncgafdnjfaaGreatChecked
import GoSem.Claim
import GoSem.ClaimJoined
import GoSem.ClaimMapViews
import Derived.JoinedTies
import Derived.KernelRfl
namespace Go.Proofs.YtdakncgafdnjfaaGreat
/- THE CELL 'sum', in the pinned program and in every row, IS THE sha256 OF THE DUMP (.gsa) THAT YtdakncgafdnjfaaGreatProg.lean LOADS. Nothing in Lean hashes anything: it is a label: what it is worth is what the hold of that sum in a sandbox is worth. -/
noncomputable def Tryz.pinned : Pinned := { name := "ytdakncgafdnjfaagreat", sum := "4b3559d0947230521c0e553c340ca3e4696b11e47340532337bd447b1015577e", checked := Tryz.checked }
namespace Rows
def none {H : Type} : Left H := { results := [], args := [] }

/-- 'safehouselaw19.VaultBack': WHATEVER THE INPUT: true; the input reads as it did. -/
def vaultBackSpec : ChangeSpec := { name := "vaultBack", fn := fun _ => fun
  | [d1, d2] => { results := [.lit (.bool true)], args := [d1, d2] }
  | _ => none }
def vaultBackRow : OpenClaim := { program := "ytdakncgafdnjfaagreat", sum := "4b3559d0947230521c0e553c340ca3e4696b11e47340532337bd447b1015577e", func := "safehouse/safehouselaw19.VaultBack", spec := "vaultBack", inPlace := ["internal/bytealg.abigen_runtime_cmpstring", "slices.overlaps[safehouse/vault.row]"], unfollowed := true, recurses := true, loops := true, apart := false }
def VaultBackSaid : Prop := vaultBackRow.holds Tryz.pinned (OpenSpec.ofChange vaultBackSpec)

/-- ITS FALSE NEIGHBOUR: 'it returns false'. Refute it at one input. -/
def vaultBackWrong : ChangeSpec := { name := "vaultBack", fn := fun _ => fun
  | [d1, d2] => { results := [.lit (.bool false)], args := [d1, d2] }
  | _ => none }
def VaultBackWrongFalsely : Prop := vaultBackRow.holds Tryz.pinned (OpenSpec.ofChange vaultBackWrong)

/-- 'safehouselaw19.VaultOpens': WHATEVER THE INPUT: true; the input reads as it did. -/
def vaultOpensSpec : ChangeSpec := { name := "vaultOpens", fn := fun _ => fun
  | [d1, d2] => { results := [.lit (.bool true)], args := [d1, d2] }
  | _ => none }
def vaultOpensRow : OpenClaim := { program := "ytdakncgafdnjfaagreat", sum := "4b3559d0947230521c0e553c340ca3e4696b11e47340532337bd447b1015577e", func := "safehouse/safehouselaw19.VaultOpens", spec := "vaultOpens", inPlace := ["internal/bytealg.abigen_runtime_cmpstring", "slices.overlaps[safehouse/vault.row]"], unfollowed := true, recurses := true, apart := false }
def VaultOpensSaid : Prop := vaultOpensRow.holds Tryz.pinned (OpenSpec.ofChange vaultOpensSpec)

/-- ITS FALSE NEIGHBOUR: 'it returns false'. Refute it at one input. -/
def vaultOpensWrong : ChangeSpec := { name := "vaultOpens", fn := fun _ => fun
  | [d1, d2] => { results := [.lit (.bool false)], args := [d1, d2] }
  | _ => none }
def VaultOpensWrongFalsely : Prop := vaultOpensRow.holds Tryz.pinned (OpenSpec.ofChange vaultOpensWrong)

/-- 'safehouselaw19.VaultNone': WHATEVER THE INPUT: true; the input reads as it did. -/
def vaultNoneSpec : ChangeSpec := { name := "vaultNone", fn := fun _ => fun
  | [d1, d2] => { results := [.lit (.bool true)], args := [d1, d2] }
  | _ => none }
def vaultNoneRow : OpenClaim := { program := "ytdakncgafdnjfaagreat", sum := "4b3559d0947230521c0e553c340ca3e4696b11e47340532337bd447b1015577e", func := "safehouse/safehouselaw19.VaultNone", spec := "vaultNone", inPlace := ["internal/bytealg.abigen_runtime_cmpstring", "slices.overlaps[safehouse/vault.row]"], unfollowed := true, recurses := true, loops := true, apart := false }
def VaultNoneSaid : Prop := vaultNoneRow.holds Tryz.pinned (OpenSpec.ofChange vaultNoneSpec)

/-- ITS FALSE NEIGHBOUR: 'it returns false'. Refute it at one input. -/
def vaultNoneWrong : ChangeSpec := { name := "vaultNone", fn := fun _ => fun
  | [d1, d2] => { results := [.lit (.bool false)], args := [d1, d2] }
  | _ => none }
def VaultNoneWrongFalsely : Prop := vaultNoneRow.holds Tryz.pinned (OpenSpec.ofChange vaultNoneWrong)

/-- 'safehouselaw19.VaultLasts': WHATEVER THE INPUT: true; the input reads as it did. -/
def vaultLastsSpec : ChangeSpec := { name := "vaultLasts", fn := fun _ => fun
  | [d1, d2, d3] => { results := [.lit (.bool true)], args := [d1, d2, d3] }
  | _ => none }
def vaultLastsRow : OpenClaim := { program := "ytdakncgafdnjfaagreat", sum := "4b3559d0947230521c0e553c340ca3e4696b11e47340532337bd447b1015577e", func := "safehouse/safehouselaw19.VaultLasts", spec := "vaultLasts", inPlace := ["internal/bytealg.abigen_runtime_cmpstring", "slices.overlaps[safehouse/vault.row]"], unfollowed := true, recurses := true, loops := true, apart := false }
def VaultLastsSaid : Prop := vaultLastsRow.holds Tryz.pinned (OpenSpec.ofChange vaultLastsSpec)

/-- ITS FALSE NEIGHBOUR: 'it returns false'. Refute it at one input. -/
def vaultLastsWrong : ChangeSpec := { name := "vaultLasts", fn := fun _ => fun
  | [d1, d2, d3] => { results := [.lit (.bool false)], args := [d1, d2, d3] }
  | _ => none }
def VaultLastsWrongFalsely : Prop := vaultLastsRow.holds Tryz.pinned (OpenSpec.ofChange vaultLastsWrong)

/-- 'safehouselaw20.MemoryChecks': WHATEVER THE INPUT: true; the input reads as it did. -/
def memoryChecksSpec : ChangeSpec := { name := "memoryChecks", fn := fun _ => fun
  | [d] => { results := [.lit (.bool true)], args := [d] }
  | _ => none }
def memoryChecksRow : OpenClaim := { program := "ytdakncgafdnjfaagreat", sum := "4b3559d0947230521c0e553c340ca3e4696b11e47340532337bd447b1015577e", func := "safehouse/safehouselaw20.MemoryChecks", spec := "memoryChecks", unfollowed := true, recurses := true, loops := true, apart := false }
def MemoryChecksSaid : Prop := memoryChecksRow.holds Tryz.pinned (OpenSpec.ofChange memoryChecksSpec)

/-- ITS FALSE NEIGHBOUR: 'it returns false'. Refute it at one input. -/
def memoryChecksWrong : ChangeSpec := { name := "memoryChecks", fn := fun _ => fun
  | [d] => { results := [.lit (.bool false)], args := [d] }
  | _ => none }
def MemoryChecksWrongFalsely : Prop := memoryChecksRow.holds Tryz.pinned (OpenSpec.ofChange memoryChecksWrong)

/-- 'safehouselaw20.MemoryCovers': WHATEVER THE INPUT: true; the input reads as it did. -/
def memoryCoversSpec : ChangeSpec := { name := "memoryCovers", fn := fun _ => fun
  | [d1, d2, d3] => { results := [.lit (.bool true)], args := [d1, d2, d3] }
  | _ => none }
def memoryCoversRow : OpenClaim := { program := "ytdakncgafdnjfaagreat", sum := "4b3559d0947230521c0e553c340ca3e4696b11e47340532337bd447b1015577e", func := "safehouse/safehouselaw20.MemoryCovers", spec := "memoryCovers", unfollowed := true, recurses := true, loops := true, apart := false }
def MemoryCoversSaid : Prop := memoryCoversRow.holds Tryz.pinned (OpenSpec.ofChange memoryCoversSpec)

/-- ITS FALSE NEIGHBOUR: 'it returns false'. Refute it at one input. -/
def memoryCoversWrong : ChangeSpec := { name := "memoryCovers", fn := fun _ => fun
  | [d1, d2, d3] => { results := [.lit (.bool false)], args := [d1, d2, d3] }
  | _ => none }
def MemoryCoversWrongFalsely : Prop := memoryCoversRow.holds Tryz.pinned (OpenSpec.ofChange memoryCoversWrong)

/-- 'safehouselaw20.MemoryBack': WHATEVER THE INPUT: true; the input reads as it did. -/
def memoryBackSpec : ChangeSpec := { name := "memoryBack", fn := fun _ => fun
  | [d1, d2, d3] => { results := [.lit (.bool true)], args := [d1, d2, d3] }
  | _ => none }
def memoryBackRow : OpenClaim := { program := "ytdakncgafdnjfaagreat", sum := "4b3559d0947230521c0e553c340ca3e4696b11e47340532337bd447b1015577e", func := "safehouse/safehouselaw20.MemoryBack", spec := "memoryBack", unfollowed := true, recurses := true, loops := true, apart := false }
def MemoryBackSaid : Prop := memoryBackRow.holds Tryz.pinned (OpenSpec.ofChange memoryBackSpec)

/-- ITS FALSE NEIGHBOUR: 'it returns false'. Refute it at one input. -/
def memoryBackWrong : ChangeSpec := { name := "memoryBack", fn := fun _ => fun
  | [d1, d2, d3] => { results := [.lit (.bool false)], args := [d1, d2, d3] }
  | _ => none }
def MemoryBackWrongFalsely : Prop := memoryBackRow.holds Tryz.pinned (OpenSpec.ofChange memoryBackWrong)

/-- 'safehouselaw20.MemoryKeeps': WHATEVER THE INPUT: true; the input reads as it did. -/
def memoryKeepsSpec : ChangeSpec := { name := "memoryKeeps", fn := fun _ => fun
  | [d1, d2] => { results := [.lit (.bool true)], args := [d1, d2] }
  | _ => none }
def memoryKeepsRow : OpenClaim := { program := "ytdakncgafdnjfaagreat", sum := "4b3559d0947230521c0e553c340ca3e4696b11e47340532337bd447b1015577e", func := "safehouse/safehouselaw20.MemoryKeeps", spec := "memoryKeeps", unfollowed := true, recurses := true, loops := true, apart := false }
def MemoryKeepsSaid : Prop := memoryKeepsRow.holds Tryz.pinned (OpenSpec.ofChange memoryKeepsSpec)

/-- ITS FALSE NEIGHBOUR: 'it returns false'. Refute it at one input. -/
def memoryKeepsWrong : ChangeSpec := { name := "memoryKeeps", fn := fun _ => fun
  | [d1, d2] => { results := [.lit (.bool false)], args := [d1, d2] }
  | _ => none }
def MemoryKeepsWrongFalsely : Prop := memoryKeepsRow.holds Tryz.pinned (OpenSpec.ofChange memoryKeepsWrong)

/-- 'safehouselaw20.MemoryOpens': WHATEVER THE INPUT: true; the input reads as it did. -/
def memoryOpensSpec : ChangeSpec := { name := "memoryOpens", fn := fun _ => fun
  | [d1, d2, d3] => { results := [.lit (.bool true)], args := [d1, d2, d3] }
  | _ => none }
def memoryOpensRow : OpenClaim := { program := "ytdakncgafdnjfaagreat", sum := "4b3559d0947230521c0e553c340ca3e4696b11e47340532337bd447b1015577e", func := "safehouse/safehouselaw20.MemoryOpens", spec := "memoryOpens", unfollowed := true, recurses := true, loops := true, apart := false }
def MemoryOpensSaid : Prop := memoryOpensRow.holds Tryz.pinned (OpenSpec.ofChange memoryOpensSpec)

/-- ITS FALSE NEIGHBOUR: 'it returns false'. Refute it at one input. -/
def memoryOpensWrong : ChangeSpec := { name := "memoryOpens", fn := fun _ => fun
  | [d1, d2, d3] => { results := [.lit (.bool false)], args := [d1, d2, d3] }
  | _ => none }
def MemoryOpensWrongFalsely : Prop := memoryOpensRow.holds Tryz.pinned (OpenSpec.ofChange memoryOpensWrong)

/- THE SECOND FORM. 'bulk': how many values and letters a reading holds, each counted each time it is reached (what is shared counts as often as it is met; a slice's spare places count too). A statement '..UptoSaid' is the law's where the arguments, and the package variables that the reading takes, are together of bulk at most 1048576: NARROWER than '..Said'. Prove '..Said' where nothing that the law and all that it calls make is longer than what came in: it says more and counts as full. Else prove '..UptoSaid'. A law counts once. -/
mutual
def uptoBulk {H : Type} : DataW H → Nat
  | .lit (.string bytes) => bytes.length + 1
  | .lit _ => 1
  | .nil => 1
  | .ptr d => uptoBulk d + 1
  | .slice elems spare => uptoBulkAll elems + uptoBulkAll spare + 1
  | .agg parts => uptoBulkAll parts + 1
  | .iface _ d => uptoBulk d + 1
  | .map entries => uptoBulkEntries entries + 1
  | .held _ => 1
def uptoBulkAll {H : Type} : List (DataW H) → Nat
  | [] => 0
  | d :: r => uptoBulk d + uptoBulkAll r
def uptoBulkEntries {H : Type} : List (Lit × DataW H) → Nat
  | [] => 0
  | x :: r => uptoBulkEntry x + uptoBulkEntries r
def uptoBulkEntry {H : Type} : Lit × DataW H → Nat
  | (.string bytes, d) => bytes.length + uptoBulk d + 1
  | (_, d) => uptoBulk d + 1
 end
def uptoSmall : (H : Type) → List (DataW H) → Bool := fun _ ds => decide (uptoBulkAll ds ≤ 1048576)
def OpenSpec.upto (s : _root_.Go.ChangeSpec) : _root_.Go.OpenSpec := { _root_.Go.OpenSpec.ofChange s with cond := some uptoSmall }

/-- 'safehouselaw19.VaultBack', WHERE WHAT IT READS IS OF BULK AT MOST 1048576: true; the input reads as it did. -/
def vaultBackUptoRow : OpenClaim := { program := "ytdakncgafdnjfaagreat", sum := "4b3559d0947230521c0e553c340ca3e4696b11e47340532337bd447b1015577e", func := "safehouse/safehouselaw19.VaultBack", spec := "vaultBack", inPlace := ["internal/bytealg.abigen_runtime_cmpstring", "slices.overlaps[safehouse/vault.row]"], unfollowed := true, recurses := true, loops := true, apart := false, narrowed := true }
def VaultBackUptoSaid : Prop := vaultBackUptoRow.holds Tryz.pinned (OpenSpec.upto vaultBackSpec)

/-- 'safehouselaw19.VaultOpens', WHERE WHAT IT READS IS OF BULK AT MOST 1048576: true; the input reads as it did. -/
def vaultOpensUptoRow : OpenClaim := { program := "ytdakncgafdnjfaagreat", sum := "4b3559d0947230521c0e553c340ca3e4696b11e47340532337bd447b1015577e", func := "safehouse/safehouselaw19.VaultOpens", spec := "vaultOpens", inPlace := ["internal/bytealg.abigen_runtime_cmpstring", "slices.overlaps[safehouse/vault.row]"], unfollowed := true, recurses := true, apart := false, narrowed := true }
def VaultOpensUptoSaid : Prop := vaultOpensUptoRow.holds Tryz.pinned (OpenSpec.upto vaultOpensSpec)

/-- 'safehouselaw19.VaultNone', WHERE WHAT IT READS IS OF BULK AT MOST 1048576: true; the input reads as it did. -/
def vaultNoneUptoRow : OpenClaim := { program := "ytdakncgafdnjfaagreat", sum := "4b3559d0947230521c0e553c340ca3e4696b11e47340532337bd447b1015577e", func := "safehouse/safehouselaw19.VaultNone", spec := "vaultNone", inPlace := ["internal/bytealg.abigen_runtime_cmpstring", "slices.overlaps[safehouse/vault.row]"], unfollowed := true, recurses := true, loops := true, apart := false, narrowed := true }
def VaultNoneUptoSaid : Prop := vaultNoneUptoRow.holds Tryz.pinned (OpenSpec.upto vaultNoneSpec)

/-- 'safehouselaw19.VaultLasts', WHERE WHAT IT READS IS OF BULK AT MOST 1048576: true; the input reads as it did. -/
def vaultLastsUptoRow : OpenClaim := { program := "ytdakncgafdnjfaagreat", sum := "4b3559d0947230521c0e553c340ca3e4696b11e47340532337bd447b1015577e", func := "safehouse/safehouselaw19.VaultLasts", spec := "vaultLasts", inPlace := ["internal/bytealg.abigen_runtime_cmpstring", "slices.overlaps[safehouse/vault.row]"], unfollowed := true, recurses := true, loops := true, apart := false, narrowed := true }
def VaultLastsUptoSaid : Prop := vaultLastsUptoRow.holds Tryz.pinned (OpenSpec.upto vaultLastsSpec)

/-- 'safehouselaw20.MemoryChecks', WHERE WHAT IT READS IS OF BULK AT MOST 1048576: true; the input reads as it did. -/
def memoryChecksUptoRow : OpenClaim := { program := "ytdakncgafdnjfaagreat", sum := "4b3559d0947230521c0e553c340ca3e4696b11e47340532337bd447b1015577e", func := "safehouse/safehouselaw20.MemoryChecks", spec := "memoryChecks", unfollowed := true, recurses := true, loops := true, apart := false, narrowed := true }
def MemoryChecksUptoSaid : Prop := memoryChecksUptoRow.holds Tryz.pinned (OpenSpec.upto memoryChecksSpec)

/-- 'safehouselaw20.MemoryCovers', WHERE WHAT IT READS IS OF BULK AT MOST 1048576: true; the input reads as it did. -/
def memoryCoversUptoRow : OpenClaim := { program := "ytdakncgafdnjfaagreat", sum := "4b3559d0947230521c0e553c340ca3e4696b11e47340532337bd447b1015577e", func := "safehouse/safehouselaw20.MemoryCovers", spec := "memoryCovers", unfollowed := true, recurses := true, loops := true, apart := false, narrowed := true }
def MemoryCoversUptoSaid : Prop := memoryCoversUptoRow.holds Tryz.pinned (OpenSpec.upto memoryCoversSpec)

/-- 'safehouselaw20.MemoryBack', WHERE WHAT IT READS IS OF BULK AT MOST 1048576: true; the input reads as it did. -/
def memoryBackUptoRow : OpenClaim := { program := "ytdakncgafdnjfaagreat", sum := "4b3559d0947230521c0e553c340ca3e4696b11e47340532337bd447b1015577e", func := "safehouse/safehouselaw20.MemoryBack", spec := "memoryBack", unfollowed := true, recurses := true, loops := true, apart := false, narrowed := true }
def MemoryBackUptoSaid : Prop := memoryBackUptoRow.holds Tryz.pinned (OpenSpec.upto memoryBackSpec)

/-- 'safehouselaw20.MemoryKeeps', WHERE WHAT IT READS IS OF BULK AT MOST 1048576: true; the input reads as it did. -/
def memoryKeepsUptoRow : OpenClaim := { program := "ytdakncgafdnjfaagreat", sum := "4b3559d0947230521c0e553c340ca3e4696b11e47340532337bd447b1015577e", func := "safehouse/safehouselaw20.MemoryKeeps", spec := "memoryKeeps", unfollowed := true, recurses := true, loops := true, apart := false, narrowed := true }
def MemoryKeepsUptoSaid : Prop := memoryKeepsUptoRow.holds Tryz.pinned (OpenSpec.upto memoryKeepsSpec)

/-- 'safehouselaw20.MemoryOpens', WHERE WHAT IT READS IS OF BULK AT MOST 1048576: true; the input reads as it did. -/
def memoryOpensUptoRow : OpenClaim := { program := "ytdakncgafdnjfaagreat", sum := "4b3559d0947230521c0e553c340ca3e4696b11e47340532337bd447b1015577e", func := "safehouse/safehouselaw20.MemoryOpens", spec := "memoryOpens", unfollowed := true, recurses := true, loops := true, apart := false, narrowed := true }
def MemoryOpensUptoSaid : Prop := memoryOpensUptoRow.holds Tryz.pinned (OpenSpec.upto memoryOpensSpec)

end Rows
end Go.Proofs.YtdakncgafdnjfaaGreat
