/- The frame of the rows. -/
import Derived.Test.YtkpfhdojkffflaaInst
import Derived.Test.YtkpfhdojkffflaaRows
import Derived.Test.YtkpfhdojkffflaaWkR
namespace Go.Proofs.Ytkpfhdojkffflaa
open Go Go.Wk
open Go.ChangeShapes Go.WideShapes Go.ChangeAt Go.RowKit
set_option maxRecDepth 100000

theorem own : ownKnob Try.prog.godebug = none := by kernel_rfl
theorem laidOut : laidOutB Try.prog = true := by kernel_rfl
instance termTy : TermTy Try.prog 24 := ⟨⟨_, 3, 9, 22, rfl, rfl, rfl, rfl, rfl, by kernel_rfl, by kernel_rfl, by kernel_rfl, by kernel_rfl⟩⟩
end Go.Proofs.Ytkpfhdojkffflaa
