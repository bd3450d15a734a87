/- The frame of the rows. -/
import Derived.Test.YtgielmldblopeaaInst
import Derived.Test.YtgielmldblopeaaRows
import Derived.Test.YtgielmldblopeaaW5
namespace Go.Proofs.Ytgielmldblopeaa
open Go Go.Wk
open Go.ChangeShapes Go.WideShapes Go.ChangeAt Go.RowKit
set_option maxRecDepth 100000

theorem own : ownKnob Try.prog.godebug = none := by kernel_rfl
theorem laidOut : laidOutB Try.prog = true := by kernel_rfl
instance termTy : TermTy Try.prog 35 := ⟨⟨_, 3, 9, 23, rfl, rfl, rfl, rfl, rfl, by kernel_rfl, by kernel_rfl, by kernel_rfl, by kernel_rfl⟩⟩
end Go.Proofs.Ytgielmldblopeaa
