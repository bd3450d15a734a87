/- The frame of the rows. -/
import Derived.Test.YtgielmldblopeaaDoorInst
import Derived.Test.YtgielmldblopeaaDoorRows
import Derived.Test.YtgielmldblopeaaDoorW5
namespace Go.Proofs.YtgielmldblopeaaDoor
open Go Go.Wk
open Go.ChangeShapes Go.WideShapes Go.ChangeAt Go.RowKit
set_option maxRecDepth 100000

theorem own : ownKnob Tryd.prog.godebug = none := by kernel_rfl
theorem laidOut : laidOutB Tryd.prog = true := by kernel_rfl
instance termTy : TermTy Tryd.prog 24 := ⟨⟨_, 3, 9, 22, rfl, rfl, rfl, rfl, rfl, by kernel_rfl, by kernel_rfl, by kernel_rfl, by kernel_rfl⟩⟩
end Go.Proofs.YtgielmldblopeaaDoor
