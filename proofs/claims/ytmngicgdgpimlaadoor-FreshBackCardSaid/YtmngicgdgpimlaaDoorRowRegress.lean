/- The frame of the rows. -/
import Derived.Test.YtmngicgdgpimlaaDoorInst
import Derived.Test.YtmngicgdgpimlaaDoorRows
import Derived.Test.YtmngicgdgpimlaaDoorW5
namespace Go.Proofs.YtmngicgdgpimlaaDoor
open Go Go.Wk
open Go.ChangeShapes Go.WideShapes Go.ChangeAt Go.RowKit
set_option maxRecDepth 100000

theorem own : ownKnob Tryd.prog.godebug = none := by kernel_rfl
theorem laidOut : laidOutB Tryd.prog = true := by kernel_rfl
instance termTy : TermTy Tryd.prog 28 := ⟨⟨_, 3, 9, 26, rfl, rfl, rfl, rfl, rfl, by kernel_rfl, by kernel_rfl, by kernel_rfl, by kernel_rfl⟩⟩
end Go.Proofs.YtmngicgdgpimlaaDoor
