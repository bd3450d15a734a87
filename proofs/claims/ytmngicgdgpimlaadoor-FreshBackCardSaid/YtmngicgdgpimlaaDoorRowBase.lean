/- What inputs of the common kinds are. -/
import Derived.Test.YtmngicgdgpimlaaDoorRowRegress
import Derived.Test.YtmngicgdgpimlaaDoorW5
namespace Go.Proofs.YtmngicgdgpimlaaDoor
open Go Go.Wk
open Go.ChangeShapes Go.WideShapes Go.ChangeAt Go.RowKit
set_option maxRecDepth 100000

instance troInt : Tro Tryd.prog 3 Int := troI Tryd.underlying3 (by kernel_rfl)
instance troTerm : Tro Tryd.prog 28 LTerm := troT
instance troTerms : Tro Tryd.prog 26 (Sl LTerm) := troSl Tryd.underlying26 (by kernel_rfl)
end Go.Proofs.YtmngicgdgpimlaaDoor
