/- What inputs of the common kinds are. -/
import Derived.Test.YtgielmldblopeaaDoorRowRegress
import Derived.Test.YtgielmldblopeaaDoorW5
namespace Go.Proofs.YtgielmldblopeaaDoor
open Go Go.Wk
open Go.ChangeShapes Go.WideShapes Go.ChangeAt Go.RowKit
set_option maxRecDepth 100000

instance troInt : Tro Tryd.prog 3 Int := troI Tryd.underlying3 (by kernel_rfl)
instance troTerm : Tro Tryd.prog 24 LTerm := troT
instance troTerms : Tro Tryd.prog 22 (Sl LTerm) := troSl Tryd.underlying22 (by kernel_rfl)
end Go.Proofs.YtgielmldblopeaaDoor
