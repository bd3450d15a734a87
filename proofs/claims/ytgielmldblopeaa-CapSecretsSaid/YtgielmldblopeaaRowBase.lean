/- What inputs of the common kinds are. -/
import Derived.Test.YtgielmldblopeaaRowRegress
import Derived.Test.YtgielmldblopeaaW5
namespace Go.Proofs.Ytgielmldblopeaa
open Go Go.Wk
open Go.ChangeShapes Go.WideShapes Go.ChangeAt Go.RowKit
set_option maxRecDepth 100000

instance troInt : Tro Try.prog 3 Int := troI Try.underlying3 (by kernel_rfl)
instance troTerm : Tro Try.prog 35 LTerm := troT
instance troInts : Tro Try.prog 22 (Sl Int) := troSl Try.underlying22 (by kernel_rfl)
instance troTerms : Tro Try.prog 23 (Sl LTerm) := troSl Try.underlying23 (by kernel_rfl)
end Go.Proofs.Ytgielmldblopeaa
