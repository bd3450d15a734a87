/- Layer 14 does something. -/
import Derived.Test.YtmngicgdgpimlaaDoorTreeG
namespace Go.Proofs.YtmngicgdgpimlaaDoor
open Go Go.Wk
set_option synthInstance.maxSize 100000
set_option synthInstance.maxHeartbeats 400000
set_option maxRecDepth 100000

theorem few_ok : okM fewL = true := by decide
theorem RootR.yes {M : Nat → Prop} {b : Bool} {T : Term} {v : Value} {w : World} (h : RootR M b T v w) (hb : b = true) : ∃ r : LTerm, v = .tuple ⟨[vL r, .int .i64 0]⟩ ∧ r.t = T ∧ Stable M w (LtF r) := by
  obtain ⟨r, e, rfl, h1, h2, -⟩ := h
  obtain ⟨rfl, h3⟩ := h2 hb
  exact ⟨r, rfl, h3, h1⟩
end Go.Proofs.YtmngicgdgpimlaaDoor
