/- The frame of the rows of layer 22. -/
import Derived.Test.YtgielmldblopeaaRowRegress
import Derived.Test.YtgielmldblopeaaLawAttackA
namespace Go.Proofs.Ytgielmldblopeaa
open Go Go.Wk
open Go.ChangeShapes Go.WideShapes Go.ChangeAt Go.RowKit
set_option maxRecDepth 100000

instance troInt : Tro Try.prog 3 Int := troI Try.underlying3 (by kernel_rfl)
instance troTerm : Tro Try.prog 35 LTerm := troT
instance troInts : Tro Try.prog 22 (Sl Int) := troSl Try.underlying22 (by kernel_rfl)
instance troTerms : Tro Try.prog 23 (Sl LTerm) := troSl Try.underlying23 (by kernel_rfl)
instance troAtk : Tro Try.prog 25 LAtk := ⟨fun enc w base spare held fuel cs x h => by
  obtain ⟨hlen, hf⟩ := trod_flds Try.underlying25 h
  rw [show Try.prog.cellsOf 25 = 2 from by kernel_rfl] at hlen
  obtain ⟨n0, y0, g0⟩ := hf 0 22 0 rfl
  obtain ⟨n1, y1, g1⟩ := hf 1 23 1 rfl
  obtain ⟨u, e0, i0⟩ := trod_fld (α := Sl Int) g0 rfl
  obtain ⟨k, e1, i1⟩ := trod_fld (α := Sl LTerm) g1 rfl
  refine ⟨⟨u, k⟩, ?_, i0, i1⟩
  match cs, hlen with
  | [c0, c1], _ =>
    have q0 : [c0] = [u.v] := e0
    have q1 : [c1] = [k.v] := e1
    simp only [List.cons.injEq, and_true] at q0 q1
    rw [q0, q1]; rfl, by kernel_rfl⟩
end Go.Proofs.Ytgielmldblopeaa
