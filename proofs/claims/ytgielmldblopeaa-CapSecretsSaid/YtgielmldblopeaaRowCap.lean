/- The frame of the rows of layer 13. -/
import Derived.Test.YtgielmldblopeaaRowBase
import Derived.Test.YtgielmldblopeaaPermA
namespace Go.Proofs.Ytgielmldblopeaa
open Go Go.Wk
open Go.ChangeShapes Go.WideShapes Go.ChangeAt Go.RowKit
set_option maxRecDepth 100000

instance troPerm : Tro Try.prog 56 LPerm := ⟨fun enc w base spare held fuel cs x h => by
  obtain ⟨hlen, hf⟩ := trod_flds Try.underlying56 h
  rw [show Try.prog.cellsOf 56 = 5 from by kernel_rfl] at hlen
  obtain ⟨n0, y0, g0⟩ := hf 0 3 0 rfl
  obtain ⟨n1, y1, g1⟩ := hf 1 3 1 rfl
  obtain ⟨n2, y2, g2⟩ := hf 2 22 2 rfl
  obtain ⟨n3, y3, g3⟩ := hf 3 22 3 rfl
  obtain ⟨n4, y4, g4⟩ := hf 4 22 4 rfl
  obtain ⟨u0, e0, i0⟩ := trod_fld (α := Int) g0 rfl
  obtain ⟨u1, e1, i1⟩ := trod_fld (α := Int) g1 rfl
  obtain ⟨u2, e2, i2⟩ := trod_fld (α := Sl Int) g2 rfl
  obtain ⟨u3, e3, i3⟩ := trod_fld (α := Sl Int) g3 rfl
  obtain ⟨u4, e4, i4⟩ := trod_fld (α := Sl Int) g4 rfl
  refine ⟨⟨u0, u1, u2, u3, u4⟩, ?_, i2, i3, i4⟩
  match cs, hlen with
  | [c0, c1, c2, c3, c4], _ =>
    have q0 : [c0] = [.int .i64 u0] := e0
    have q1 : [c1] = [.int .i64 u1] := e1
    have q2 : [c2] = [u2.v] := e2
    have q3 : [c3] = [u3.v] := e3
    have q4 : [c4] = [u4.v] := e4
    simp only [List.cons.injEq, and_true] at q0 q1 q2 q3 q4
    rw [q0, q1, q2, q3, q4]; rfl, by kernel_rfl⟩
instance troBel : Tro Try.prog 66 LBel := ⟨fun enc w base spare held fuel cs x h => by
  obtain ⟨hlen, hf⟩ := trod_flds Try.underlying66 h
  rw [show Try.prog.cellsOf 66 = 2 from by kernel_rfl] at hlen
  obtain ⟨n0, y0, g0⟩ := hf 0 3 0 rfl
  obtain ⟨n1, y1, g1⟩ := hf 1 3 1 rfl
  obtain ⟨u0, e0, i0⟩ := trod_fld (α := Int) g0 rfl
  obtain ⟨u1, e1, i1⟩ := trod_fld (α := Int) g1 rfl
  refine ⟨⟨u0, u1⟩, ?_, trivial⟩
  match cs, hlen with
  | [c0, c1], _ =>
    have q0 : [c0] = [.int .i64 u0] := e0
    have q1 : [c1] = [.int .i64 u1] := e1
    simp only [List.cons.injEq, and_true] at q0 q1
    rw [q0, q1]; rfl, by kernel_rfl⟩
instance troBels : Tro Try.prog 57 (Sl LBel) := troSl Try.underlying57 (by kernel_rfl)
instance troBool : Tro Try.prog 4 Bool := troBo Try.underlying4 (by kernel_rfl)
instance troBools : Tro Try.prog 72 (Sl Bool) := troSl Try.underlying72 (by kernel_rfl)
end Go.Proofs.Ytgielmldblopeaa
