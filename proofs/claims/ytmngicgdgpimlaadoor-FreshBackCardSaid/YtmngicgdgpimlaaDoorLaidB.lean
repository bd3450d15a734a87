/- From a row's condition to what a walk needs; the rows of layer 14: TreeUnlike. -/
import Derived.Test.YtmngicgdgpimlaaDoorLaidA
import Derived.Test.YtmngicgdgpimlaaDoorRowBase
import Derived.Test.YtmngicgdgpimlaaDoorTreeH
import Derived.Lib.LaidTab
import Derived.SizedLaws
import Derived.ChangeVars
import Derived.JoinedOf
import Derived.JoinedAt
namespace Go.Proofs.YtmngicgdgpimlaaDoor
open Go Go.Wk
open Go.ChangeShapes Go.WideShapes Go.ChangeAt Go.RowKit
set_option maxRecDepth 100000

theorem starE : "*" ++ "errors.errorString" = "*errors.errorString" := by decide
theorem rowE (u : TypeId) (h : Tryd.prog.typeName? 3 u = some "*errors.errorString") : u = 131 :=
  typeName_ptr_named (nm := "errors.errorString") (by rw [starE]; kernel_rfl) (by kernel_rfl) (by decide) u (by rw [starE]; exact h)
theorem pow10_data : (Rows.laid_internal_strconv_uint64pow10 : DataW Unit) = Lib.tabData .u64 Lib.pow10Tab := by kernel_rfl
theorem lib_of_laid {W : World} (h : laidMet Tryd.prog laidL W) : LibF W := by
  have h3 := h.tail.tail
  have h4 := h3.tail
  have h5 := h4.tail
  refine ⟨?_, ?_, ?_⟩
  · refine Lib.tabIs_of_head (rest := [("strconv.ErrRange", Rows.laid_strconv_ErrRange), ("strconv.ErrSyntax", Rows.laid_strconv_ErrSyntax)]) (g := 0) (t := 112) (e := 96) (n := 20) (by kernel_rfl) (by kernel_rfl) (by kernel_rfl) (by kernel_rfl) (by kernel_rfl) (by kernel_rfl) ?_
    rw [← pow10_data]; exact h3
  · obtain ⟨a, s, hv, -⟩ := laid_sentinel h5 (g := 1) (ti := 78) (by kernel_rfl) (by kernel_rfl) Tryd.underlying78 rowE Tryd.underlying131 Tryd.underlying133 rfl rfl Tryd.underlying9 (by kernel_rfl) (by kernel_rfl)
    exact ⟨_, _, hv⟩
  · obtain ⟨a, s, hv, -⟩ := laid_sentinel h4 (g := 2) (ti := 78) (by kernel_rfl) (by kernel_rfl) Tryd.underlying78 rowE Tryd.underlying131 Tryd.underlying133 rfl rfl Tryd.underlying9 (by kernel_rfl) (by kernel_rfl)
    exact ⟨_, _, hv⟩
instance troMark : Tro Tryd.prog 36 LMark := ⟨fun enc w base spare held fuel cs x h => by
  obtain ⟨hlen, hf⟩ := trod_flds Tryd.underlying36 h
  rw [show Tryd.prog.cellsOf 36 = 2 from by kernel_rfl] at hlen
  obtain ⟨n0, y0, g0⟩ := hf 0 9 0 rfl
  obtain ⟨n1, y1, g1⟩ := hf 1 3 1 rfl
  have hS : Tro Tryd.prog 9 (List UInt8) := troS Tryd.underlying9 (by kernel_rfl)
  obtain ⟨u0, e0, i0⟩ := trod_fld (α := List UInt8) g0 rfl
  obtain ⟨u1, e1, i1⟩ := trod_fld (α := Int) g1 rfl
  refine ⟨⟨u0, u1⟩, ?_, trivial⟩
  match cs, hlen with
  | [c0, c1], _ =>
    have q0 : [c0] = [str u0] := e0
    have q1 : [c1] = [.int .i64 u1] := e1
    simp only [List.cons.injEq, and_true] at q0 q1
    rw [q0, q1]; rfl, by kernel_rfl⟩
instance troMarks : Tro Tryd.prog 23 (Sl LMark) := troSl Tryd.underlying23 (by kernel_rfl)
end Go.Proofs.YtmngicgdgpimlaaDoor
