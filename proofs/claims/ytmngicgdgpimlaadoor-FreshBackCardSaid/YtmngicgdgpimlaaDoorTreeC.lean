/- Package tree: the proof of a key. -/
import Derived.Test.YtmngicgdgpimlaaDoorPlainTree
namespace Go.Proofs.YtmngicgdgpimlaaDoor
open Go Go.Wk
set_option synthInstance.maxSize 100000
set_option synthInstance.maxHeartbeats 400000
set_option maxRecDepth 100000

theorem encL_setG (ys : List LTerm) (i : Nat) (x : LTerm) (h : i < ys.length) : (encL ys).take (i * 5) ++ x.cells ++ (encL ys).drop (i * 5 + x.cells.length) = encL (ys.set i x) := by
  have e : x.cells.length = 5 := rfl
  rw [e, ← show encL (ys.take i) = (encL ys).take (i * 5) from encL_takeG ys i, ← show encL (ys.drop (i + 1)) = (encL ys).drop (i * 5 + 5) from by rw [show i * 5 + 5 = (i + 1) * 5 from by omega]; exact encL_dropG ys (i + 1)]
  rw [← encT_cells, ← encL_append, ← encL_append, List.set_eq_take_append_cons_drop, if_pos h, List.append_assoc]; rfl
def revAt (xs : List LTerm) (k t : Nat) : LTerm := if t < k ∨ xs.length ≤ t + k then nthL xs (xs.length - 1 - t) else nthL xs t
theorem nthL_set (l : List LTerm) (i : Nat) (x : LTerm) (t : Nat) (h : i < l.length) : nthL (l.set i x) t = if i = t then x else nthL l t := by
  unfold nthL
  rw [List.getD_eq_getElem?_getD, List.getD_eq_getElem?_getD, List.getElem?_set]
  split
  · rfl
  · rfl
end Go.Proofs.YtmngicgdgpimlaaDoor
