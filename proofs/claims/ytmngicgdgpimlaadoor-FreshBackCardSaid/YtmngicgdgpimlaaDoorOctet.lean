/- Package octet: numbers laid as bytes. -/
import Derived.Test.YtmngicgdgpimlaaDoorInst
import Derived.Test.YtmngicgdgpimlaaDoorW3
namespace Go.Proofs.YtmngicgdgpimlaaDoor
open Go Go.Wk
set_option synthInstance.maxSize 100000
set_option synthInstance.maxHeartbeats 400000
set_option maxRecDepth 100000

theorem drop_rep (n m : Nat) (z : Value) : ((List.replicate (n + m) [z]).flatten).drop (n * 1) = List.replicate m z := by
  have h : ∀ k, (List.replicate k [z]).flatten = List.replicate k z := fun k => by
    induction k with
    | zero => rfl
    | succ k ih => rw [List.replicate_succ, List.flatten_cons, ih]; rfl
  rw [h, List.drop_replicate]
  congr 1; omega
theorem enc_set1 (l1 l2 : List UInt8) (y y' : UInt8) : (encL (l1 ++ y :: l2)).take l1.length ++ [.int .u8 (y'.toNat : Int)] ++ (encL (l1 ++ y :: l2)).drop (l1.length + 1) = encL (l1 ++ y' :: l2) := by
  have h1 : (encL l1).length = l1.length := by rw [encL_len]; exact Nat.mul_one _
  have e : encL (l1 ++ y :: l2) = encL l1 ++ (.int .u8 (y.toNat : Int) :: encL l2) := by rw [encL_append, encL_cons]; rfl
  rw [e, ← h1, List.take_left, List.drop_append, List.drop_of_length_le (by omega), encL_append, encL_cons]
  simp [Enc.cells]
end Go.Proofs.YtmngicgdgpimlaaDoor
