/- Package tree: Proof. -/
import Derived.Test.YtmngicgdgpimlaaDoorTreeC
namespace Go.Proofs.YtmngicgdgpimlaaDoor
open Go Go.Wk
set_option synthInstance.maxSize 100000
set_option synthInstance.maxHeartbeats 400000
set_option maxRecDepth 100000

theorem pathT_one {l : List LMark} {i : Nat} (h : l.length ≤ 1) : pathT l i = [] := by rw [pathT, dif_pos h]
theorem pathT_r {l : List LMark} {i : Nat} (h : 2 ≤ l.length) (hi : i < halfN l.length) : pathT l i = .pair (textT [114]) (rootT (l.drop (halfN l.length))) :: pathT (l.take (halfN l.length)) i := by
  conv => lhs; rw [pathT]
  rw [dif_neg (by omega), if_pos hi]
theorem pathT_l {l : List LMark} {i : Nat} (h : 2 ≤ l.length) (hi : ¬ i < halfN l.length) : pathT l i = .pair (textT [108]) (rootT (l.take (halfN l.length))) :: pathT (l.drop (halfN l.length)) (i - halfN l.length) := by
  conv => lhs; rw [pathT]
  rw [dif_neg (by omega), if_neg hi]
def ProofR (M : Nat → Prop) (l : List LMark) (key : List UInt8) (v : Value) (w : World) : Prop := ∃ (p : Option Addr) (c : Nat) (os : List LTerm) (e : Int), v = .tuple ⟨[.slice p os.length c, .int .i64 e]⟩ ∧ Stable M w (LsF p 0 os) ∧
  (okM l = false → e = 240 ∧ os = []) ∧ (okM l = true → key ∉ l.map LMark.key → e = 4 ∧ os = []) ∧ (okM l = true → key ∈ l.map LMark.key → e = 0 ∧ ∃ i, i < l.length ∧ (nthG l i).key = key ∧ os.map LTerm.t = (pathT l i).reverse)
end Go.Proofs.YtmngicgdgpimlaaDoor
