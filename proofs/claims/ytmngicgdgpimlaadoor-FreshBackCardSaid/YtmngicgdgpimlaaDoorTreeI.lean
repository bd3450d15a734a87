/- Layer 14: small. -/
import Derived.Test.YtmngicgdgpimlaaDoorTreeH
namespace Go.Proofs.YtmngicgdgpimlaaDoor
open Go Go.Wk
set_option synthInstance.maxSize 100000
set_option synthInstance.maxHeartbeats 400000
set_option maxRecDepth 100000

theorem own_cap14 {w : World} {e : TypeId} {sz : Nat} {p : Option Addr} {n c : Nat} {xs : List Value} (h : w.ownsRow 0 e sz (.slice p n c) n xs) : c ≤ maxLen := by
  rcases h.2 with ⟨hv, h0⟩ | ⟨g, cap, cur, hv, hb, hg, hnc, hcm, hcs, ht⟩
  · cases hv; exact Nat.zero_le _
  · cases hv; exact hcm
theorem take_map14 (ks : List LTerm) (k : Nat) (h : k < ks.length) : (ks.take (k + 1)).map LTerm.t = (ks.take k).map LTerm.t ++ [(nthL ks k).t] := by
  rw [List.take_add_one, nth_get h, List.map_append]; rfl
def small14 : Nat → Term → Term
  | 0, .mk k u n s _ => .mk k u n (s.take 65) []
  | d + 1, .mk k u n s ks => .mk k u n (s.take 65) ((ks.take 3).map (small14 d))
def small14K (d : Nat) (ks : List Term) : List Term := match d with | 0 => [] | d + 1 => (ks.take 3).map (small14 d)
theorem small14_eq (d : Nat) (t : LTerm) : small14 d t.t = .mk t.kind t.user t.num (t.text.take 65) (small14K d (t.kids.map LTerm.t)) := by
  rw [t.t_eq]; cases d <;> rfl
theorem small14K_len (d : Nat) (ks : List Term) : (small14K d ks).length ≤ 3 := by
  cases d
  · simp [small14K]
  · simp only [small14K, List.length_map, List.length_take]; omega
theorem small14K_more {d : Nat} {ks : List LTerm} {k : Nat} (h : k < ks.length) (hk : k < 3) : small14K (d + 1) ((ks.take (k + 1)).map LTerm.t) = small14K (d + 1) ((ks.take k).map LTerm.t) ++ [small14 d (nthL ks k).t] := by
  simp only [small14K]
  have e1 : ((ks.take (k + 1)).map LTerm.t).take 3 = (ks.take (k + 1)).map LTerm.t := List.take_of_length_le (by simp; omega)
  have e2 : ((ks.take k).map LTerm.t).take 3 = (ks.take k).map LTerm.t := List.take_of_length_le (by simp; omega)
  rw [e1, e2, take_map14 ks k h, List.map_append]; rfl
theorem small14K_same {d : Nat} {ks : List LTerm} {k : Nat} (h : k < ks.length) (hk : ¬ (k < 3 ∧ 0 < d)) : small14K d ((ks.take (k + 1)).map LTerm.t) = small14K d ((ks.take k).map LTerm.t) := by
  cases d with
  | zero => rfl
  | succ d =>
    simp only [small14K]
    rw [take_map14 ks k h, List.take_append_of_le_length (by simp; omega)]
end Go.Proofs.YtmngicgdgpimlaaDoor
