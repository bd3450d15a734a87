/- Package term: Encode; package close: name. -/
import Derived.Test.YtmngicgdgpimlaaDoorTermE
namespace Go.Proofs.YtmngicgdgpimlaaDoor
open Go Go.Wk
set_option synthInstance.maxSize 100000
set_option synthInstance.maxHeartbeats 400000
set_option maxRecDepth 100000

theorem head_le {k u n : Int} {s : List UInt8} {m : Nat} (h : plainF k u n s m = true) : (headF k u n s).length ≤ 69 := by
  have h1 : s.length ≤ 64 := by
    simp only [plainF, Bool.and_eq_true, decide_eq_true_eq] at h
    omega
  have h2 : (put1 k s).length ≤ 65 := by unfold put1; split <;> simp <;> omega
  have h3 : (put2 k u).length ≤ 1 := by unfold put2; split <;> simp
  have h4 : (put4 k n).length ≤ 2 := by unfold put4; split <;> simp [be]
  simp only [headF, List.length_append, List.length_singleton]
  omega
mutual
theorem bytes_le : ∀ (t : Term) (deep left : Int), (walkF t deep left).1 = true → ((bytesF t).length : Int) ≤ 70 * (left - (walkF t deep left).2)
  | .mk k u n s ks, deep, left => by
    intro h
    rw [walkF] at h ⊢
    split at h
    · simp at h
    · rename_i hc
      rw [if_neg hc]
      have hp : plainF k u n s ks.length = true := by
        cases hb : plainF k u n s ks.length with
        | true => rfl
        | false => exact absurd (.inr (.inr hb)) hc
      have h1 := head_le hp
      have h2 := bytesL_le ks (deep + 1) (left - 1) h
      rw [bytesF, List.length_append]
      omega
theorem bytesL_le : ∀ (ts : List Term) (deep left : Int), (walkLF ts deep left).1 = true → ((bytesLF ts).length : Int) ≤ 70 * (left - (walkLF ts deep left).2)
  | [], deep, left => by intro _; simp [bytesLF, walkLF]
  | t :: ts, deep, left => by
    intro h
    rw [walkLF] at h ⊢
    split at h
    · rename_i hc
      rw [if_pos hc]
      have h1 := bytes_le t deep left hc
      have h2 := bytesL_le ts deep _ h
      rw [bytesLF, List.length_append]
      omega
    · simp at h
end
theorem bytes_small {t : Term} (h : sizeF t ≠ 0) : (bytesF t).length ≤ 84000 := by
  unfold sizeF at h
  split at h
  · rename_i hc
    have h1 := bytes_le t 1 1200 hc
    have h2 := walkF_ge t 1 1200 (by omega) hc
    omega
  · exact absurd rfl h
/-- a term's bytes; none, if it may not be. -/
def nameF (t : Term) : List UInt8 := if sizeF t = 0 then [] else bytesF t
end Go.Proofs.YtmngicgdgpimlaaDoor
