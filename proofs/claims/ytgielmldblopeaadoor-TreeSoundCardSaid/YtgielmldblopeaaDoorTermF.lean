/- Package term: Encode; package close: name. -/
import Derived.Test.YtgielmldblopeaaDoorTermE
namespace Go.Proofs.YtgielmldblopeaaDoor
open Go Go.Wk
set_option synthInstance.maxSize 100000
set_option synthInstance.maxHeartbeats 400000
set_option maxRecDepth 100000

theorem head_le {k u n : Int} {s : List UInt8} {m : Nat} (h : plainF k u n s m = true) : (headF k u n s).length ≤ 69 := by
  have h1 : s.length ≤ 64 := by
    simp only [plainF, Bool.and_eq_true, decide_eq_true_eq] at h
    omega
  have h2 : (put1 k s).length ≤ 65 := by unfold put1; split <;> simp <;> omega
  have h3 : (put2 k u).length ≤ 1 := by unfold put2; split <;> simp
  have h4 : (put4 k n).length ≤ 2 := by unfold put4; split <;> simp [be]
  simp only [headF, List.length_append, List.length_singleton]
  omega
mutual
theorem bytes_le : ∀ (t : Term) (deep left : Int), (walkF t deep left).1 = true → ((bytesF t).length : Int) ≤ 70 * (left - (walkF t deep left).2)
  | .mk k u n s ks, deep, left => by
    intro h
    rw [walkF] at h ⊢
    split at h
    · simp at h
    · rename_i hc
      rw [if_neg hc]
      have hp : plainF k u n s ks.length = true := by
        cases hb : plainF k u n s ks.length with
        | true => rfl
        | false => exact absurd (.inr (.inr hb)) hc
      have h1 := head_le hp
      have h2 := bytesL_le ks (deep + 1) (left - 1) h
      rw [bytesF, List.length_append]
      omega
theorem bytesL_le : ∀ (ts : List Term) (deep left : Int), (walkLF ts deep left).1 = true → ((bytesLF ts).length : Int) ≤ 70 * (left - (walkLF ts deep left).2)
  | [], deep, left => by intro _; simp [bytesLF, walkLF]
  | t :: ts, deep, left => by
    intro h
    rw [walkLF] at h ⊢
    split at h
    · rename_i hc
      rw [if_pos hc]
      have h1 := bytes_le t deep left hc
      have h2 := bytesL_le ts deep _ h
      rw [bytesLF, List.length_append]
      omega
    · simp at h
end
theorem bytes_small {t : Term} (h : sizeF t ≠ 0) : (bytesF t).length ≤ 84000 := by
  unfold sizeF at h
  split at h
  · rename_i hc
    have h1 := bytes_le t 1 1200 hc
    have h2 := walkF_ge t 1 1200 (by omega) hc
    omega
  · exact absurd rfl h
/-- a term's bytes; none, if it may not be. -/
def nameF (t : Term) : List UInt8 := if sizeF t = 0 then [] else bytesF t
theorem encode_c (t : LTerm) (w0 : World) (hf : Stable (fun _ => False) w0 (LtF t)) : Ret Tryd.prog 122 [vL t] w0 (fun _ => False) fun v w' =>
    ∃ p c, v = .tuple ⟨[.slice p (nameF t.t).length c, .int .i64 (checkF t.t)]⟩ ∧ w'.ownsRow 0 5 1 (.slice p (nameF t.t).length c) (nameF t.t).length (encL (nameF t.t)) ∧ ∀ ad, p = some ad → w0.heap.size ≤ ad.block := by
  refine enter Tryd.func122 rfl rfl (Wd.begin (fs := [LtF t]) (by simpa using hf)) (fun a S => ?_)
  simp only [Tryd.ntmps122, List.length_cons, List.length_nil, Nat.reduceAdd, Nat.reduceSub, List.replicate_succ, List.replicate_zero, List.cons_append, List.nil_append] at S
  refine c_seq ?_
  refine c_region ?_
  refine sa S ?_; clear S; intro b1 a w S
  iterate 2 (refine sq S ?_; clear S; intro a S)
  refine wl_nil ?_
  refine xtn ?_
  iterate 2 (refine c_seq ?_)
  refine c_region ?_
  refine sq S ?_; clear S; intro a S
  refine sc S ?_; clear S; intro a w S
  refine sq S ?_; clear S; intro a S
  refine wl_nil ?_
  refine xtn ?_
  refine c_cond S (fun h1 => ?_) (fun h1 => ?_)
  · refine c_seq ?_
    refine c_region ?_
    iterate 2 (refine sq S ?_; clear S; intro a S)
    refine wl_nil ?_
    refine xtn ?_
    refine c_ret ?_
    refine xtr ?_
    have hz : sizeF t.t = 0 := by simpa using h1
    have e1 : nameF t.t = [] := by rw [nameF, if_pos hz]
    have e2 : checkF t.t = 150 := by rw [checkF, if_pos hz]
    refine end2 S (fun _ => ?_)
    rw [e1, e2]
    exact ⟨none, 0, rfl, World.ownsRow_nil _ _ _ _, fun _ h => by cases h⟩
  · refine c_skip ?_
    refine xtn ?_
    refine c_seq ?_
    refine c_region ?_
    refine sq S ?_; clear S; intro a S
    have hz : sizeF t.t ≠ 0 := by simpa using h1
    have hsm := bytes_small hz
    have e1 : nameF t.t = bytesF t.t := by rw [nameF, if_neg hz]
    have e2 : checkF t.t = 0 := by rw [checkF, if_neg hz]
    replace S := S.addNil 5 1
    refine srg none 0 S (put_c _ t none 0 0 [] w (Nat.le_refl _) rfl (by omega) (S.row none 0) ((S.t t).less fun _ _ ⟨_, h, _⟩ => by cases h)) ?_; clear S; rintro _ a w ⟨p2, c2, rfl, hown2, hnew2⟩ hS
    have S := hS _ hown2 hnew2
    clear hS
    rw [List.nil_append] at S
    iterate 2 (refine sq S ?_; clear S; intro a S)
    refine wl_nil ?_
    refine xtn ?_
    refine c_ret ?_
    have hrow := S.row p2 (bytesF t.t).length
    have hnew := S.rowNew p2 (bytesF t.t).length
    refine end2 S (fun _ => ?_)
    rw [e1, e2]
    exact ⟨p2, c2, rfl, hrow, fun ad h => (hnew ad h).elim (fun h => h.elim) id⟩
end Go.Proofs.YtgielmldblopeaaDoor
