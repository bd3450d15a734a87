/- The law RegressBack. -/
import Derived.Test.YtkpfhdojkffflaaPlainRegress
namespace Go.Proofs.Ytkpfhdojkffflaa
open Go Go.Wk
set_option synthInstance.maxSize 100000
set_option synthInstance.maxHeartbeats 400000
set_option maxRecDepth 100000

theorem sizex_c (t : LTerm) (w0 : World) (hf : Stable (fun _ => False) w0 (LtF t)) : Ret Try.prog 15 [vL t] w0 (fun _ => False) fun v _ => v = .int .i64 (sizeF t.t) := by
  refine enter Try.func15 rfl rfl (Wd.begin (fs := [LtF t]) (by simpa using hf)) (fun a S => ?_)
  simp only [Try.ntmps15, List.length_cons, List.length_nil, Nat.reduceAdd, Nat.reduceSub, List.replicate_succ, List.replicate_zero, List.cons_append, List.nil_append] at S
  refine c_seq ?_
  refine c_region ?_
  refine sa S ?_; clear S; intro b1 a w S
  refine sq S ?_; clear S; intro a S
  refine wl_nil ?_
  refine xtn ?_
  refine c_seq ?_
  refine c_region ?_
  refine sq S ?_; clear S; intro a S
  refine sc S ?_; clear S; intro a w S
  refine sq S ?_; clear S; intro a S
  refine wl_nil ?_
  refine xtn ?_
  refine c_ret ?_
  refine end1 S (fun _ => ?_)
  rfl
instance {t : LTerm} {bs fs} [HasT fs t] : CallV Try.prog 15 [vL t] bs fs (.int .i64 (sizeF t.t)) := ⟨fun w m => sizex_c t w (m.t0 _)⟩

theorem iter_add (D : Term → Term) (m n : Nat) (t : Term) : iter D m (iter D n t) = iter D (m + n) t := by
  induction m with
  | zero => simp [iter]
  | succ m ih => rw [Nat.succ_add, iter, iter, ih]
mutual
def nodes : Term → Nat
  | .mk _ _ _ _ ks => nodesL ks + 1
def nodesL : List Term → Nat
  | [] => 0
  | t :: ts => nodes t + nodesL ts
end
theorem nodes_step (t : Term) : nodes (stepF t) = nodes t + 3 := by
  simp [stepF, Term.hash, Term.pair, Term.text, nodes, nodesL]; omega
theorem nodes_iter (k : Nat) (t : Term) : nodes (iter stepF k t) = nodes t + 3 * k := by
  induction k with
  | zero => simp [iter]
  | succ k ih => rw [iter, nodes_step, ih]; omega
theorem iter_inj {k j : Nat} {t : Term} (h : iter stepF k t = iter stepF j t) : k = j := by
  have := congrArg nodes h
  rw [nodes_iter, nodes_iter] at this
  omega
theorem back_val {t : Term} {m n : Int} (hs : checkF t = 0) (h1 : 1 ≤ n) (h2 : n ≤ m) (h3 : m ≤ 8) : backF t m n = if checkF (iter stepF (m - n).toNat t) = 0 then (iter stepF (m - n).toNat t, 0) else (zeroT, 150) := by
  unfold backF
  rw [if_neg (by simp [hs]), if_neg (by simp [epochF]; omega)]
  split
  · rfl
  · rename_i h
    have : checkF (iter stepF (m - n).toNat t) = 150 := by
      unfold checkF at h ⊢; split <;> simp_all
    rw [this]
theorem back_law {t : Term} {m n : Int} (hs : sizeF t ≠ 0) (h1 : 1 ≤ n) (h2 : n ≤ m) (h3 : m ≤ 8) :
    ((backF t 8 m).2 = 0 ∨ (backF t 8 m).2 = 150) ∧ ((backF t 8 n).2 = 0 ∨ (backF t 8 n).2 = 150) ∧
    ((backF t 8 m).2 = 0 → (backF t 8 n).2 = 0 → (backF (backF t 8 m).1 m n).2 = 0 ∧ (backF (backF t 8 m).1 m n).1 = (backF t 8 n).1 ∧ ((backF t 8 m).1 = (backF t 8 n).1 ↔ m = n)) := by
  have hc : checkF t = 0 := by unfold checkF; rw [if_neg hs]
  rw [back_val hc (by omega) h3 (by omega), back_val hc h1 (by omega) (by omega)]
  refine ⟨by split <;> simp, by split <;> simp, ?_⟩
  by_cases c1 : checkF (iter stepF (8 - m).toNat t) = 0
  · by_cases c2 : checkF (iter stepF (8 - n).toNat t) = 0
    · rw [if_pos c1, if_pos c2]
      intro _ _
      show (backF (iter stepF (8 - m).toNat t) m n).2 = 0 ∧ (backF (iter stepF (8 - m).toNat t) m n).1 = iter stepF (8 - n).toNat t ∧ (iter stepF (8 - m).toNat t = iter stepF (8 - n).toNat t ↔ m = n)
      have e : iter stepF (m - n).toNat (iter stepF (8 - m).toNat t) = iter stepF (8 - n).toNat t := by
        rw [iter_add]; congr 1; omega
      rw [back_val c1 h1 h2 h3, e, if_pos c2]
      refine ⟨rfl, rfl, fun h => ?_, fun h => by rw [h]⟩
      have := iter_inj h
      omega
    · rw [if_neg c2]; intro _ h; cases h
  · rw [if_neg c1]; intro h; cases h

theorem mod8 (x : Int) : 1 ≤ (max x 0).tmod 8 + 1 ∧ (max x 0).tmod 8 + 1 ≤ 8 := by
  rw [Int.tmod_eq_emod_of_nonneg (by omega)]; omega

theorem backlaw_c (t : LTerm) (m0 n0 : Int) (w0 : World) (hf : Stable (fun _ => False) w0 (LtF t)) : Ret Try.prog 5 [vL t, .int .i64 m0, .int .i64 n0] w0 (fun _ => False) fun v _ => v = .bool true := by
  refine enter Try.func5 rfl rfl (Wd.begin (fs := [LtF t]) (by simpa using hf)) (fun a S => ?_)
  simp only [Try.ntmps5, List.length_cons, List.length_nil, Nat.reduceAdd, Nat.reduceSub, List.replicate_succ, List.replicate_zero, List.cons_append, List.nil_append] at S
  refine c_seq ?_
  refine c_region ?_
  refine sa S ?_; clear S; intro b3 a w S
  refine sq S ?_; clear S; intro a S
  refine wl_nil ?_
  refine xtn ?_
  iterate 2 (refine c_seq ?_)
  refine c_region ?_
  refine sr S (wakes_c w) ?_; clear S; rintro _ a w rfl S
  refine sq S ?_; clear S; intro a S
  rw [show (!true) = false from rfl] at S
  refine wl_nil ?_
  refine xtn ?_
  refine c_condF S ?_
  refine c_skip ?_
  refine xtn ?_
  iterate 2 (refine c_seq ?_)
  refine c_region ?_
  refine sq S ?_; clear S; intro a S
  refine sc S ?_; clear S; intro a w S
  refine sq S ?_; clear S; intro a S
  refine gQ S ?_; clear S; intro a S
  refine gC S ?_; clear S; intro a w S
  refine gQ S ?_; clear S; intro a S
  iterate 2 (refine sq S ?_; clear S; intro a S)
  refine gQ S ?_; clear S; intro a S
  refine gC S ?_; clear S; intro a w S
  refine gQ S ?_; clear S; intro a S
  refine sq S ?_; clear S; intro a S
  refine wl_nil ?_
  refine xtn ?_
  refine c_cond S (fun h3 => ?_) (fun h3 => ?_)
  · refine c_seq ?_
    refine c_region ?_
    refine sq S ?_; clear S; intro a S
    refine wl_nil ?_
    refine xtn ?_
    refine c_ret ?_
    refine xtr ?_
    refine end1 S (fun _ => rfl)
  · refine c_skip ?_
    refine xtn ?_
    refine c_seq ?_
    refine c_region ?_
    iterate 4 (refine sq S ?_; clear S; intro a S)
    have hm8 := mod8 m0
    rw [w64 ((max m0 0).tmod 8 + 1) (by omega) (by omega)] at S
    generalize (max m0 0).tmod 8 + 1 = m at S hm8
    iterate 4 (refine sq S ?_; clear S; intro a S)
    have hn8 := mod8 n0
    rw [w64 ((max n0 0).tmod 8 + 1) (by omega) (by omega)] at S
    generalize (max n0 0).tmod 8 + 1 = n at S hn8
    iterate 2 (refine sq S ?_; clear S; intro a S)
    refine wl_nil ?_
    refine xtn ?_
    iterate 2 (refine c_seq ?_)
    refine c_region ?_
    iterate 3 (refine sq S ?_; clear S; intro a S)
    refine wl_nil ?_
    refine xtn ?_
    refine c_cond S (fun h6 => ?_) (fun h6 => ?_)
    · refine c_region ?_
      iterate 4 (refine sq S ?_; clear S; intro a S)
      refine wl_nil ?_
      refine xtn ?_
      refine c_seq ?_
      refine c_region ?_
      iterate 2 (refine sq S ?_; clear S; intro a S)
      refine sr S (state_c t _ _ w (foots_lt S) (S.t _)) ?_; clear S; rintro _ a w ⟨r1, rfl, hr1, hf1⟩ S
      replace S := S.add hf1
      iterate 3 (refine sq S ?_; clear S; intro a S)
      refine sa S ?_; clear S; intro b7 a w S
      refine sw S ?_; clear S; intro a w S
      refine sq S ?_; clear S; intro a S
      refine wl_nil ?_
      refine xtn ?_
      refine c_seq ?_
      refine c_region ?_
      iterate 2 (refine sq S ?_; clear S; intro a S)
      refine sr S (state_c t _ _ w (foots_lt S) (S.t _)) ?_; clear S; rintro _ a w ⟨r2, rfl, hr2, hf2⟩ S
      replace S := S.add hf2
      iterate 3 (refine sq S ?_; clear S; intro a S)
      refine sa S ?_; clear S; intro b9 a w S
      refine sw S ?_; clear S; intro a w S
      refine sq S ?_; clear S; intro a S
      refine wl_nil ?_
      refine xtn ?_
      iterate 2 (refine c_seq ?_)
      refine c_region ?_
      iterate 3 (refine sq S ?_; clear S; intro a S)
      iterate 2 (refine gQ S ?_; clear S; intro a S)
      refine sq S ?_; clear S; intro a S
      refine wl_nil ?_
      refine xtn ?_
      refine c_cond S (fun h10 => ?_) (fun h10 => ?_)
      · refine c_seq ?_
        refine c_region ?_
        iterate 3 (refine sq S ?_; clear S; intro a S)
        iterate 2 (refine gQ S ?_; clear S; intro a S)
        iterate 2 (refine sq S ?_; clear S; intro a S)
        refine wl_nil ?_
        refine xtn ?_
        refine c_ret ?_
        refine xtr ?_
        refine end1 S (fun _ => ?_)
        have hs : sizeF t.t ≠ 0 := by simp at h3; exact h3.1.2
        have hmn : m ≤ n := by simp at h6; omega
        have hb := back_law (t := t.t) (m := n) (n := m) hs (by omega) hmn (by omega)
        rcases hb.1 with e1 | e1 <;> rcases hb.2.1 with e2 | e2 <;> simp [e1, e2] at h10 ⊢
      · refine c_skip ?_
        refine xtn ?_
        refine c_seq ?_
        refine c_region ?_
        iterate 3 (refine sq S ?_; clear S; intro a S)
        refine sr S (back_c r1 _ _ _ w (foots_lt S) (S.t _)) ?_; clear S; rintro _ a w ⟨r3, rfl, hr3, hf3⟩ S
        replace S := S.add hf3
        iterate 3 (refine sq S ?_; clear S; intro a S)
        refine sa S ?_; clear S; intro b11 a w S
        refine sw S ?_; clear S; intro a w S
        refine sq S ?_; clear S; intro a S
        refine wl_nil ?_
        refine xtn ?_
        refine c_seq ?_
        refine c_region ?_
        iterate 3 (refine sq S ?_; clear S; intro a S)
        iterate 2 (refine gQ S ?_; clear S; intro a S)
        refine gC S ?_; clear S; intro a w S
        iterate 2 (refine sq S ?_; clear S; intro a S)
        iterate 5 (refine gQ S ?_; clear S; intro a S)
        refine gC S ?_; clear S; intro a w S
        refine gQ S ?_; clear S; intro a S
        iterate 2 (refine sq S ?_; clear S; intro a S)
        refine wl_nil ?_
        refine xtn ?_
        refine c_ret ?_
        refine end1 S (fun _ => ?_)
        have hs : sizeF t.t ≠ 0 := by simp at h3; exact h3.1.2
        have hmn : m ≤ n := by simp at h6; omega
        have hb := back_law (t := t.t) (m := n) (n := m) hs (by omega) hmn (by omega)
        have h11 : (backF t.t 8 n).2 = 0 ∧ (backF t.t 8 m).2 = 0 := by simpa using h10
        obtain ⟨b1, b2, b3⟩ := hb.2.2 h11.1 h11.2
        rw [← hr1] at b1 b2 b3
        have e1 : sameF r2.t r3.t = true := (sameF_iff _ _).2 (by rw [hr2, hr3, b2])
        have e2 : sameF r1.t r2.t = decide (n = m) := by
          rw [Bool.eq_iff_iff, sameF_iff, hr2]; simpa using b3
        simp [b1, e1, e2]
    · refine c_skip ?_
      refine xtn ?_
      refine c_seq ?_
      refine c_region ?_
      iterate 2 (refine sq S ?_; clear S; intro a S)
      refine sr S (state_c t _ _ w (foots_lt S) (S.t _)) ?_; clear S; rintro _ a w ⟨r1, rfl, hr1, hf1⟩ S
      replace S := S.add hf1
      iterate 3 (refine sq S ?_; clear S; intro a S)
      refine sa S ?_; clear S; intro b7 a w S
      refine sw S ?_; clear S; intro a w S
      refine sq S ?_; clear S; intro a S
      refine wl_nil ?_
      refine xtn ?_
      refine c_seq ?_
      refine c_region ?_
      iterate 2 (refine sq S ?_; clear S; intro a S)
      refine sr S (state_c t _ _ w (foots_lt S) (S.t _)) ?_; clear S; rintro _ a w ⟨r2, rfl, hr2, hf2⟩ S
      replace S := S.add hf2
      iterate 3 (refine sq S ?_; clear S; intro a S)
      refine sa S ?_; clear S; intro b9 a w S
      refine sw S ?_; clear S; intro a w S
      refine sq S ?_; clear S; intro a S
      refine wl_nil ?_
      refine xtn ?_
      iterate 2 (refine c_seq ?_)
      refine c_region ?_
      iterate 3 (refine sq S ?_; clear S; intro a S)
      iterate 2 (refine gQ S ?_; clear S; intro a S)
      refine sq S ?_; clear S; intro a S
      refine wl_nil ?_
      refine xtn ?_
      refine c_cond S (fun h10 => ?_) (fun h10 => ?_)
      · refine c_seq ?_
        refine c_region ?_
        iterate 3 (refine sq S ?_; clear S; intro a S)
        iterate 2 (refine gQ S ?_; clear S; intro a S)
        iterate 2 (refine sq S ?_; clear S; intro a S)
        refine wl_nil ?_
        refine xtn ?_
        refine c_ret ?_
        refine xtr ?_
        refine end1 S (fun _ => ?_)
        have hs : sizeF t.t ≠ 0 := by simp at h3; exact h3.1.2
        have hmn : n ≤ m := by simp at h6; omega
        have hb := back_law (t := t.t) (m := m) (n := n) hs (by omega) hmn (by omega)
        rcases hb.1 with e1 | e1 <;> rcases hb.2.1 with e2 | e2 <;> simp [e1, e2] at h10 ⊢
      · refine c_skip ?_
        refine xtn ?_
        refine c_seq ?_
        refine c_region ?_
        iterate 3 (refine sq S ?_; clear S; intro a S)
        refine sr S (back_c r1 _ _ _ w (foots_lt S) (S.t _)) ?_; clear S; rintro _ a w ⟨r3, rfl, hr3, hf3⟩ S
        replace S := S.add hf3
        iterate 3 (refine sq S ?_; clear S; intro a S)
        refine sa S ?_; clear S; intro b11 a w S
        refine sw S ?_; clear S; intro a w S
        refine sq S ?_; clear S; intro a S
        refine wl_nil ?_
        refine xtn ?_
        refine c_seq ?_
        refine c_region ?_
        iterate 3 (refine sq S ?_; clear S; intro a S)
        iterate 2 (refine gQ S ?_; clear S; intro a S)
        refine gC S ?_; clear S; intro a w S
        iterate 2 (refine sq S ?_; clear S; intro a S)
        iterate 5 (refine gQ S ?_; clear S; intro a S)
        refine gC S ?_; clear S; intro a w S
        refine gQ S ?_; clear S; intro a S
        iterate 2 (refine sq S ?_; clear S; intro a S)
        refine wl_nil ?_
        refine xtn ?_
        refine c_ret ?_
        refine end1 S (fun _ => ?_)
        have hs : sizeF t.t ≠ 0 := by simp at h3; exact h3.1.2
        have hmn : n ≤ m := by simp at h6; omega
        have hb := back_law (t := t.t) (m := m) (n := n) hs (by omega) hmn (by omega)
        have h11 : (backF t.t 8 m).2 = 0 ∧ (backF t.t 8 n).2 = 0 := by simpa using h10
        obtain ⟨b1, b2, b3⟩ := hb.2.2 h11.1 h11.2
        rw [← hr1] at b1 b2 b3
        have e1 : sameF r2.t r3.t = true := (sameF_iff _ _).2 (by rw [hr2, hr3, b2])
        have e2 : sameF r1.t r2.t = decide (m = n) := by
          rw [Bool.eq_iff_iff, sameF_iff, hr2]; simpa using b3
        simp [b1, e1, e2]
end Go.Proofs.Ytkpfhdojkffflaa
