/- Package regress. -/
import Derived.Test.YtkpfhdojkffflaaTermD
namespace Go.Proofs.Ytkpfhdojkffflaa
open Go Go.Wk
set_option synthInstance.maxSize 100000
set_option synthInstance.maxHeartbeats 400000
set_option maxRecDepth 100000

def stateS : List UInt8 := [115, 116, 97, 116, 101]
def keyS : List UInt8 := [107, 101, 121]
def stepF (t : Term) : Term := .hash (.pair (.text stateS) t)
def lastF (t : Term) : Term := .hash (.pair (.text keyS) t)

theorem step_c (t : LTerm) (M : Nat → Prop) (w0 : World) (hM : ∀ k, M k → k < w0.heap.size) (hf : Stable M w0 (LtF t)) : Ret Try.prog 28 [vL t] w0 (fun _ => False) fun v w' => IsT M w' v (stepF t.t) := by
  refine enter Try.func28 rfl rfl (Wd.beginM (M := M) (fs := [LtF t]) hM (by simpa using hf)) (fun a S => ?_)
  simp only [Try.ntmps28, List.length_cons, List.length_nil, Nat.reduceAdd, Nat.reduceSub, List.replicate_succ, List.replicate_zero, List.cons_append, List.nil_append] at S
  refine c_seq ?_
  refine c_region ?_
  refine sa S ?_; clear S; intro b1 a w S
  refine sa S ?_; clear S; intro b2 a w S
  refine wl_nil ?_
  refine xtn ?_
  refine c_seq ?_
  refine c_drawD [(1, true), (0, false), (2, false), (3, false), (4, false)] [b2] S ?_; clear S; intro w S
  refine dq S ?_; clear S; intro a S
  refine dl ?_
  refine sc S ?_; clear S; intro a w S
  refine de S ?_
  refine dl ?_
  refine sr S (pair_c (textL stateS) t _ w (foots_lt S) (fun w _ => textL_in w _) (S.fact (by simp))) ?_; clear S; rintro _ a w ⟨p, rfl, hp, hfp⟩ S
  replace S := S.add hfp
  refine de S ?_
  refine dl ?_
  refine sr S (hash_c p _ w (foots_lt S) (S.fact (by simp))) ?_; clear S; rintro _ a w ⟨h, rfl, hh, hfh⟩ S
  replace S := S.add hfh
  refine de S ?_
  refine dl ?_
  refine sw S ?_; clear S; intro a w S
  refine de S ?_
  refine dn ?_
  refine xtn ?_
  refine c_ret ?_
  refine end1 S (fun _ => ⟨h, rfl, ?_, S.laterFact (by simp)⟩)
  rw [hh, hp]; rfl
theorem last_c (t : LTerm) (M : Nat → Prop) (w0 : World) (hM : ∀ k, M k → k < w0.heap.size) (hf : Stable M w0 (LtF t)) : Ret Try.prog 29 [vL t] w0 (fun _ => False) fun v w' => IsT M w' v (lastF t.t) := by
  refine enter Try.func29 rfl rfl (Wd.beginM (M := M) (fs := [LtF t]) hM (by simpa using hf)) (fun a S => ?_)
  simp only [Try.ntmps29, List.length_cons, List.length_nil, Nat.reduceAdd, Nat.reduceSub, List.replicate_succ, List.replicate_zero, List.cons_append, List.nil_append] at S
  refine c_seq ?_
  refine c_region ?_
  refine sa S ?_; clear S; intro b1 a w S
  refine sa S ?_; clear S; intro b2 a w S
  refine wl_nil ?_
  refine xtn ?_
  refine c_seq ?_
  refine c_drawD [(1, true), (0, false), (2, false), (3, false), (4, false)] [b2] S ?_; clear S; intro w S
  refine dq S ?_; clear S; intro a S
  refine dl ?_
  refine sc S ?_; clear S; intro a w S
  refine de S ?_
  refine dl ?_
  refine sr S (pair_c (textL keyS) t _ w (foots_lt S) (fun w _ => textL_in w _) (S.fact (by simp))) ?_; clear S; rintro _ a w ⟨p, rfl, hp, hfp⟩ S
  replace S := S.add hfp
  refine de S ?_
  refine dl ?_
  refine sr S (hash_c p _ w (foots_lt S) (S.fact (by simp))) ?_; clear S; rintro _ a w ⟨h, rfl, hh, hfh⟩ S
  replace S := S.add hfh
  refine de S ?_
  refine dl ?_
  refine sw S ?_; clear S; intro a w S
  refine de S ?_
  refine dn ?_
  refine xtn ?_
  refine c_ret ?_
  refine end1 S (fun _ => ⟨h, rfl, ?_, S.laterFact (by simp)⟩)
  rw [hh, hp]; rfl

theorem times_c (f : Nat) [EntF Try.prog f] (D : Term → Term) (hD : ∀ (t : LTerm) (M : Nat → Prop) (w : World), (∀ k, M k → k < w.heap.size) → Stable M w (LtF t) → Ret Try.prog f [vL t] w (fun _ => False) fun v w' => IsT M w' v (D t.t))
    (t : LTerm) (n : Nat) (M : Nat → Prop) (w0 : World) (hn : n ≤ 8) (hM : ∀ k, M k → k < w0.heap.size) (hf : Stable M w0 (LtF t)) : Ret Try.prog 27 [vL t, .int .i64 n, .func (.func f) #[] #[]] w0 (fun _ => False) fun v w' => TE M w' v (if checkF (iter D n t.t) = 0 then iter D n t.t else zeroT) (checkF (iter D n t.t)) := by
  refine enter Try.func27 rfl rfl (Wd.beginM (M := M) (fs := [LtF t]) hM (by simpa using hf)) (fun a S => ?_)
  simp only [Try.ntmps27, List.length_cons, List.length_nil, Nat.reduceAdd, Nat.reduceSub, List.replicate_succ, List.replicate_zero, List.cons_append, List.nil_append] at S
  refine c_seq ?_
  refine c_region ?_
  refine sa S ?_; clear S; intro b3 a w S
  refine sa S ?_; clear S; intro b6 a w S
  refine sq S ?_; clear S; intro a S
  refine wl_nil ?_
  refine xtn ?_
  iterate 2 (refine c_seq ?_)
  refine c_region ?_
  iterate 2 (refine sq S ?_; clear S; intro a S)
  refine wl_nil ?_
  refine xtn ?_
  refine c_block ?_
  refine c_loop (ι := Nat) (fun k a w => k ≤ n ∧ ∃ r : LTerm, r.t = iter D k t.t ∧ ∃ uu : Nat → Value,  St w0 (fun _ => False) [] a w ((vL t) :: (.int .i64 n) :: (.func (.func f) #[] #[]) :: (.pointer (some ⟨b3, 0, none⟩)) :: uu 4 :: uu 5 :: (.pointer (some ⟨b6, 0, none⟩)) :: (.int .i64 0) :: (.int .i64 n) :: (.int .i64 (k : Nat)) :: uu 10 :: uu 11 :: uu 12 :: uu 13 :: uu 14 :: uu 15 :: uu 16 :: uu 17 :: uu 18 :: uu 19 :: uu 20 :: uu 21 :: []) [box b6 24 [.int .i64 0, .int .i64 0, .int .i64 0, str [], .slice none 0 0], box b3 24 r.cells, ext M] [LtF r]) (fun k => n - k) 0 ?_ ?_
  · exact ⟨Nat.zero_le _, t, rfl, S.uu, S⟩
  · clear S
    rintro k a w ⟨hk, r, hr, uu, S⟩
    refine c_seq ?_
    refine c_region ?_
    refine sq S ?_; clear S; intro a S
    refine wl_nil ?_
    refine xtn ?_
    refine c_seq ?_
    refine c_cond S (fun h2 => ?_) (fun h2 => ?_)
    · refine c_skip ?_
      refine xtn ?_
      refine c_seq ?_
      refine c_block ?_
      refine c_region ?_
      iterate 2 (refine sq S ?_; clear S; intro a S)
      refine sr S (hD r _ w (foots_lt S) (S.fact (by simp))) ?_; clear S; rintro _ a w ⟨r', rfl, hr', hf'⟩ S
      replace S := S.add hf'
      refine sw S ?_; clear S; intro a w S
      refine wl_nil ?_
      refine xbn ?_
      refine xtn ?_
      refine c_region ?_
      iterate 2 (refine sq S ?_; clear S; intro a S)
      refine wl_nil ?_
      refine xtn ?_
      have hkl : k < n := by simpa using h2
      rw [w64 ((k : Int) + 1) (by omega) (by omega)] at S
      replace S := S.sub _ [LtF r'] (hb := subLr)
      exact ⟨k + 1, ⟨hkl, r', by rw [hr', hr, iter], S.uu, S⟩, by omega⟩
    · refine c_exit ?_
      iterate 2 (refine xte ?_)
      refine xbe ?_
      refine xtn ?_
      iterate 2 (refine c_seq ?_)
      refine c_region ?_
      obtain rfl : k = n := by simp at h2; omega
      refine sq S ?_; clear S; intro a S
      refine sc S ?_; clear S; intro a w S
      refine sq S ?_; clear S; intro a S
      refine wl_nil ?_
      refine xtn ?_
      refine c_seq ?_
      refine c_region ?_
      iterate 2 (refine sq S ?_; clear S; intro a S)
      refine wl_nil ?_
      refine xtn ?_
      refine c_cond S (fun h6 => ?_) (fun h6 => ?_)
      · refine c_region ?_
        refine sq S ?_; clear S; intro a S
        refine sw S ?_; clear S; intro a w S
        refine wl_nil ?_
        refine xtn ?_
        refine c_seq ?_
        refine c_region ?_
        iterate 2 (refine sq S ?_; clear S; intro a S)
        refine sw S ?_; clear S; intro a w S
        refine sq S ?_; clear S; intro a S
        refine wl_nil ?_
        refine xtn ?_
        refine c_ret ?_
        refine end2 S (fun _ => ?_)
        have h7 : checkF r.t = 0 := by simpa using h6
        rw [hr] at h7
        exact ⟨r, by rw [hr] <;> rfl, by rw [if_pos h7, hr], S.laterFact (by simp)⟩
      · refine c_skip ?_
        refine xtn ?_
        refine c_seq ?_
        refine c_region ?_
        iterate 2 (refine sq S ?_; clear S; intro a S)
        refine sw S ?_; clear S; intro a w S
        refine sq S ?_; clear S; intro a S
        refine wl_nil ?_
        refine xtn ?_
        refine c_ret ?_
        refine end2 S (fun _ => ?_)
        have h7 : ¬ checkF r.t = 0 := by simpa using h6
        rw [hr] at h7
        exact ⟨zeroL, by rw [hr] <;> rfl, by rw [if_neg h7] <;> rfl, fun w _ => zeroL_in w⟩
def epochF (n : Int) : Bool := decide (1 ≤ n) && decide (n ≤ 8)
theorem epoch_c (n : Int) (w : World) : Ret Try.prog 26 [.int .i64 n] w (fun _ => False) fun v _ => v = .bool (epochF n) := by
  refine enter Try.func26 rfl rfl (Wd.start w) (fun a S => ?_)
  simp only [Try.ntmps26, List.length_cons, List.length_nil, Nat.reduceAdd, Nat.reduceSub, List.replicate_succ, List.replicate_zero, List.cons_append, List.nil_append] at S
  refine c_seq ?_
  refine c_region ?_
  refine sq S ?_; clear S; intro a S
  refine wl_nil ?_
  refine xtn ?_
  refine c_seq ?_
  refine c_region ?_
  iterate 3 (refine sq S ?_; clear S; intro a S)
  iterate 2 (refine gQ S ?_; clear S; intro a S)
  iterate 2 (refine sq S ?_; clear S; intro a S)
  refine wl_nil ?_
  refine xtn ?_
  refine c_ret ?_
  refine end1 S (fun _ => ?_)
  rfl
instance {n : Int} {bs fs} : CallV Try.prog 26 [.int .i64 n] bs fs (.bool (epochF n)) := ⟨fun w _ => epoch_c n w⟩

def backF (t : Term) (m n : Int) : Term × Int :=
  if checkF t ≠ 0 then (zeroT, 150)
  else if epochF m = false ∨ epochF n = false ∨ m < n then (zeroT, 2)
  else if checkF (iter stepF (m - n).toNat t) = 0 then (iter stepF (m - n).toNat t, 0) else (zeroT, checkF (iter stepF (m - n).toNat t))
theorem back_c (t : LTerm) (m n : Int) (M : Nat → Prop) (w0 : World) (hM : ∀ k, M k → k < w0.heap.size) (hf : Stable M w0 (LtF t)) : Ret Try.prog 11 [vL t, .int .i64 m, .int .i64 n] w0 (fun _ => False) fun v w' => TE M w' v (backF t.t m n).1 (backF t.t m n).2 := by
  refine enter Try.func11 rfl rfl (Wd.beginM (M := M) (fs := [LtF t]) hM (by simpa using hf)) (fun a S => ?_)
  simp only [Try.ntmps11, List.length_cons, List.length_nil, Nat.reduceAdd, Nat.reduceSub, List.replicate_succ, List.replicate_zero, List.cons_append, List.nil_append] at S
  refine c_seq ?_
  refine c_region ?_
  refine sa S ?_; clear S; intro b3 a w S
  refine sa S ?_; clear S; intro b6 a w S
  refine sq S ?_; clear S; intro a S
  refine wl_nil ?_
  refine xtn ?_
  refine c_seq ?_
  refine c_block ?_
  refine c_seq ?_
  refine c_region ?_
  refine sq S ?_; clear S; intro a S
  refine sc S ?_; clear S; intro a w S
  iterate 2 (refine sq S ?_; clear S; intro a S)
  refine wl_nil ?_
  refine xtn ?_
  refine c_cond S (fun h1 => ?_) (fun h1 => ?_)
  · refine c_seq ?_
    refine c_region ?_
    refine sq S ?_; clear S; intro a S
    refine sw S ?_; clear S; intro a w S
    refine sq S ?_; clear S; intro a S
    refine wl_nil ?_
    refine xtn ?_
    refine c_ret ?_
    refine xbr ?_
    refine xtr ?_
    refine end2 S (fun _ => ?_)
    have h2 : checkF t.t ≠ 0 := by simpa using h1
    have e : backF t.t m n = (zeroT, 150) := by unfold backF; rw [if_pos h2]
    exact ⟨zeroL, by rw [e] <;> rfl, by rw [e] <;> rfl, fun w _ => zeroL_in w⟩
  · refine c_seq ?_
    refine c_region ?_
    refine sq S ?_; clear S; intro a S
    refine sc S ?_; clear S; intro a w S
    iterate 2 (refine sq S ?_; clear S; intro a S)
    refine gQ S ?_; clear S; intro a S
    refine gC S ?_; clear S; intro a w S
    refine gQ S ?_; clear S; intro a S
    iterate 2 (refine sq S ?_; clear S; intro a S)
    iterate 3 (refine gQ S ?_; clear S; intro a S)
    iterate 2 (refine sq S ?_; clear S; intro a S)
    refine wl_nil ?_
    refine xtn ?_
    refine c_cond S (fun h3 => ?_) (fun h3 => ?_)
    · refine c_seq ?_
      refine c_region ?_
      refine sq S ?_; clear S; intro a S
      refine sw S ?_; clear S; intro a w S
      refine sq S ?_; clear S; intro a S
      refine wl_nil ?_
      refine xtn ?_
      refine c_ret ?_
      refine xbr ?_
      refine xtr ?_
      refine end2 S (fun _ => ?_)
      have h2 : ¬ checkF t.t ≠ 0 := by simpa using h1
      have h4 : epochF m = false ∨ epochF n = false ∨ m < n := by simpa [or_assoc] using h3
      have e : backF t.t m n = (zeroT, 2) := by unfold backF; rw [if_neg h2, if_pos h4]
      exact ⟨zeroL, by rw [e] <;> rfl, by rw [e] <;> rfl, fun w _ => zeroL_in w⟩
    · refine c_skip ?_
      refine xbn ?_
      refine xtn ?_
      refine c_seq ?_
      refine c_region ?_
      iterate 3 (refine sq S ?_; clear S; intro a S)
      have h2 : ¬ checkF t.t ≠ 0 := by simpa using h1
      have h4 : ¬ (epochF m = false ∨ epochF n = false ∨ m < n) := by simpa [and_assoc] using h3
      have h5 : 1 ≤ n ∧ n ≤ m ∧ m ≤ 8 := by simp [epochF] at h4; omega
      refine sq S ?_; clear S; intro a S
      rw [w64 (m - n) (by omega) (by omega), show m - n = ((m - n).toNat : Int) from by omega] at S
      refine sr S (times_c 28 stepF (fun t M w hM hf => step_c t M w hM hf) t (m - n).toNat _ w (by omega) (foots_lt S) (S.fact (by simp))) ?_; clear S; rintro _ a w ⟨r, rfl, hr, hfr⟩ S
      replace S := S.add hfr
      iterate 2 (refine sq S ?_; clear S; intro a S)
      refine sw S ?_; clear S; intro a w S
      refine sq S ?_; clear S; intro a S
      refine wl_nil ?_
      refine xtn ?_
      refine c_ret ?_
      refine end2 S (fun _ => ?_)
      have e : backF t.t m n = (if checkF (iter stepF (m - n).toNat t.t) = 0 then iter stepF (m - n).toNat t.t else zeroT, checkF (iter stepF (m - n).toNat t.t)) := by
        unfold backF; rw [if_neg h2, if_neg h4]; split
        · rename_i h; rw [h]
        · rfl
      exact ⟨r, by rw [e] <;> rfl, by rw [e, hr] <;> rfl, S.laterFact (by simp)⟩
theorem state_c (t : LTerm) (n : Int) (M : Nat → Prop) (w0 : World) (hM : ∀ k, M k → k < w0.heap.size) (hf : Stable M w0 (LtF t)) : Ret Try.prog 9 [vL t, .int .i64 n] w0 (fun _ => False) fun v w' => TE M w' v (backF t.t 8 n).1 (backF t.t 8 n).2 := by
  refine enter Try.func9 rfl rfl (Wd.beginM (M := M) (fs := [LtF t]) hM (by simpa using hf)) (fun a S => ?_)
  simp only [Try.ntmps9, List.length_cons, List.length_nil, Nat.reduceAdd, Nat.reduceSub, List.replicate_succ, List.replicate_zero, List.cons_append, List.nil_append] at S
  refine c_seq ?_
  refine c_region ?_
  refine sa S ?_; clear S; intro b2 a w S
  refine sa S ?_; clear S; intro b4 a w S
  refine sq S ?_; clear S; intro a S
  refine wl_nil ?_
  refine xtn ?_
  refine c_seq ?_
  refine c_region ?_
  iterate 2 (refine sq S ?_; clear S; intro a S)
  refine sr S (back_c t 8 n _ w (foots_lt S) (S.fact (by simp))) ?_; clear S; rintro _ a w ⟨r, rfl, hr, hfr⟩ S
  replace S := S.add hfr
  iterate 2 (refine sq S ?_; clear S; intro a S)
  refine sw S ?_; clear S; intro a w S
  refine sq S ?_; clear S; intro a S
  refine wl_nil ?_
  refine xtn ?_
  refine c_ret ?_
  refine end2 S (fun _ => ?_)
  exact ⟨r, rfl, hr, S.laterFact (by simp)⟩
def keyF (t : Term) : Term × Int :=
  if checkF t ≠ 0 then (zeroT, 150) else if checkF (lastF t) = 0 then (lastF t, 0) else (zeroT, checkF (lastF t))
theorem key_c (t : LTerm) (M : Nat → Prop) (w0 : World) (hM : ∀ k, M k → k < w0.heap.size) (hf : Stable M w0 (LtF t)) : Ret Try.prog 13 [vL t] w0 (fun _ => False) fun v w' => TE M w' v (keyF t.t).1 (keyF t.t).2 := by
  refine enter Try.func13 rfl rfl (Wd.beginM (M := M) (fs := [LtF t]) hM (by simpa using hf)) (fun a S => ?_)
  simp only [Try.ntmps13, List.length_cons, List.length_nil, Nat.reduceAdd, Nat.reduceSub, List.replicate_succ, List.replicate_zero, List.cons_append, List.nil_append] at S
  refine c_seq ?_
  refine c_region ?_
  refine sa S ?_; clear S; intro b1 a w S
  refine sa S ?_; clear S; intro b2 a w S
  refine sq S ?_; clear S; intro a S
  refine wl_nil ?_
  refine xtn ?_
  iterate 2 (refine c_seq ?_)
  refine c_region ?_
  refine sq S ?_; clear S; intro a S
  refine sc S ?_; clear S; intro a w S
  refine sq S ?_; clear S; intro a S
  refine wl_nil ?_
  refine xtn ?_
  refine c_cond S (fun h1 => ?_) (fun h1 => ?_)
  · refine c_seq ?_
    refine c_region ?_
    refine sq S ?_; clear S; intro a S
    refine sw S ?_; clear S; intro a w S
    refine sq S ?_; clear S; intro a S
    refine wl_nil ?_
    refine xtn ?_
    refine c_ret ?_
    refine xtr ?_
    refine end2 S (fun _ => ?_)
    have h2 : checkF t.t ≠ 0 := by simpa using h1
    have e : keyF t.t = (zeroT, 150) := by unfold keyF; rw [if_pos h2]
    exact ⟨zeroL, by rw [e] <;> rfl, by rw [e] <;> rfl, fun w _ => zeroL_in w⟩
  · refine c_skip ?_
    refine xtn ?_
    refine c_seq ?_
    refine c_region ?_
    refine sq S ?_; clear S; intro a S
    have h2 : ¬ checkF t.t ≠ 0 := by simpa using h1
    refine sr S (times_c 29 lastF (fun t M w hM hf => last_c t M w hM hf) t 1 _ w (by omega) (foots_lt S) (S.fact (by simp))) ?_; clear S; rintro _ a w ⟨r, rfl, hr, hfr⟩ S
    replace S := S.add hfr
    iterate 2 (refine sq S ?_; clear S; intro a S)
    refine sw S ?_; clear S; intro a w S
    refine sq S ?_; clear S; intro a S
    refine wl_nil ?_
    refine xtn ?_
    refine c_ret ?_
    refine end2 S (fun _ => ?_)
    have e : keyF t.t = (if checkF (iter lastF 1 t.t) = 0 then iter lastF 1 t.t else zeroT, checkF (iter lastF 1 t.t)) := by
      unfold keyF; rw [if_neg h2]
      show (if checkF (lastF t.t) = 0 then (lastF t.t, 0) else (zeroT, checkF (lastF t.t))) = (if checkF (lastF t.t) = 0 then lastF t.t else zeroT, checkF (lastF t.t))
      by_cases h : checkF (lastF t.t) = 0 <;> simp [h]
    exact ⟨r, by rw [e] <;> rfl, by rw [e, hr] <;> rfl, S.laterFact (by simp)⟩
end Go.Proofs.Ytkpfhdojkffflaa
