/- The laws RegressKeys and RegressStates. -/
import Derived.Test.YtkpfhdojkffflaaPlainRegress
namespace Go.Proofs.Ytkpfhdojkffflaa
open Go Go.Wk
set_option synthInstance.maxSize 100000
set_option synthInstance.maxHeartbeats 400000
set_option maxRecDepth 100000

theorem keys_c (t : LTerm) (w0 : World) (hf : Stable (fun _ => False) w0 (LtF t)) : Ret Try.prog 4 [vL t] w0 (fun _ => False) fun v _ => v = .bool true := by
  refine enter Try.func4 rfl rfl (Wd.begin (fs := [LtF t]) (by simpa using hf)) (fun a S => ?_)
  simp only [Try.ntmps4, List.length_cons, List.length_nil, Nat.reduceAdd, Nat.reduceSub, List.replicate_succ, List.replicate_zero, List.cons_append, List.nil_append] at S
  refine c_seq ?_
  refine c_region ?_
  refine sa S ?_; clear S; intro b1 a w S
  refine sq S ?_; clear S; intro a S
  refine wl_nil ?_
  refine xtn ?_
  iterate 2 (refine c_seq ?_)
  refine c_region ?_
  refine sr S (wakes_c w) ?_; clear S; rintro _ a w rfl S
  refine sq S ?_; clear S; intro a S
  rw [show (!true) = false from rfl] at S
  refine wl_nil ?_
  refine xtn ?_
  refine c_condF S ?_
  refine c_skip ?_
  refine xtn ?_
  iterate 2 (refine c_seq ?_)
  refine c_region ?_
  refine sq S ?_; clear S; intro a S
  refine sc S ?_; clear S; intro a w S
  refine wl_nil ?_
  refine xtn ?_
  refine c_cond S (fun h3 => ?_) (fun h3 => ?_)
  · refine c_seq ?_
    refine c_region ?_
    refine sq S ?_; clear S; intro a S
    refine wl_nil ?_
    refine xtn ?_
    refine c_ret ?_
    refine xtr ?_
    refine end1 S (fun _ => rfl)
  · refine c_skip ?_
    refine xtn ?_
    refine c_seq ?_
    refine c_region ?_
    refine sq S ?_; clear S; intro a S
    refine sr S (key_c t _ w (foots_lt S) (S.t _)) ?_; clear S; rintro _ a w ⟨r, rfl, hr, hfr⟩ S
    replace S := S.add hfr
    iterate 3 (refine sq S ?_; clear S; intro a S)
    refine sa S ?_; clear S; intro b3 a w S
    refine sw S ?_; clear S; intro a w S
    refine sq S ?_; clear S; intro a S
    refine wl_nil ?_
    refine xtn ?_
    refine c_seq ?_
    refine c_region ?_
    refine sq S ?_; clear S; intro a S
    refine sr S (rkey_c t _ w (foots_lt S) (S.t _)) ?_; clear S; rintro _ a w ⟨q, rfl, hq, hfq⟩ S
    replace S := S.add hfq
    iterate 3 (refine sq S ?_; clear S; intro a S)
    refine sa S ?_; clear S; intro b5 a w S
    refine sw S ?_; clear S; intro a w S
    refine sq S ?_; clear S; intro a S
    refine wl_nil ?_
    refine xtn ?_
    refine c_seq ?_
    refine c_region ?_
    iterate 4 (refine sq S ?_; clear S; intro a S)
    iterate 2 (refine gQ S ?_; clear S; intro a S)
    refine gC S ?_; clear S; intro a w S
    iterate 2 (refine sq S ?_; clear S; intro a S)
    refine wl_nil ?_
    refine xtn ?_
    refine c_ret ?_
    refine end1 S (fun _ => ?_)
    have e : sameF r.t q.t = true := (sameF_iff _ _).2 (by rw [hr, hq, key_ref])
    simp [key_ref, e]
theorem states_c (t : LTerm) (m n : Int) (w0 : World) (hf : Stable (fun _ => False) w0 (LtF t)) : Ret Try.prog 3 [vL t, .int .i64 m, .int .i64 n] w0 (fun _ => False) fun v _ => v = .bool true := by
  refine enter Try.func3 rfl rfl (Wd.begin (fs := [LtF t]) (by simpa using hf)) (fun a S => ?_)
  simp only [Try.ntmps3, List.length_cons, List.length_nil, Nat.reduceAdd, Nat.reduceSub, List.replicate_succ, List.replicate_zero, List.cons_append, List.nil_append] at S
  refine c_seq ?_
  refine c_region ?_
  refine sa S ?_; clear S; intro b3 a w S
  refine sq S ?_; clear S; intro a S
  refine wl_nil ?_
  refine xtn ?_
  iterate 2 (refine c_seq ?_)
  refine c_region ?_
  refine sr S (wakes_c w) ?_; clear S; rintro _ a w rfl S
  refine sq S ?_; clear S; intro a S
  rw [show (!true) = false from rfl] at S
  refine wl_nil ?_
  refine xtn ?_
  refine c_condF S ?_
  refine c_skip ?_
  refine xtn ?_
  iterate 2 (refine c_seq ?_)
  refine c_region ?_
  refine sq S ?_; clear S; intro a S
  refine sc S ?_; clear S; intro a w S
  refine wl_nil ?_
  refine xtn ?_
  refine c_cond S (fun h3 => ?_) (fun h3 => ?_)
  · refine c_seq ?_
    refine c_region ?_
    refine sq S ?_; clear S; intro a S
    refine wl_nil ?_
    refine xtn ?_
    refine c_ret ?_
    refine xtr ?_
    refine end1 S (fun _ => rfl)
  · refine c_skip ?_
    refine xtn ?_
    refine c_seq ?_
    refine c_region ?_
    iterate 2 (refine sq S ?_; clear S; intro a S)
    refine sr S (state_c t n _ w (foots_lt S) (S.t _)) ?_; clear S; rintro _ a w ⟨r1, rfl, hr1, hf1⟩ S
    replace S := S.add hf1
    iterate 3 (refine sq S ?_; clear S; intro a S)
    refine sa S ?_; clear S; intro b7 a w S
    refine sw S ?_; clear S; intro a w S
    refine sq S ?_; clear S; intro a S
    refine wl_nil ?_
    refine xtn ?_
    refine c_seq ?_
    refine c_region ?_
    iterate 2 (refine sq S ?_; clear S; intro a S)
    refine sr S (rback_c t 8 n _ w (foots_lt S) (S.t _)) ?_; clear S; rintro _ a w ⟨r2, rfl, hr2, hf2⟩ S
    replace S := S.add hf2
    iterate 3 (refine sq S ?_; clear S; intro a S)
    refine sa S ?_; clear S; intro b9 a w S
    refine sw S ?_; clear S; intro a w S
    refine sq S ?_; clear S; intro a S
    refine wl_nil ?_
    refine xtn ?_
    refine c_seq ?_
    refine c_region ?_
    iterate 3 (refine sq S ?_; clear S; intro a S)
    refine sr S (back_c t m n _ w (foots_lt S) (S.t _)) ?_; clear S; rintro _ a w ⟨r3, rfl, hr3, hf3⟩ S
    replace S := S.add hf3
    iterate 3 (refine sq S ?_; clear S; intro a S)
    refine sa S ?_; clear S; intro b11 a w S
    refine sw S ?_; clear S; intro a w S
    refine sq S ?_; clear S; intro a S
    refine wl_nil ?_
    refine xtn ?_
    refine c_seq ?_
    refine c_region ?_
    iterate 3 (refine sq S ?_; clear S; intro a S)
    refine sr S (rback_c t m n _ w (foots_lt S) (S.t _)) ?_; clear S; rintro _ a w ⟨r4, rfl, hr4, hf4⟩ S
    replace S := S.add hf4
    iterate 3 (refine sq S ?_; clear S; intro a S)
    refine sa S ?_; clear S; intro b13 a w S
    refine sw S ?_; clear S; intro a w S
    refine sq S ?_; clear S; intro a S
    refine wl_nil ?_
    refine xtn ?_
    refine c_seq ?_
    refine c_region ?_
    iterate 4 (refine sq S ?_; clear S; intro a S)
    iterate 3 (refine gQ S ?_; clear S; intro a S)
    iterate 2 (refine sq S ?_; clear S; intro a S)
    iterate 2 (refine gQ S ?_; clear S; intro a S)
    refine gC S ?_; clear S; intro a w S
    iterate 2 (refine sq S ?_; clear S; intro a S)
    iterate 2 (refine gQ S ?_; clear S; intro a S)
    refine gC S ?_; clear S; intro a w S
    iterate 2 (refine sq S ?_; clear S; intro a S)
    refine wl_nil ?_
    refine xtn ?_
    refine c_ret ?_
    refine end1 S (fun _ => ?_)
    have e : sameF r1.t r2.t = true := (sameF_iff _ _).2 (by rw [hr1, hr2, back_ref])
    have e' : sameF r3.t r4.t = true := (sameF_iff _ _).2 (by rw [hr3, hr4, back_ref])
    simp [back_ref, e, e']
end Go.Proofs.Ytkpfhdojkffflaa
