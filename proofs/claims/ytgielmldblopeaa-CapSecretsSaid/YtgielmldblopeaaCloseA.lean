/- Package close: name. -/
import Derived.Test.YtgielmldblopeaaTermF
namespace Go.Proofs.Ytgielmldblopeaa
open Go Go.Wk
set_option synthInstance.maxSize 100000
set_option synthInstance.maxHeartbeats 400000
set_option maxRecDepth 100000

theorem name_c (t : LTerm) (w0 : World) (hf : Stable (fun _ => False) w0 (LtF t)) : Ret Try.prog 112 [vL t] w0 (fun _ => False) fun v _ => v = str (nameF t.t) := by
  refine enter Try.func112 rfl rfl (Wd.begin (fs := [LtF t]) (by simpa using hf)) (fun a S => ?_)
  simp only [Try.ntmps112, List.length_cons, List.length_nil, Nat.reduceAdd, Nat.reduceSub, List.replicate_succ, List.replicate_zero, List.cons_append, List.nil_append] at S
  refine c_seq ?_
  refine c_region ?_
  refine sa S ?_; clear S; intro b1 a w S
  refine sq S ?_; clear S; intro a S
  refine wl_nil ?_
  refine xtn ?_
  refine c_seq ?_
  refine c_region ?_
  refine sq S ?_; clear S; intro a S
  refine srn S (encode_c t _ (S.t0 t)) ?_; clear S; rintro _ a w ⟨p, c, rfl, hown, hnew⟩ hS -
  have S := hS hown hnew
  clear hS
  iterate 5 (refine sq S ?_; clear S; intro a S)
  refine wl_nil ?_
  refine xtn ?_
  refine c_seq ?_
  refine c_region ?_
  iterate 3 (refine sq S ?_; clear S; intro a S)
  refine wl_nil ?_
  refine xtn ?_
  refine c_ret ?_
  refine end1 S (fun _ => rfl)
instance {t : LTerm} {bs fs} [HasT fs t] : CallV Try.prog 112 [vL t] bs fs (str (nameF t.t)) := ⟨fun w m => name_c t w (m.t0 _)⟩
end Go.Proofs.Ytgielmldblopeaa
