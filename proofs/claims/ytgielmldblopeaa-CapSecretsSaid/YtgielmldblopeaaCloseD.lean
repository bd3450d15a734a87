/- Package close: check. -/
import Derived.Test.YtgielmldblopeaaPlainClose
import Derived.Test.YtgielmldblopeaaSlicesV
namespace Go.Proofs.Ytgielmldblopeaa
open Go Go.Wk
set_option synthInstance.maxSize 100000
set_option synthInstance.maxHeartbeats 400000
set_option maxRecDepth 100000

def badF (t : Term) : Bool := !decide (checkF t = 0)
def chkF (K L : List Term) : Int := if 500 < K.length then 3 else if (K ++ L).any badF then 150 else 0
theorem check1_c (t : LTerm) (w0 : World) (hf : Stable (fun _ => False) w0 (LtF t)) : Ret Try.prog 111 [vL t] w0 (fun _ => False) fun v _ => v = .bool (badF t.t) := by
  refine enter Try.func111 rfl rfl (Wd.begin (fs := [LtF t]) (by simpa using hf)) (fun a S => ?_)
  simp only [Try.ntmps111, List.length_cons, List.length_nil, Nat.reduceAdd, Nat.reduceSub, List.replicate_succ, List.replicate_zero, List.cons_append, List.nil_append] at S
  refine c_seq ?_
  refine c_region ?_
  refine sa S ?_; clear S; intro b1 a w S
  refine sq S ?_; clear S; intro a S
  refine wl_nil ?_
  refine xtn ?_
  refine c_seq ?_
  refine c_region ?_
  refine sq S ?_; clear S; intro a S
  refine sc S ?_; clear S; intro a w S
  iterate 2 (refine sq S ?_; clear S; intro a S)
  refine wl_nil ?_
  refine xtn ?_
  refine c_ret ?_
  refine end1 S (fun _ => rfl)
theorem kids_st {M : Nat → Prop} {w : World} {p : Option Addr} {xs : List LTerm} (h : Stable M w (LsF p 0 xs)) {x : LTerm} (hx : x ∈ xs) : Stable M w (LtF x) := by
  obtain ⟨k, hk, rfl⟩ := List.mem_iff_getElem.1 hx
  exact h.imp fun w' hw' => (LsIn.get hw' (List.getElem?_eq_getElem hk)).2
theorem check_cl (xs ys : List LTerm) (p p2 : Option Addr) (n n2 c c2 : Nat) (w0 : World) (hn : xs.length = n) (hn2 : ys.length = n2) (hl2 : n2 ≤ 500) (hx : Stable (fun _ => False) w0 (LsF p 0 xs)) (hy : Stable (fun _ => False) w0 (LsF p2 0 ys)) :
    Ret Try.prog 78 [.slice p n c, .slice p2 n2 c2] w0 (fun _ => False) fun v _ => v = .int .i64 (chkF (xs.map LTerm.t) (ys.map LTerm.t)) := by
  have hany : (xs ++ ys).any (fun x => badF x.t) = ((xs.map LTerm.t) ++ (ys.map LTerm.t)).any badF := by
    rw [List.any_append, List.any_append, List.any_map, List.any_map]; rfl
  refine enter Try.func78 rfl rfl (Wd.begin (fs := [LsF p 0 xs, LsF p2 0 ys]) (by simp; exact ⟨hx, hy⟩)) (fun a S => ?_)
  simp only [Try.ntmps78, List.length_cons, List.length_nil, Nat.reduceAdd, Nat.reduceSub, List.replicate_succ, List.replicate_zero, List.cons_append, List.nil_append] at S
  refine c_seq ?_
  refine c_region ?_
  refine sq S ?_; clear S; intro a S
  refine wl_nil ?_
  refine xtn ?_
  iterate 2 (refine c_seq ?_)
  refine c_region ?_
  iterate 3 (refine sq S ?_; clear S; intro a S)
  refine wl_nil ?_
  refine xtn ?_
  refine c_cond S (fun h1 => ?_) (fun h1 => ?_)
  · refine c_seq ?_
    refine c_region ?_
    refine sq S ?_; clear S; intro a S
    refine wl_nil ?_
    refine xtn ?_
    refine c_ret ?_
    refine xtr ?_
    refine end1 S (fun _ => ?_)
    rw [chkF, List.length_map, hn, if_pos (by simp at h1; omega)]
  · refine c_skip ?_
    refine xtn ?_
    iterate 2 (refine c_seq ?_)
    refine c_region ?_
    iterate 2 (refine sq S ?_; clear S; intro a S)
    refine sn S ?_; clear S; intro b10 a w S
    have hn5 : n ≤ 500 := by simp at h1; omega
    have hb := BoxF.stable (M := fun _ => False) (S.boxF b10) (fun h => h)
    refine srn S (concat_c xs ys p p2 n n2 c c2 b10 w hn hn2 (by omega) (by omega) (S.mem.fact0 (LsF p 0 xs)) (S.mem.fact0 (LsF p2 0 ys)) hb) ?_; clear S hb; rintro _ a w ⟨p3, c3, rfl, hown, hnew⟩ - S
    have hst : ∀ x ∈ xs ++ ys, Stable (fun _ => False) w (LtF x) := fun x hx => by
      rcases List.mem_append.1 hx with hx | hx
      · exact kids_st (S.mem.fact0 (LsF p 0 xs)) hx
      · exact kids_st (S.mem.fact0 (LsF p2 0 ys)) hx
    have hls := ls_of_own hown hst (fun _ _ h => h)
    have hcc := contains_c 111 [] (fun x => badF x.t) (xs ++ ys) p3 (n + n2) c3 w (by simp [hn, hn2]) (by omega) hls fun x hx w' hw' => check1_c x w' ((hst x hx).later hw')
    refine sr S hcc ?_
    clear S hcc hls hst; rintro _ a w rfl S
    refine wl_nil ?_
    refine xtn ?_
    refine c_cond S (fun h3 => ?_) (fun h3 => ?_)
    · refine c_seq ?_
      refine c_region ?_
      refine sq S ?_; clear S; intro a S
      refine wl_nil ?_
      refine xtn ?_
      refine c_ret ?_
      refine xtr ?_
      refine end1 S (fun _ => ?_)
      rw [hany] at h3
      rw [chkF, List.length_map, hn, if_neg (by omega), if_pos h3]
    · refine c_skip ?_
      refine xtn ?_
      refine c_seq ?_
      refine c_region ?_
      refine sq S ?_; clear S; intro a S
      refine wl_nil ?_
      refine xtn ?_
      refine c_ret ?_
      refine end1 S (fun _ => ?_)
      rw [hany] at h3
      rw [chkF, List.length_map, hn, if_neg (by omega), if_neg (by rw [h3]; simp)]
end Go.Proofs.Ytgielmldblopeaa
