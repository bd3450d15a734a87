/- Layer 14: TreeUnlike. -/
import Derived.Test.YtgielmldblopeaaDoorTreeH
namespace Go.Proofs.YtgielmldblopeaaDoor
open Go Go.Wk
set_option synthInstance.maxSize 100000
set_option synthInstance.maxHeartbeats 400000
set_option maxRecDepth 100000

theorem shortL_len (l : List LMark) : (shortL l).length ≤ 17 := by simp [shortL]; omega
theorem treeunlike_c (x y : List LMark) (px py : Option Addr) (cx cy : Nat) (w0 : World) (hxl : x.length ≤ 9223372036854775807) (hyl : y.length ≤ 9223372036854775807) (ht : Stable (fun _ => False) w0 LibF) (hx : Stable (fun _ => False) w0 (GlF px x)) (hy : Stable (fun _ => False) w0 (GlF py y)) :
    Ret Tryd.prog 9 [.slice px x.length cx, .slice py y.length cy] w0 (fun _ => False) fun v _ => v = .bool true := by
  refine enter Tryd.func9 rfl rfl (Wd.begin (fs := [TabF, LibF, GlF px x, GlF py y]) (by simp; exact ⟨ht.imp fun _ h => h.1, ht, hx, hy⟩)) (fun a S => ?_)
  simp only [Tryd.ntmps9, List.length_cons, List.length_nil, Nat.reduceAdd, Nat.reduceSub, List.replicate_succ, List.replicate_zero, List.cons_append, List.nil_append] at S
  refine c_seq ?_
  refine c_region ?_
  refine sq S ?_; clear S; intro a S
  refine wl_nil ?_
  refine xtn ?_
  iterate 2 (refine c_seq ?_)
  refine c_region ?_
  refine sr S (wakes14_c _ (S.mem.fact0 LibF)) ?_; clear S; rintro _ a w rfl S
  refine sq S ?_; clear S; intro a S
  rw [show (!true) = false from rfl] at S
  refine wl_nil ?_
  refine xtn ?_
  refine c_condF S ?_
  refine c_skip ?_
  refine xtn ?_
  refine c_seq ?_
  refine c_region ?_
  refine sq S ?_; clear S; intro a S
  refine sr S (short_c x px cx _ w hxl (foots_lt S) (S.mem.fact (GlF px x))) ?_; clear S; rintro _ a w ⟨p1, c1, rfl, hc1, hf1⟩ S
  replace S := S.add hf1
  refine sq S ?_; clear S; intro a S
  refine sr S (short_c y py cy _ w hyl (foots_lt S) (S.mem.fact (GlF py y))) ?_; clear S; rintro _ a w ⟨p2, c2, rfl, hc2, hf2⟩ S
  replace S := S.add hf2
  iterate 2 (refine sq S ?_; clear S; intro a S)
  refine wl_nil ?_
  refine xtn ?_
  refine c_seq ?_
  refine c_region ?_
  refine sq S ?_; clear S; intro a S
  refine sr S (troot_c (shortL x) p1 c1 _ w hc1 (by have := shortL_len x; omega) (foots_lt S) (S.mem.fact TabF) (S.mem.fact (GlF p1 (shortL x)))) ?_; clear S; rintro _ a w hR S
  obtain ⟨r1, e1, rfl, hf3, hy1, hn1⟩ := hR
  replace S := S.add hf3
  iterate 3 (refine sq S ?_; clear S; intro a S)
  refine sa S ?_; clear S; intro b5 a w S
  refine sw S ?_; clear S; intro a w S
  refine sq S ?_; clear S; intro a S
  refine wl_nil ?_
  refine xtn ?_
  refine c_seq ?_
  refine c_region ?_
  refine sq S ?_; clear S; intro a S
  refine sr S (troot_c (shortL y) p2 c2 _ w hc2 (by have := shortL_len y; omega) (foots_lt S) (S.mem.fact TabF) (S.mem.fact (GlF p2 (shortL y)))) ?_; clear S; rintro _ a w hR S
  obtain ⟨r2, e2, rfl, hf4, hy2, hn2⟩ := hR
  replace S := S.add hf4
  iterate 3 (refine sq S ?_; clear S; intro a S)
  refine sa S ?_; clear S; intro b7 a w S
  refine sw S ?_; clear S; intro a w S
  refine sq S ?_; clear S; intro a S
  refine wl_nil ?_
  refine xtn ?_
  iterate 2 (refine c_seq ?_)
  refine c_region ?_
  iterate 3 (refine sq S ?_; clear S; intro a S)
  iterate 2 (refine gQ S ?_; clear S; intro a S)
  refine sq S ?_; clear S; intro a S
  refine wl_nil ?_
  refine xtn ?_
  refine c_cond S (fun h6 => ?_) (fun h6 => ?_)
  · refine c_seq ?_
    refine c_region ?_
    refine sq S ?_; clear S; intro a S
    refine wl_nil ?_
    refine xtn ?_
    refine c_ret ?_
    refine xtr ?_
    refine end1 S (fun _ => rfl)
  · refine c_skip ?_
    refine xtn ?_
    refine c_seq ?_
    have hz : e1 = 0 ∧ e2 = 0 := by simpa using h6
    have ho1 : okM (shortL x) = true := by
      cases h : okM (shortL x) with
      | true => rfl
      | false => have := (hn1 h).1; omega
    have ho2 : okM (shortL y) = true := by
      cases h : okM (shortL y) with
      | true => rfl
      | false => have := (hn2 h).1; omega
    have q1 := (hy1 ho1).2
    have q2 := (hy2 ho2).2
    have hg1 := (good_root _ (Nat.lt_succ_self (shortL x).length) (okM_V ho1).1 (okM_V ho1).2).1
    refine c_region ?_
    iterate 2 (refine sq S ?_; clear S; intro a S)
    refine sc S ?_; clear S; intro a w S
    iterate 2 (refine sq S ?_; clear S; intro a S)
    refine sr S (equalm_c (shortL x) (shortL y) p1 p2 c1 c2 _ (by have := shortL_len x; omega) (S.mem.fact0 (GlF p1 (shortL x))) (S.mem.fact0 (GlF p2 (shortL y)))) ?_; clear S; rintro _ a w rfl S
    iterate 2 (refine sq S ?_; clear S; intro a S)
    refine gQ S ?_; clear S; intro a S
    refine gC S ?_; clear S; intro a w S
    refine gQ S ?_; clear S; intro a S
    iterate 2 (refine sq S ?_; clear S; intro a S)
    refine wl_nil ?_
    refine xtn ?_
    refine c_ret ?_
    have hs : sameF r1.t r2.t = decide (shortL x = shortL y) := by
      rw [Bool.eq_iff_iff, sameF_iff, decide_eq_true_iff, q1, q2]
      exact ⟨fun h => root_inj _ (Nat.lt_succ_self _) (okM_V ho1).2.1 (okM_V ho2).2.1 h, fun h => by rw [h]⟩
    have hc : checkF r1.t = 0 := good_check.2 (by rw [q1]; exact hg1)
    refine end1 S (fun _ => ?_)
    rw [hs, hc]; simp
end Go.Proofs.YtgielmldblopeaaDoor
