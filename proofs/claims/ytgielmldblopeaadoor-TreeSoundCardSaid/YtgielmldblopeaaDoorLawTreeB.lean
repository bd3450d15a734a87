/- Layer 14: TreeBack. -/
import Derived.Test.YtgielmldblopeaaDoorTreeI
import Derived.Test.YtgielmldblopeaaDoorLawTreeA
namespace Go.Proofs.YtgielmldblopeaaDoor
open Go Go.Wk
set_option synthInstance.maxSize 100000
set_option synthInstance.maxHeartbeats 400000
set_option maxRecDepth 100000

theorem treeback_c (x : List LMark) (t : LTerm) (px : Option Addr) (cx : Nat) (w0 : World) (hxl : x.length ≤ 9223372036854775807) (ht : Stable (fun _ => False) w0 LibF) (hx : Stable (fun _ => False) w0 (GlF px x)) (htt : Stable (fun _ => False) w0 (LtF t)) :
    Ret Tryd.prog 10 [.slice px x.length cx, vL t] w0 (fun _ => False) fun v _ => v = .bool true := by
  refine enter Tryd.func10 rfl rfl (Wd.begin (fs := [TabF, LibF, GlF px x, LtF t]) (by simp; exact ⟨ht.imp fun _ h => h.1, ht, hx, htt⟩)) (fun a S => ?_)
  simp only [Tryd.ntmps10, List.length_cons, List.length_nil, Nat.reduceAdd, Nat.reduceSub, List.replicate_succ, List.replicate_zero, List.cons_append, List.nil_append] at S
  refine c_seq ?_
  refine c_region ?_
  refine sa S ?_; clear S; intro b3 a w S
  refine sq S ?_; clear S; intro a S
  refine wl_nil ?_
  refine xtn ?_
  iterate 2 (refine c_seq ?_)
  refine c_region ?_
  refine sr S (wakes14_c _ (S.mem.fact0 LibF)) ?_; clear S; rintro _ a w rfl S
  refine sq S ?_; clear S; intro a S
  rw [show (!true) = false from rfl] at S
  refine wl_nil ?_
  refine xtn ?_
  refine c_condF S ?_
  refine c_skip ?_
  refine xtn ?_
  refine c_seq ?_
  refine c_region ?_
  refine sq S ?_; clear S; intro a S
  refine sr S (short_c x px cx _ w hxl (foots_lt S) (S.mem.fact (GlF px x))) ?_; clear S; rintro _ a w ⟨p1, c1, rfl, hc1, hf1⟩ S
  replace S := S.add hf1
  have hxl2 := shortL_len x
  refine sq S ?_; clear S; intro a S
  refine wl_nil ?_
  refine xtn ?_
  refine c_seq ?_
  refine c_region ?_
  refine sq S ?_; clear S; intro a S
  refine sr S (twrite_c (shortL x) p1 c1 _ w (by omega) (foots_lt S) (S.mem.fact TabF) (S.mem.fact (GlF p1 (shortL x)))) ?_; clear S; rintro _ a w hR S
  obtain ⟨r1, e1, rfl, hf3, hy1, hn1⟩ := hR
  replace S := S.add hf3
  iterate 3 (refine sq S ?_; clear S; intro a S)
  refine sa S ?_; clear S; intro b5 a w S
  refine sw S ?_; clear S; intro a w S
  refine sq S ?_; clear S; intro a S
  refine wl_nil ?_
  refine xtn ?_
  refine c_mrge0 S (fun  uu => [(4, uu 4), (2, uu 7), (0, uu 8), (11, uu 20), (0, uu 21), (0, uu 22), (0, uu 23), (0, uu 24), (0, uu 25), (0, uu 26), (0, uu 27), (0, uu 28), (0, uu 29), (0, uu 30), (0, uu 31), (0, uu 32), (0, uu 33), (0, uu 34), (0, uu 35), (0, uu 36), (0, uu 37), (0, uu 38), (0, uu 39)]) ([Wk.box b5 24 r1.cells, Wk.box b3 24 t.cells]) ([TabF, LibF, LtF t]) (True) ?_ ?_
  · refine c_seq ?_
    refine c_region ?_
    iterate 2 (refine sq S ?_; clear S; intro a S)
    refine wl_nil ?_
    refine xtn ?_
    refine c_cond S (fun h5 => ?_) (fun h5 => ?_)
    · refine c_seq ?_
      have he1 : e1 = 0 := by simpa using h5
      have ho1 : okM (shortL x) = true := by
        cases h : okM (shortL x) with
        | true => rfl
        | false => have := (hn1 h).1; omega
      have q1 := (hy1 ho1).2
      have hg1 : Good r1.t := by rw [q1]; exact good_write (okM_V ho1).1 (okM_V ho1).2
      refine c_region ?_
      refine sq S ?_; clear S; intro a S
      refine sr S (tread_c r1 _ w (foots_lt S) (S.mem.fact LibF) (S.t r1)) ?_; clear S; rintro _ a w ⟨pm, cm, ms, e2, rfl, hms, hcm, k1, k2⟩ S
      have he2 : e2 = 0 := by
        apply Classical.byContradiction
        intro hne
        exact (k2 hne).2.2 (shortL x) ho1 q1 hg1
      subst he2
      obtain ⟨hm1, hm2, -⟩ := k1 rfl
      have hmf : ms = shortL x := write_inj (okM_V hm1).2 (okM_V ho1).2 (by rw [← hm2, q1])
      subst hmf
      replace S := S.add hms
      iterate 5 (refine sq S ?_; clear S; intro a S)
      refine wl_nil ?_
      refine xtn ?_
      refine c_seq ?_
      refine c_region ?_
      iterate 2 (refine sq S ?_; clear S; intro a S)
      rw [show (!decide ((0 : Int) = 0)) = false from rfl] at S
      refine sq S ?_; clear S; intro a S
      refine gT' S ?_
      refine sq S ?_; clear S; intro a S
      refine gT' S ?_
      refine sq S ?_; clear S; intro a S
      refine gT' S ?_
      refine sr S (equalm_c (shortL x) (shortL x) p1 pm c1 cm _ (by omega) (S.mem.fact0 (GlF p1 (shortL x))) (S.mem.fact0 (GlF pm (shortL x)))) ?_; clear S; rintro _ a w rfl S
      rw [show decide (shortL x = shortL x) = true from decide_eq_true rfl] at S
      refine gT' S ?_
      refine sq S ?_; clear S; intro a S
      rw [show (!true) = false from rfl] at S
      iterate 2 (refine sq S ?_; clear S; intro a S)
      refine gT' S ?_
      refine sq S ?_; clear S; intro a S
      refine gT' S ?_
      refine sc S ?_; clear S; intro a w S
      rw [good_check.2 hg1] at S
      refine gT' S ?_
      refine sq S ?_; clear S; intro a S
      rw [show (!decide ((0 : Int) = 0)) = false from rfl] at S
      refine sq S ?_; clear S; intro a S
      refine wl_nil ?_
      refine xtn ?_
      refine c_condF S ?_
      refine c_skip ?_
      refine xtn ?_
      exact ⟨S.uu, trivial, S.sub _ _⟩
    · refine c_skip ?_
      refine xtn ?_
      exact ⟨S.uu, trivial, S.sub _ _⟩
  · clear S; rintro  uu a w hrel S
    refine c_seq ?_
    refine c_region ?_
    refine sq S ?_; clear S; intro a S
    refine sr S (small14_c 24 t _ w (by omega) (foots_lt S) (S.t t)) ?_; clear S; rintro _ a w ⟨r2, rfl, hr2, hrf2⟩ S
    replace S := S.add hrf2
    refine sw S ?_; clear S; intro a w S
    refine wl_nil ?_
    refine xtn ?_
    refine c_seq ?_
    refine c_region ?_
    refine sq S ?_; clear S; intro a S
    refine sr S (tread_c r2 _ w (foots_lt S) (S.mem.fact LibF) (S.t r2)) ?_; clear S; rintro _ a w ⟨pm, cm, ms, e2, rfl, hms, hcm, k1, k2⟩ S
    replace S := S.add hms
    iterate 5 (refine sq S ?_; clear S; intro a S)
    refine wl_nil ?_
    refine xtn ?_
    iterate 2 (refine c_seq ?_)
    refine c_region ?_
    iterate 2 (refine sq S ?_; clear S; intro a S)
    refine wl_nil ?_
    refine xtn ?_
    refine c_cond S (fun h11 => ?_) (fun h11 => ?_)
    · refine c_seq ?_
      refine c_region ?_
      iterate 4 (refine sq S ?_; clear S; intro a S)
      refine wl_nil ?_
      refine xtn ?_
      refine c_ret ?_
      refine xtr ?_
      have hne : e2 ≠ 0 := by simpa using h11
      obtain ⟨-, hm0, -⟩ := k2 hne
      subst hm0
      refine end1 S (fun _ => rfl)
    · refine c_skip ?_
      refine xtn ?_
      refine c_seq ?_
      have he2 : e2 = 0 := by simpa using h11
      obtain ⟨hm1, hm2, hm3⟩ := k1 he2
      have hml := (okM_V hm1).1
      refine c_region ?_
      refine sq S ?_; clear S; intro a S
      refine sr S (twrite_c ms pm cm _ w (by omega) (foots_lt S) (S.mem.fact TabF) (S.mem.fact (GlF pm ms))) ?_; clear S; rintro _ a w hR S
      obtain ⟨r3, rfl, hr3, hrf3⟩ := hR.yes hm1
      replace S := S.add hrf3
      iterate 3 (refine sq S ?_; clear S; intro a S)
      refine sw S ?_; clear S; intro a w S
      refine sq S ?_; clear S; intro a S
      refine wl_nil ?_
      refine xtn ?_
      refine c_seq ?_
      refine c_region ?_
      iterate 3 (refine sq S ?_; clear S; intro a S)
      iterate 2 (refine gQ S ?_; clear S; intro a S)
      refine gC S ?_; clear S; intro a w S
      iterate 2 (refine sq S ?_; clear S; intro a S)
      refine wl_nil ?_
      refine xtn ?_
      refine c_ret ?_
      have hs : sameF r3.t r2.t = true := (sameF_iff _ _).2 (by rw [hr3, hm2])
      refine end1 S (fun _ => ?_)
      rw [hs]; rfl
end Go.Proofs.YtgielmldblopeaaDoor
