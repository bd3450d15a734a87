/- Layer 14 does something. -/
import Derived.Test.YtgielmldblopeaaDoorTreeG
namespace Go.Proofs.YtgielmldblopeaaDoor
open Go Go.Wk
set_option synthInstance.maxSize 100000
set_option synthInstance.maxHeartbeats 400000
set_option maxRecDepth 100000

theorem few_ok : okM fewL = true := by decide
theorem RootR.yes {M : Nat → Prop} {b : Bool} {T : Term} {v : Value} {w : World} (h : RootR M b T v w) (hb : b = true) : ∃ r : LTerm, v = .tuple ⟨[vL r, .int .i64 0]⟩ ∧ r.t = T ∧ Stable M w (LtF r) := by
  obtain ⟨r, e, rfl, h1, h2, -⟩ := h
  obtain ⟨rfl, h3⟩ := h2 hb
  exact ⟨r, rfl, h3, h1⟩
theorem wakes14_c (w0 : World) (ht : Stable (fun _ => False) w0 LibF) : Ret Tryd.prog 30 [] w0 (fun _ => False) fun v _ => v = .bool true := by
  obtain ⟨f16, fV⟩ := okM_V few_ok
  refine enter Tryd.func30 rfl rfl (Wd.begin (fs := [TabF, LibF]) (by simp; exact ⟨ht.imp fun _ h => h.1, ht⟩)) (fun a S => ?_)
  simp only [Tryd.ntmps30, List.length_cons, List.length_nil, Nat.reduceAdd, Nat.reduceSub, List.replicate_succ, List.replicate_zero, List.cons_append, List.nil_append] at S
  refine c_seq ?_
  refine c_region ?_
  refine sq S ?_; clear S; intro a S
  refine wl_nil ?_
  refine xtn ?_
  refine c_seq ?_
  refine c_region ?_
  refine sr S (few_c _ w0 (foots_lt S)) ?_; clear S; rintro _ a w ⟨p1, c1, rfl, hc1, hf1⟩ S
  replace S := S.add hf1
  refine sr S (troot_c fewL p1 c1 _ w hc1 (by decide) (foots_lt S) (S.mem.fact TabF) (S.mem.fact (GlF p1 fewL))) ?_; clear S; rintro _ a w hR S
  obtain ⟨r, rfl, hr, hrf⟩ := hR.yes few_ok
  replace S := S.add hrf
  iterate 3 (refine sq S ?_; clear S; intro a S)
  refine sa S ?_; clear S; intro b1 a w S
  refine sw S ?_; clear S; intro a w S
  refine sq S ?_; clear S; intro a S
  refine wl_nil ?_
  refine xtn ?_
  refine c_seq ?_
  refine c_region ?_
  refine sr S (few_c _ w (foots_lt S)) ?_; clear S; rintro _ a w ⟨p2, c2, rfl, hc2, hf2⟩ S
  replace S := S.add hf2
  refine sr S (tproof_c fewL p2 c2 [98] _ w hc2 (by decide) (foots_lt S) (S.mem.fact TabF) (S.mem.fact (GlF p2 fewL))) ?_; clear S; rintro _ a w ⟨pp, cp, ps, e, rfl, hps, -, -, h3⟩ S
  obtain ⟨rfl, i, hi, hik, hpath⟩ := h3 few_ok (by decide)
  replace S := S.add hps
  iterate 5 (refine sq S ?_; clear S; intro a S)
  refine wl_nil ?_
  refine xtn ?_
  refine c_seq ?_
  refine c_region ?_
  refine sr S (few_c _ w (foots_lt S)) ?_; clear S; rintro _ a w ⟨p3, c3, rfl, hc3, hf3⟩ S
  replace S := S.add hf3
  refine sr S (twrite_c fewL p3 c3 _ w (by decide) (foots_lt S) (S.mem.fact TabF) (S.mem.fact (GlF p3 fewL))) ?_; clear S; rintro _ a w hR S
  obtain ⟨t, rfl, htt, htf⟩ := hR.yes few_ok
  replace S := S.add htf
  iterate 3 (refine sq S ?_; clear S; intro a S)
  refine sa S ?_; clear S; intro b5 a w S
  refine sw S ?_; clear S; intro a w S
  refine sq S ?_; clear S; intro a S
  refine wl_nil ?_
  refine xtn ?_
  refine c_seq ?_
  refine c_region ?_
  refine sq S ?_; clear S; intro a S
  refine sr S (tread_c t _ w (foots_lt S) (S.mem.fact LibF) (S.t t)) ?_; clear S; rintro _ a w ⟨pm, cm, ms, e, rfl, hms, hcm, h1, h2⟩ S
  have he : e = 0 := by
    apply Classical.byContradiction
    intro hne
    exact (h2 hne).2.2 fewL few_ok htt (by rw [htt]; exact good_write f16 fV)
  subst he
  obtain ⟨hm1, hm2, -⟩ := h1 rfl
  have hmf : ms = fewL := write_inj (okM_V hm1).2 fV (by rw [← hm2, htt])
  subst hmf
  replace S := S.add hms
  iterate 5 (refine sq S ?_; clear S; intro a S)
  refine wl_nil ?_
  refine xtn ?_
  refine c_seq ?_
  have hK1 : KLt 1 3 := ⟨by decide⟩
  have hK2 : KLt 1 fewL.length := ⟨by decide⟩
  have hi1 : i = 1 := by
    have : i = 0 ∨ i = 1 ∨ i = 2 := by have : fewL.length = 3 := rfl; omega
    rcases this with rfl | rfl | rfl
    · simp [fewL, nthG] at hik
    · rfl
    · simp [fewL, nthG] at hik
  subst hi1
  have hpl : ps.length = 2 := by
    have := congrArg List.length hpath
    rw [List.length_map, List.length_reverse] at this
    rw [this]
    rw [pathT_r (by decide) (by decide), List.length_cons, pathT_l (by decide) (by decide), List.length_cons, pathT_one (by decide)]; rfl
  refine c_drwe0 (.q 0 (.q 1 (.q 2 (.q 3 (.q 4 (.q 5 (.q 6 (.q 7 (.q 8 (.q 9 (.q 10 (.q 11 (.q 12 (.q 13 (.q 14 (.q 15 (.q 16 (.q 17 (.q 18 (.q 19 (.q 20 (.q 24 (.l 21 (.l 22 (.l 23 (.l 25 (.q 26 (.q 27 (.q 28 (.q 29 (.q 30 (.l 31 (.q 32 (.q 33 (.q 34 (.q 35 (.l 36 (.l 37 (.q 38 (.q 39 (.e))))))))))))))))))))))))))))))))))))))))) S (fun  uu => [(0, .bool true), (28, uu 29), (0, uu 30), (0, uu 31), (0, uu 32), (0, uu 33), (0, uu 34), (0, uu 35), (0, uu 36), (0, uu 37), (0, uu 38), (0, uu 39), (0, uu 40), (0, uu 41), (0, uu 42), (0, uu 43), (0, uu 44), (0, uu 45), (0, uu 46), (0, uu 47), (0, uu 48), (0, uu 49), (0, uu 50), (0, uu 51), (0, uu 52), (0, uu 53), (0, uu 54), (0, uu 55), (0, uu 56), (0, uu 57), (0, uu 58), (0, uu 59), (0, uu 60), (0, uu 61), (0, uu 62), (0, uu 63), (0, uu 64), (0, uu 65), (0, uu 66), (0, uu 67)]) [Wk.box b5 24 t.cells, Wk.box b1 24 r.cells] ([]) ([]) (True) ?_ ?_
  · intro w S
    iterate 2 (refine tq S ?_; clear S; intro a S)
    rw [show decide ((0 : Int) = 0) = true from rfl] at S
    refine tq S ?_; clear S; intro a S
    iterate 2 (refine tqG S ?_; clear S; intro a S)
    rw [show decide ((0 : Int) = 0) = true from rfl] at S
    iterate 2 (refine tq S ?_; clear S; intro a S)
    iterate 2 (refine tqG S ?_; clear S; intro a S)
    rw [show decide ((0 : Int) = 0) = true from rfl] at S
    iterate 2 (refine tq S ?_; clear S; intro a S)
    iterate 2 (refine tqG S ?_; clear S; intro a S)
    rw [show decide ((0 : Int) = 0) = true from rfl] at S
    iterate 2 (refine tq S ?_; clear S; intro a S)
    iterate 3 (refine tqG S ?_; clear S; intro a S)
    rw [show decide ((ps.length : Int) = 2) = true from decide_eq_true (by omega)] at S
    iterate 2 (refine tq S ?_; clear S; intro a S)
    iterate 2 (refine tqG S ?_; clear S; intro a S)
    refine tl ?_
    refine gT S ?_
    refine sr S (few_c _ w (foots_lt S)) ?_; clear S; rintro _ a w ⟨p4, c4, rfl, hc4, hf4⟩ S
    replace S := S.add hf4
    refine te S ?_
    refine tl ?_
    refine gQ S ?_; clear S; intro a S
    refine te S ?_
    refine tl ?_
    refine gQ S ?_; clear S; intro a S
    refine te S ?_
    refine tl ?_
    refine gT S ?_
    refine sr S (proves_c r (nthG fewL 1) ps pp cp _ (by omega) (S.t0 r) (S.mem.fact0 (LsF pp 0 ps)) (S.mem.fact0 TabF)) ?_; clear S; rintro _ a w rfl S
    rw [show provesB r.t (nthG fewL 1) (ps.map LTerm.t) = true from by rw [hr, hpath]; exact proves_ok few_ok (by decide)] at S
    refine te S ?_
    iterate 2 (refine tq S ?_; clear S; intro a S)
    iterate 3 (refine tqG S ?_; clear S; intro a S)
    refine tl ?_
    refine gT S ?_
    refine sr S (proves_c r ⟨[98], 3⟩ ps pp cp _ (by omega) (S.t0 r) (S.mem.fact0 (LsF pp 0 ps)) (S.mem.fact0 TabF)) ?_; clear S; rintro _ a w rfl S
    rw [show provesB r.t ⟨[98], 3⟩ (ps.map LTerm.t) = false from by
      cases h : provesB r.t ⟨[98], 3⟩ (ps.map LTerm.t) with
      | false => rfl
      | true => rw [hr] at h; exact absurd (proves_sound few_ok h) (by decide)] at S
    refine te S ?_
    refine tqG S ?_; clear S; intro a S
    rw [show (!false) = true from rfl] at S
    iterate 2 (refine tq S ?_; clear S; intro a S)
    refine tqG S ?_; clear S; intro a S
    refine tl ?_
    refine gT S ?_
    refine sr S (few_c _ w (foots_lt S)) ?_; clear S; rintro _ a w ⟨p5, c5, rfl, hc5, hf5⟩ S
    replace S := S.add hf5
    refine te S ?_
    refine tl ?_
    refine gT S ?_
    refine sr S (same14_c fewL fewL pm p5 cm c5 _ (by decide) (S.gl0 pm) (S.gl0 p5)) ?_; clear S; rintro _ a w rfl S
    rw [show decide (fewL = fewL) = true from decide_eq_true rfl] at S
    refine te S ?_
    iterate 2 (refine tq S ?_; clear S; intro a S)
    refine tn ?_
    trace_state
    exact ⟨S.uu, trivial, S.sub _ _⟩
  clear S; rintro  uu a w hrel S
  refine xtn ?_
  refine c_ret ?_
  refine end1 S (fun _ => rfl)
end Go.Proofs.YtgielmldblopeaaDoor
