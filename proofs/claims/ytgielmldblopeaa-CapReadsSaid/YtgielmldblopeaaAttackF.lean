/- Package attack: Corrupt; and that layer 22 does something. -/
import Derived.Test.YtgielmldblopeaaAttackE
import Derived.Test.YtgielmldblopeaaPlainAttack
namespace Go.Proofs.Ytgielmldblopeaa
open Go Go.Wk
set_option synthInstance.maxSize 100000
set_option synthInstance.maxHeartbeats 400000
set_option maxRecDepth 100000

theorem ownL_in (u : Int) (m : Nat) (w : World) : ∀ x ∈ ownL u m, LtIn w x := fun x hx => by
  rcases List.mem_cons.1 hx with rfl | hx
  · simp [secretL, LtIn, LsIn]
  · obtain ⟨n, _, rfl⟩ := List.mem_map.1 hx; exact freshL_in w u n
theorem ownL_good (u : Int) (m : Nat) (hu : 1 ≤ u ∧ u ≤ 6) (hm : m ≤ 200) : ∀ x ∈ ownL u m, Good x.t := fun x hx => by
  rcases List.mem_cons.1 hx with rfl | hx
  · exact good_secret hu
  · obtain ⟨n, hn, rfl⟩ := List.mem_map.1 hx
    exact good_fresh hu (by have := List.mem_range.1 hn; omega)
theorem corrupt_c (ks : List LTerm) (u : Int) (m : Nat) (pk : Option Addr) (ck : Nat) (M : Nat → Prop) (w0 : World) (hM : ∀ k, M k → k < w0.heap.size) (hkl : ks.length ≤ 400) (hu : 1 ≤ u ∧ u ≤ 6) (hm : m ≤ 200) (hR : RightA (ks.map LTerm.t) []) (hd : (ded [] ((ks ++ ownL u m).map LTerm.t)).length ≤ 500) (hk : Stable M w0 (LsF pk 0 ks)) :
    Ret Try.prog 35 [vA none 0 0 pk ks.length ck, .int .i64 u, .int .i64 (m : Int)] w0 (fun _ => False) fun v w' => ∃ (pu' : Option Addr) (cu' : Nat) (pk' : Option Addr) (ck' : Nat) (ks' : List LTerm), v = .tuple ⟨[vA pu' 1 cu' pk' ks'.length ck', .int .i64 0]⟩ ∧ Stable M w' (SlF pu' (encL [u])) ∧ Stable M w' (LsF pk' 0 ks') ∧ ks'.map LTerm.t = ded [] ((ks ++ ownL u m).map LTerm.t) := by
  have hol : (ownL u m).length = m + 2 := by simp [ownL]
  refine enter Try.func35 rfl rfl (Wd.beginM (M := M) (fs := [LsF pk 0 ks]) hM (by simpa using hk)) (fun a S => ?_)
  simp only [Try.ntmps35, List.length_cons, List.length_nil, Nat.reduceAdd, Nat.reduceSub, List.replicate_succ, List.replicate_zero, List.cons_append, List.nil_append] at S
  refine c_seq ?_
  refine c_region ?_
  refine sa S ?_; clear S; intro b3 a w S
  refine sa S ?_; clear S; intro b6 a w S
  refine sq S ?_; clear S; intro a S
  refine wl_nil ?_
  refine xtn ?_
  refine c_seq ?_
  refine c_region ?_
  refine sq S ?_; clear S; intro a S
  refine sr S (acheck_c [] ks none pk 0 ck _ (by simp) (by omega) (fun w _ => SlF.nil) (S.mem.fact0 (LsF pk 0 ks))) ?_; clear S; rintro _ a w rfl S
  rw [chkA_pos hR] at S
  refine sq S ?_; clear S; intro a S
  refine wl_nil ?_
  refine xtn ?_
  refine c_seq ?_
  refine c_region ?_
  iterate 2 (refine sq S ?_; clear S; intro a S)
  refine srn S (Own_c u m hu hm _) ?_; clear S; rintro _ a w ⟨p9, c9, rfl, hown, hnew⟩ hS -
  have S := hS hown hnew
  clear hS
  replace S := S.rowLs (fun x hx w _ => ownL_in u m w x hx)
  refine sq S ?_; clear S; intro a S
  refine wl_nil ?_
  refine xtn ?_
  refine c_seq ?_
  refine c_region ?_
  iterate 3 (refine sq S ?_; clear S; intro a S)
  refine sr S (search_nil u none 0 _) ?_; clear S; rintro _ a w rfl S
  iterate 5 (refine sq S ?_; clear S; intro a S)
  refine wl_nil ?_
  refine xtn ?_
  refine c_seq ?_
  refine c_block ?_
  refine c_seq ?_
  refine c_region ?_
  iterate 2 (refine sq S ?_; clear S; intro a S)
  rw [show (!decide ((0 : Int) = 0)) = false from rfl] at S
  refine sq S ?_; clear S; intro a S
  refine wl_nil ?_
  refine xtn ?_
  refine c_condF S ?_
  refine c_seq ?_
  refine c_region ?_
  iterate 3 (refine sq S ?_; clear S; intro a S)
  rw [show decide (((ownL u m).length : Int) = 0) = false from by simp [hol]; omega] at S
  refine sq S ?_; clear S; intro a S
  refine wl_nil ?_
  refine xtn ?_
  refine c_condF S ?_
  refine c_seq ?_
  refine c_region ?_
  iterate 2 (refine sq S ?_; clear S; intro a S)
  refine wl_nil ?_
  refine xtn ?_
  refine c_condF S ?_
  refine c_skip ?_
  refine xbn ?_
  refine xtn ?_
  refine c_seq ?_
  refine c_region ?_
  iterate 2 (refine sq S ?_; clear S; intro a S)
  have hc : ∀ x ∈ ks ++ ownL u m, cnt x.t ≤ 1200 := fun x hx => by
    rcases List.mem_append.1 hx with hx | hx
    · exact good_le (hR.1.2.1 _ (List.mem_map.2 ⟨x, hx, rfl⟩))
    · exact good_le (ownL_good u m hu hm x hx)
  refine sr S (learn_c [] ks (ownL u m) none pk p9 0 ck c9 _ w (foots_lt S) (by simp) (by omega) (by omega) hc (fun w _ => SlF.nil) (S.wd.facts (LsF pk 0 ks) (by simp)) (S.wd.facts (LsF p9 0 (ownL u m)) (by simp))) ?_; clear S; rintro _ a w ⟨e, pu', cu', pk', ck', us', ks', rfl, -, hk', he1, he2, he3, he4, he5⟩ S
  replace S := S.add hk'
  obtain rfl := he2 hd
  obtain ⟨rfl, hks', -⟩ := he3 rfl
  obtain ⟨rfl, rfl⟩ := he5 rfl
  iterate 3 (refine sq S ?_; clear S; intro a S)
  refine sa S ?_; clear S; intro b12 a w S
  refine sw S ?_; clear S; intro a w S
  refine sq S ?_; clear S; intro a S
  refine wl_nil ?_
  refine xtn ?_
  iterate 2 (refine c_seq ?_)
  refine c_region ?_
  iterate 2 (refine sq S ?_; clear S; intro a S)
  rw [show (!decide ((0 : Int) = 0)) = false from rfl] at S
  refine wl_nil ?_
  refine xtn ?_
  refine c_condF S ?_
  refine c_skip ?_
  refine xtn ?_
  refine c_seq ?_
  refine c_region ?_
  iterate 4 (refine sq S ?_; clear S; intro a S)
  refine sn S ?_; clear S; intro b52 a w S
  have hb := BoxF.stable (M := fun k => ∃ ad : Addr, (none : Option Addr) = some ad ∧ k = ad.block) (S.boxF b52) (fun ⟨_, h, _⟩ => by cases h)
  replace S := S.addNil 3 1
  refine srg none 0 S (insert_end [] u none 0 0 b52 w (by omega) (by omega) (S.row none 0) rfl hb) ?_; clear S hb; rintro _ a w ⟨p13, c13, rfl, hown, hnew⟩ hS
  have S := hS _ hown hnew
  clear hS
  simp only [Nat.zero_add, List.nil_append] at S
  refine sq S ?_; clear S; intro a S
  refine sw S ?_; clear S; intro a w S
  refine wl_nil ?_
  refine xtn ?_
  refine c_seq ?_
  refine c_region ?_
  refine sq S ?_; clear S; intro a S
  refine sw S ?_; clear S; intro a w S
  refine sq S ?_; clear S; intro a S
  refine wl_nil ?_
  refine xtn ?_
  refine c_ret ?_
  have hrow := S.row p13 1
  have hnew := S.rowNew p13 1
  have hl := S.laterFact (Φ := LsF pk' 0 ks') (by simp)
  refine end2 S (fun _ => ?_)
  exact ⟨p13, c13, pk', ck', ks', rfl, SlF.stable (own_sl hrow) (fun ad h hm => (hnew ad h).elim id (fun h2 => by have := hM _ hm; omega)), hl, hks'⟩
theorem fresh22_c (u n : Int) (w0 : World) : Ret Try.prog 34 [.int .i64 u, .int .i64 n] w0 (fun _ => False) fun v _ => v = vL (freshL u n) := by
  refine enter Try.func34 rfl rfl (Wd.start w0) (fun a S => ?_)
  simp only [Try.ntmps34, List.length_cons, List.length_nil, Nat.reduceAdd, Nat.reduceSub, List.replicate_succ, List.replicate_zero, List.cons_append, List.nil_append] at S
  refine c_seq ?_
  refine c_region ?_
  refine sa S ?_; clear S; intro b4 a w S
  refine wl_nil ?_
  refine xtn ?_
  refine c_seq ?_
  refine c_region ?_
  iterate 3 (refine sq S ?_; clear S; intro a S)
  refine sw S ?_; clear S; intro a w S
  refine wl_nil ?_
  refine xtn ?_
  refine c_ret ?_
  refine end1 S (fun _ => ?_)
  rfl
instance {u n : Int} {bs fs} : CallV Try.prog 34 [.int .i64 u, .int .i64 n] bs fs (vL (freshL u n)) := ⟨fun w _ => fresh22_c u n w⟩
theorem wakes22_c (w0 : World) : Ret Try.prog 7 [] w0 (fun _ => False) fun v _ => v = .bool true := by
  refine enter Try.func7 rfl rfl (Wd.start w0) (fun a S => ?_)
  simp only [Try.ntmps7, List.length_cons, List.length_nil, Nat.reduceAdd, Nat.reduceSub, List.replicate_succ, List.replicate_zero, List.cons_append, List.nil_append] at S
  refine c_seq ?_
  refine c_region ?_
  refine sq S ?_; clear S; intro a S
  refine wl_nil ?_
  refine xtn ?_
  refine c_seq ?_
  refine c_region ?_
  iterate 2 (refine sc S ?_; clear S; intro a w S)
  refine sa S ?_; clear S; intro b1 a w S
  refine sa S ?_; clear S; intro b2 a w S
  iterate 2 (refine sw S ?_; clear S; intro a w S)
  refine wl_nil ?_
  refine xtn ?_
  refine c_seq ?_
  refine c_region ?_
  iterate 3 (refine sq S ?_; clear S; intro a S)
  refine sn S ?_; clear S; intro b17 a w S
  iterate 2 (refine sq S ?_; clear S; intro a S)
  refine sn S ?_; clear S; intro b20 a w S
  refine sq S ?_; clear S; intro a S
  refine sn S ?_; clear S; intro b22 a w S
  replace S := S.frontLs b17 [freshL 1 2, freshL 1 1] rfl (fun t ht => by simp at ht; rcases ht with rfl | rfl <;> exact S.t _)
  replace S := S.frontLs b20 [freshL 1 2] rfl (fun t ht => by simp at ht; rcases ht with rfl; exact S.t _)
  have hL : ∀ t ∈ [LTerm.mk 6 0 0 [] (some ⟨b17, 0, none⟩) 2 [freshL 1 2, freshL 1 1], LTerm.mk 7 2 0 [] (some ⟨b20, 0, none⟩) 1 [freshL 1 2]], Stable _ _ (LtF t) := fun t ht => by
    simp only [List.mem_cons, List.not_mem_nil, or_false] at ht
    rcases ht with rfl | rfl
    · exact ltF_mk (Nat.le_refl _) (by simp [maxLen]) (S.wd.facts (LsF (some ⟨b17, 0, none⟩) 0 [freshL 1 2, freshL 1 1]) (by simp))
    · exact ltF_mk (Nat.le_refl _) (by simp [maxLen]) (S.wd.facts (LsF (some ⟨b20, 0, none⟩) 0 [freshL 1 2]) (by simp))
  replace S := S.frontLs b22 _ rfl hL
  refine sr S (Learn_c [] [] [LTerm.mk 6 0 0 [] (some ⟨b17, 0, none⟩) 2 [freshL 1 2, freshL 1 1], LTerm.mk 7 2 0 [] (some ⟨b20, 0, none⟩) 1 [freshL 1 2]] none none (some ⟨b22, 0, none⟩) 0 0 2 _ _ (foots_lt S) (by simp) (by simp) (by simp) (fun w _ => SlF.nil) (fun w _ => by simp [LsF, LsIn]) (S.wd.facts (LsF (some ⟨b22, 0, none⟩) 0 _) (by simp))) ?_
  clear S hL; rintro _ a w ⟨e, pu', cu', pk', ck', us', ks', rfl, -, hk', he1, he3, he4, he5⟩ S
  replace S := S.add hk'
  have hw2 : ([] ++ [LTerm.mk 6 0 0 [] (some ⟨b17, 0, none⟩) 2 [freshL 1 2, freshL 1 1], LTerm.mk 7 2 0 [] (some ⟨b20, 0, none⟩) 1 [freshL 1 2]]).map LTerm.t = [wT1, wT2] := rfl
  have hg2 : ∀ t ∈ [LTerm.mk 6 0 0 [] (some ⟨b17, 0, none⟩) 2 [freshL 1 2, freshL 1 1], LTerm.mk 7 2 0 [] (some ⟨b20, 0, none⟩) 1 [freshL 1 2]].map LTerm.t, Good t := by
    show ∀ t ∈ [wT1, wT2], Good t
    simp; exact ⟨wT1_good, wT2_good⟩
  rw [hw2, wake_ded2] at he1 he3
  obtain rfl := (he1 wake_0 hg2).2 (by simp)
  obtain ⟨-, -, rfl, hks, -⟩ := he3 rfl
  obtain ⟨rfl, rfl⟩ := he5 rfl
  have hkl : ks'.length = 2 := by have := congrArg List.length hks; simpa using this
  iterate 3 (refine sq S ?_; clear S; intro a S)
  refine sa S ?_; clear S; intro b3 a w S
  refine sw S ?_; clear S; intro a w S
  refine sq S ?_; clear S; intro a S
  refine wl_nil ?_
  refine xtn ?_
  refine c_seq ?_
  refine c_region ?_
  iterate 3 (refine sq S ?_; clear S; intro a S)
  refine sn S ?_; clear S; intro b30 a w S
  have hls := lsBox (ts := [freshL 1 1, freshL 1 2]) (S.box b30) (fun x hx => by simp at hx; rcases hx with rfl | rfl <;> exact S.mem.t0 _)
  refine sr S (leaks_c [] ks' [freshL 1 1, freshL 1 2] none pk' (some ⟨b30, 0, none⟩) 0 ck' 2 w (by simp) (by omega) (by simp) (fun w _ => SlF.nil) (S.mem.fact0 (LsF pk' 0 ks')) hls) ?_; clear S hls; rintro _ a w ⟨f, px, cx, xs, rfl, -, -, hx, -, -, -⟩ S
  rw [hks] at hx
  obtain ⟨rfl, hx2⟩ := hx wake_a (by show ∀ t ∈ [wN, wK], Good t; simp; exact ⟨wN_good, wK_good⟩)
  have hx0 : xs.length = 0 := by
    have := congrArg List.length hx2
    rw [List.length_map] at this
    rw [this]
    show ([wN, wK].filter (derB [wT1, wT2])).length = 0
    simp [wake_no]
  iterate 5 (refine sq S ?_; clear S; intro a S)
  refine wl_nil ?_
  refine xtn ?_
  refine c_seq ?_
  refine c_region ?_
  refine sq S ?_; clear S; intro a S
  have hd4 : ded [] ((ks' ++ ownL 2 0).map LTerm.t) = [wT1, wT2, secretT 2, wF] := by
    rw [List.map_append, hks]; exact wake_ded4
  refine sr S (corrupt_c ks' 2 0 pk' ck' _ w (foots_lt S) (by omega) (by omega) (by omega) (by rw [hks]; exact wake_a) (by rw [hd4]; simp) (S.wd.facts (LsF pk' 0 ks') (by simp))) ?_; clear S; rintro _ a w ⟨pu2, cu2, pk2, ck2, ks2, rfl, hu2, hk2, hks2⟩ S
  rw [hd4] at hks2
  have hkl2 : ks2.length = 4 := by have := congrArg List.length hks2; simpa using this
  replace S := (S.add hu2).add hk2
  iterate 3 (refine sq S ?_; clear S; intro a S)
  refine sa S ?_; clear S; intro b7 a w S
  refine sw S ?_; clear S; intro a w S
  refine sq S ?_; clear S; intro a S
  refine wl_nil ?_
  refine xtn ?_
  refine c_seq ?_
  refine c_region ?_
  iterate 3 (refine sq S ?_; clear S; intro a S)
  refine sn S ?_; clear S; intro b43 a w S
  have hls := lsBox (ts := [freshL 1 1, freshL 1 2]) (S.box b43) (fun x hx => by simp at hx; rcases hx with rfl | rfl <;> exact S.mem.t0 _)
  refine sr S (leaks_c [2] ks2 [freshL 1 1, freshL 1 2] pu2 pk2 (some ⟨b43, 0, none⟩) cu2 ck2 2 w (by simp) (by omega) (by simp) (S.mem.fact0 (SlF pu2 (encL [2]))) (S.mem.fact0 (LsF pk2 0 ks2)) hls) ?_; clear S hls; rintro _ a w ⟨f, py, cy, ys, rfl, -, -, hy, -, -, -⟩ S
  rw [hks2] at hy
  obtain ⟨rfl, hy2⟩ := hy wake_b (by show ∀ t ∈ [wN, wK], Good t; simp; exact ⟨wN_good, wK_good⟩)
  have hy0 : ys.length = 2 := by
    have := congrArg List.length hy2
    rw [List.length_map] at this
    rw [this]
    show ([wN, wK].filter (derB [wT1, wT2, secretT 2, wF])).length = 2
    simp [wake_n, wake_k]
  iterate 5 (refine sq S ?_; clear S; intro a S)
  refine wl_nil ?_
  refine xtn ?_
  refine c_seq ?_
  refine c_region ?_
  iterate 3 (refine sq S ?_; clear S; intro a S)
  iterate 2 (refine gQ S ?_; clear S; intro a S)
  iterate 2 (refine sq S ?_; clear S; intro a S)
  iterate 2 (refine gQ S ?_; clear S; intro a S)
  iterate 2 (refine sq S ?_; clear S; intro a S)
  iterate 2 (refine gQ S ?_; clear S; intro a S)
  iterate 2 (refine sq S ?_; clear S; intro a S)
  iterate 3 (refine gQ S ?_; clear S; intro a S)
  iterate 2 (refine sq S ?_; clear S; intro a S)
  iterate 3 (refine gQ S ?_; clear S; intro a S)
  iterate 2 (refine sq S ?_; clear S; intro a S)
  iterate 4 (refine gQ S ?_; clear S; intro a S)
  iterate 2 (refine sq S ?_; clear S; intro a S)
  refine wl_nil ?_
  refine xtn ?_
  refine c_ret ?_
  refine end1 S (fun _ => ?_)
  simp [hx0, hy0]
end Go.Proofs.Ytgielmldblopeaa
