/- The law AttackGrows. -/
import Derived.Test.YtajmjbboahmdkaaLawAttackA
namespace Go.Proofs.Ytajmjbboahmdkaa
open Go Go.Wk
set_option synthInstance.maxSize 100000
set_option synthInstance.maxHeartbeats 400000
set_option maxRecDepth 100000

theorem chk_good {K : List Term} {us : List Int} (h : RightA K us) (t : Term) : chkF K [t] = if badF t then 150 else 0 := by
  have h500 : ¬ 500 < K.length := by have := h.1.1; omega
  have hK : K.any badF = false := any_bad.2 h.1.2.1
  rw [chkF, if_neg h500, List.any_append, hK]
  simp
theorem can_good {K : List Term} {us : List Int} (h : RightA K us) (t : Term) : canB K t = (!badF t && derB K t) := by
  rw [canB, chk_good h t]
  cases badF t <;> simp
theorem learnt_right {K L : List Term} {us : List Int} (h : RightA K us) (hL : ∀ t ∈ L, Good t) (hl : (ded [] (K ++ L)).length ≤ 500) : RightA (ded [] (K ++ L)) us := by
  have hg : ∀ t ∈ K ++ L, Good t := fun t ht => (List.mem_append.1 ht).elim (h.1.2.1 t) (hL t)
  refine ⟨⟨hl, fun t ht => hg t (ded_mem _ _ _ ht).1, ded_good_nodup _ _ hg⟩, fun i hi => ?_⟩
  obtain ⟨h1, h2, h3⟩ := h.2 i hi
  exact ⟨h1, h2, ded_has _ _ _ hg (List.mem_append_left _ h3) nofun⟩
theorem learnt_can {K L : List Term} (hK : ∀ t ∈ K ++ L, Good t) {t : Term} (ht : derB K t = true) : derB (ded [] (K ++ L)) t = true :=
  derB_mono (fun x hx => .known (ded_has _ _ _ hK (List.mem_append_left _ hx) nofun)) ht
theorem learnt_has {K L : List Term} (hK : ∀ t ∈ K ++ L, Good t) {t : Term} (ht : t ∈ L) : derB (ded [] (K ++ L)) t = true :=
  derB_iff.2 (.known (ded_has _ _ _ hK (List.mem_append_right _ ht) nofun))
theorem growslaw_c (x : LAtk) (ls qs : List LTerm) (pl pq : Option Addr) (cl cq : Nat) (w0 : World) (hx : AtkIn (fun _ => False) w0 x) (hll : ls.length ≤ 9223372036854775807) (hql : qs.length ≤ 9223372036854775807) (hl : Stable (fun _ => False) w0 (LsF pl 0 ls)) (hq : Stable (fun _ => False) w0 (LsF pq 0 qs)) :
    Ret Try.prog 4 [vAtk x, .slice pl ls.length cl, .slice pq qs.length cq] w0 (fun _ => False) fun v _ => v = .bool true := by
  have hkx : x.known.xs.length ≤ 9223372036854775807 := by have := hx.k1; have := hx.k2; unfold maxLen at this; omega
  refine enter Try.func4 rfl rfl (Wd.begin (fs := [SlF x.users.p (encL x.users.xs), LsF x.known.p 0 x.known.xs, LsF pl 0 ls, LsF pq 0 qs]) (by simp; exact ⟨hx.u, hx.k, hl, hq⟩)) (fun a S => ?_)
  simp only [Try.ntmps4, List.length_cons, List.length_nil, Nat.reduceAdd, Nat.reduceSub, List.replicate_succ, List.replicate_zero, List.cons_append, List.nil_append] at S
  refine c_seq ?_
  refine c_region ?_
  refine sa S ?_; clear S; intro b3 a w S
  refine sq S ?_; clear S; intro a S
  refine wl_nil ?_
  refine xtn ?_
  iterate 2 (refine c_seq ?_)
  refine c_region ?_
  refine sr S (wakes22_c _) ?_; clear S; rintro _ a w rfl S
  refine sq S ?_; clear S; intro a S
  rw [show (!true) = false from rfl] at S
  refine wl_nil ?_
  refine xtn ?_
  refine c_condF S ?_
  refine c_skip ?_
  refine xtn ?_
  refine c_seq ?_
  refine c_region ?_
  refine sq S ?_; clear S; intro a S
  refine sr S (short_c x.users.xs x.known.xs x.users.p x.known.p x.users.cap x.known.cap _ w (foots_lt S) hx.u1 hkx (S.wd.facts (SlF x.users.p (encL x.users.xs)) (by simp)) (S.wd.facts (LsF x.known.p 0 x.known.xs) (by simp))) ?_; clear S; rintro _ a w ⟨pu, cu, pk, ck, ks, rfl, hks, q1, q2, q3, q4, hfu, hfk⟩ S
  replace S := (S.add hfu).add hfk
  generalize hus : x.users.xs.take 8 = us at S q1
  have hl1 : us.length ≤ 8 := by rw [← hus]; simp; omega
  have hl2 : ks.length ≤ 501 := by have h1 := congrArg List.length hks; have h2 := short_len (x.known.xs.map LTerm.t); rw [List.length_map] at h1; omega
  refine sq S ?_; clear S; intro a S
  refine sr S (terms_c qs 6 pq cq _ w (by omega) (foots_lt S) hql (S.wd.facts (LsF pq 0 qs) (by simp))) ?_; clear S; rintro _ a w ⟨p2, c2, ts, rfl, hts, t1, t2, hft⟩ S
  replace S := S.add hft
  have htl : ts.length ≤ 6 := by have h1 := congrArg List.length hts; simp at h1; omega
  refine sw S ?_; clear S; intro a w S
  refine sq S ?_; clear S; intro a S
  refine wl_nil ?_
  refine xtn ?_
  refine c_seq ?_
  refine c_drwe4 (.q 0 (.q 1 (.b2 2 7 (.b2 3 7 (.q 4 (.q 5 (.q 6 (.l 7 (.l 8 (.q 9 (.e))))))) (.l 3 (.q 4 (.q 5 (.q 6 (.l 8 (.q 9 (.e)))))))) (.l 2 (.l 3 (.q 4 (.q 5 (.q 6 (.l 8 (.q 9 (.e))))))))))) S (fun (e : Int) (r : AV) (us' : List Int) (b7 : Nat) uu => [(7, .pointer (some ⟨b7, 0, none⟩)), (0, .int .i64 e), (16, uu 25), (0, uu 26), (0, uu 27), (0, uu 28), (0, uu 29), (0, uu 30), (0, uu 31)]) [Wk.box b3 25 [.slice pu us.length cu, .slice pk ks.length ck]] (fun (e : Int) (r : AV) (us' : List Int) (b7 : Nat) => [Wk.box b7 25 [.slice r.pu us'.length r.cu, .slice r.pk r.ks.length r.ck], Wk.box b3 25 [.slice pu us.length cu, .slice pk ks.length ck]]) (fun (e : Int) (r : AV) (us' : List Int) (b7 : Nat) => [LsF r.pk 0 r.ks, SlF r.pu (encL us'), LsF p2 0 ts, LsF pk 0 ks, SlF pu (encL us), LsF pl 0 ls]) (fun (e : Int) (r : AV) (us' : List Int) (b7 : Nat) => e = 0 → RightA (ks.map LTerm.t) us ∧ (∀ t ∈ ((ls.take 8).map LTerm.t).map (smallT 6), Good t) ∧ us' = us ∧ r.ks.map LTerm.t = ded [] (ks.map LTerm.t ++ ((ls.take 8).map LTerm.t).map (smallT 6)) ∧ r.ks.length ≤ 500) ?_ ?_
  · intro w S
    iterate 2 (refine tq S ?_; clear S; intro a S)
    refine tb2 ?_ ?_
    · refine sr S (terms_c ls 8 pl cl _ w (by omega) (foots_lt S) hll (S.wd.facts (LsF pl 0 ls) (by simp))) ?_; clear S; rintro _ a w ⟨p4, c4, ms, rfl, hms, m1, m2, hfm⟩ S
      replace S := S.add hfm
      have hml : ms.length ≤ 8 := by have h1 := congrArg List.length hms; simp at h1; omega
      refine te S ?_
      refine tb2 ?_ ?_
      · refine sr S (Learn_c us ks ms pu pk p4 cu ck c4 _ w (foots_lt S) (by omega) (by omega) (by omega) (S.wd.facts (SlF pu (encL us)) (by simp)) (S.wd.facts (LsF pk 0 ks) (by simp)) (S.wd.facts (LsF p4 0 ms) (by simp))) ?_; clear S; rintro _ a w ⟨e, pu', cu', pk', ck', us', ks', rfl, hfu', hfk', he1, he3, he4, -⟩ S
        replace S := (S.add hfu').add hfk'
        refine te S ?_
        iterate 3 (refine tq S ?_; clear S; intro a S)
        refine tl ?_
        refine sa S ?_; clear S; intro b7 a w S
        refine te S ?_
        refine tl ?_
        refine sw S ?_; clear S; intro a w S
        refine te S ?_
        refine tq S ?_; clear S; intro a S
        refine tn ?_
        refine ⟨e, ⟨pu', cu', pk', ck', ks'⟩, us', b7, S.uu, fun h => ?_, S.sub _ _⟩
        rw [← hms, ← List.map_append]
        exact he3 h
      · refine sa S ?_; clear S; intro b7 a w S
        refine te S ?_
        refine tl ?_
        refine sr S (Learn_c us ks ms pu pk p4 cu ck c4 _ w (foots_lt S) (by omega) (by omega) (by omega) (S.wd.facts (SlF pu (encL us)) (by simp)) (S.wd.facts (LsF pk 0 ks) (by simp)) (S.wd.facts (LsF p4 0 ms) (by simp))) ?_; clear S; rintro _ a w ⟨e, pu', cu', pk', ck', us', ks', rfl, hfu', hfk', he1, he3, he4, -⟩ S
        replace S := (S.add hfu').add hfk'
        refine te S ?_
        iterate 3 (refine tq S ?_; clear S; intro a S)
        refine tl ?_
        refine sw S ?_; clear S; intro a w S
        refine te S ?_
        refine tq S ?_; clear S; intro a S
        refine tn ?_
        refine ⟨e, ⟨pu', cu', pk', ck', ks'⟩, us', b7, S.uu, fun h => ?_, S.sub _ _⟩
        rw [← hms, ← List.map_append]
        exact he3 h
    · refine sa S ?_; clear S; intro b7 a w S
      refine te S ?_
      refine tl ?_
      refine sr S (terms_c ls 8 pl cl _ w (by omega) (foots_lt S) hll (S.wd.facts (LsF pl 0 ls) (by simp))) ?_; clear S; rintro _ a w ⟨p4, c4, ms, rfl, hms, m1, m2, hfm⟩ S
      replace S := S.add hfm
      have hml : ms.length ≤ 8 := by have h1 := congrArg List.length hms; simp at h1; omega
      refine te S ?_
      refine tl ?_
      refine sr S (Learn_c us ks ms pu pk p4 cu ck c4 _ w (foots_lt S) (by omega) (by omega) (by omega) (S.wd.facts (SlF pu (encL us)) (by simp)) (S.wd.facts (LsF pk 0 ks) (by simp)) (S.wd.facts (LsF p4 0 ms) (by simp))) ?_; clear S; rintro _ a w ⟨e, pu', cu', pk', ck', us', ks', rfl, hfu', hfk', he1, he3, he4, -⟩ S
      replace S := (S.add hfu').add hfk'
      refine te S ?_
      iterate 3 (refine tq S ?_; clear S; intro a S)
      refine tl ?_
      refine sw S ?_; clear S; intro a w S
      refine te S ?_
      refine tq S ?_; clear S; intro a S
      refine tn ?_
      refine ⟨e, ⟨pu', cu', pk', ck', ks'⟩, us', b7, S.uu, fun h => ?_, S.sub _ _⟩
      rw [← hms, ← List.map_append]
      exact he3 h
  clear S; rintro e r us' b7 uu a w he3 S
  refine xtn ?_
  iterate 2 (refine c_seq ?_)
  refine c_region ?_
  iterate 2 (refine sq S ?_; clear S; intro a S)
  refine wl_nil ?_
  refine xtn ?_
  refine c_cond S (fun h5 => ?_) (fun h5 => ?_)
  · refine c_seq ?_
    refine c_region ?_
    refine sq S ?_; clear S; intro a S
    refine wl_nil ?_
    refine xtn ?_
    refine c_ret ?_
    refine xtr ?_
    refine end1 S (fun _ => ?_)
    rfl
  · refine c_skip ?_
    refine xtn ?_
    iterate 2 (refine c_seq ?_)
    have he0 : e = 0 := by simpa using h5
    subst he0
    obtain ⟨pu', cu', pk', ck', ks'⟩ := r
    obtain ⟨hR, hG, rfl, hks', hk5⟩ := he3 rfl
    dsimp only at S hks' hk5
    generalize hms : ((ls.take 8).map LTerm.t).map (smallT 6) = Ms at hG hks'
    have hR' : RightA (ks'.map LTerm.t) us' := by rw [hks']; exact learnt_right hR hG (by rw [← hks', List.length_map]; omega)
    have hgA : ∀ t ∈ ks.map LTerm.t ++ Ms, Good t := fun t ht => (List.mem_append.1 ht).elim (hR.1.2.1 t) (hG t)
    have hge : ks.length ≤ ks'.length := by
      have h1 := ded_sub (K := ks.map LTerm.t) (L := Ms) hgA hR.1.2.2
      rw [← hks', List.length_map, List.length_map] at h1; exact h1
    refine c_region ?_
    refine sq S ?_; clear S; intro a S
    refine sr S (acheck_c us' ks' pu' pk' cu' ck' _ (by omega) (by omega) (S.mem.fact0 (SlF pu' (encL us'))) (S.mem.fact0 (LsF pk' 0 ks'))) ?_; clear S; rintro _ a w rfl S
    rw [chkA_pos hR'] at S
    refine sq S ?_; clear S; intro a S
    rw [show (!decide ((0 : Int) = 0)) = false from rfl] at S
    refine sq S ?_; clear S; intro a S
    refine gT' S ?_
    refine sq S ?_; clear S; intro a S
    refine gT' S ?_
    refine sq S ?_; clear S; intro a S
    refine gT' S ?_
    refine sq S ?_; clear S; intro a S
    refine gT' S ?_
    refine sq S ?_; clear S; intro a S
    refine gT' S ?_
    refine sq S ?_; clear S; intro a S
    refine gT' S ?_
    refine sq S ?_; clear S; intro a S
    refine gT' S ?_
    refine sq S ?_; clear S; intro a S
    rw [show decide ((ks'.length : Int) < (ks.length : Int)) = false from by simp; omega] at S
    refine sq S ?_; clear S; intro a S
    refine wl_nil ?_
    refine xtn ?_
    refine c_condF S ?_
    refine c_skip ?_
    refine xtn ?_
    iterate 2 (refine c_seq ?_)
    refine c_region ?_
    iterate 3 (refine sq S ?_; clear S; intro a S)
    refine wl_nil ?_
    refine xtn ?_
    refine c_block ?_
    refine c_forb1 S (fun (k : Nat) uu => [(6, uu 6), (3, uu 10), (0, uu 11), (0, uu 12), (0, uu 13), (0, uu 14), (33, .int .i64 (k : Nat)), (0, uu 49), (0, uu 50), (0, uu 51), (0, uu 52), (0, uu 53), (0, uu 54), (0, uu 55), (0, uu 56), (0, uu 57), (0, uu 58), (0, uu 59), (0, uu 60), (0, uu 61), (0, uu 62), (0, uu 63), (0, uu 64), (0, uu 65), (0, uu 66), (0, uu 67), (0, uu 68), (0, uu 69), (0, uu 70), (0, uu 71), (0, uu 72), (0, uu 73), (0, uu 74)]) (fun (k : Nat) => k ≤ ts.length) (fun (k : Nat) => ts.length - k) (0) ?_ S.uu ?_ ?_
    · exact Nat.zero_le _
    · first | exact S | exact S.sub _ _
    · clear S; rintro k uu a w hk S
      refine c_seq ?_
      refine c_region ?_
      refine sq S ?_; clear S; intro a S
      refine wl_nil ?_
      refine xtn ?_
      refine c_seq ?_
      refine c_cond S (fun h10 => ?_) (fun h10 => ?_)
      · refine c_skip ?_
        refine xtn ?_
        refine c_seq ?_
        refine c_block ?_
        refine c_seq ?_
        have hkl : k < ts.length := by simp at h10; omega
        have hK : KLt k ts.length := ⟨hkl⟩
        refine c_region ?_
        iterate 2 (refine sq S ?_; clear S; intro a S)
        refine sa S ?_; clear S; intro b10 a w S
        refine sw S ?_; clear S; intro a w S
        refine wl_nil ?_
        refine xtn ?_
        refine c_seq ?_
        refine c_region ?_
        iterate 2 (refine sq S ?_; clear S; intro a S)
        refine sr S (acan_c us' ks (nthL ts k) pu pk cu ck w (by omega) (by omega) (S.mem.fact0 (SlF pu (encL us'))) (S.mem.fact0 (LsF pk 0 ks)) (S.mem.t0 _)) ?_; clear S; rintro _ a w ⟨hc1, -⟩ S
        obtain rfl := hc1 hR
        rw [chk_good hR, can_good hR] at S
        iterate 5 (refine sq S ?_; clear S; intro a S)
        refine wl_nil ?_
        refine xtn ?_
        refine c_seq ?_
        refine c_region ?_
        iterate 2 (refine sq S ?_; clear S; intro a S)
        refine sr S (acan_c us' ks' (nthL ts k) pu' pk' cu' ck' w (by omega) (by omega) (S.mem.fact0 (SlF pu' (encL us'))) (S.mem.fact0 (LsF pk' 0 ks')) (S.mem.t0 _)) ?_; clear S; rintro _ a w ⟨hc1, -⟩ S
        obtain rfl := hc1 hR'
        rw [chk_good hR', can_good hR'] at S
        iterate 5 (refine sq S ?_; clear S; intro a S)
        refine wl_nil ?_
        refine xtn ?_
        refine c_seq ?_
        refine c_region ?_
        iterate 3 (refine sq S ?_; clear S; intro a S)
        rw [show ∀ z : Int, (!decide (z = z)) = false from fun z => by simp] at S
        refine sq S ?_; clear S; intro a S
        refine gT' S ?_
        refine sq S ?_; clear S; intro a S
        refine gT' S ?_
        refine sq S ?_; clear S; intro a S
        iterate 2 (refine gQ S ?_; clear S; intro a S)
        refine gT' S ?_
        iterate 2 (refine sq S ?_; clear S; intro a S)
        refine wl_nil ?_
        refine xtn ?_
        refine c_cond S (fun h14 => ?_) (fun h14 => ?_)
        · refine c_seq ?_
          refine c_region ?_
          refine sq S ?_; clear S; intro a S
          refine wl_nil ?_
          refine xtn ?_
          refine c_ret ?_
          refine xbr ?_
          iterate 2 (refine xtr ?_)
          refine xbr ?_
          refine xtr ?_
          exfalso
          rw [hks'] at h14
          cases hb : badF (nthL ts k).t with
          | true => simp [hb] at h14
          | false =>
            cases hd : derB (ks.map LTerm.t) (nthL ts k).t with
            | false => simp [hd] at h14
            | true => simp [hb, hd, learnt_can hgA hd] at h14
        · refine c_skip ?_
          refine xbn ?_
          refine xtn ?_
          refine c_region ?_
          iterate 2 (refine sq S ?_; clear S; intro a S)
          refine wl_nil ?_
          refine xtn ?_
          rw [w64 ((k : Int) + 1) (by omega) (by omega)] at S
          exact ⟨k + 1, S.uu, hkl, S.sub _ _, by omega⟩
      · refine c_exit ?_
        iterate 2 (refine xte ?_)
        refine xbe ?_
        refine xtn ?_
        iterate 2 (refine c_seq ?_)
        refine c_region ?_
        refine sq S ?_; clear S; intro a S
        refine sr S (terms_c ls 8 pl cl _ w (by omega) (foots_lt S) hll (S.wd.facts (LsF pl 0 ls) (by simp))) ?_; clear S; rintro _ a w ⟨p5, c5, ns, rfl, hns, n1, n2, hfn⟩ S
        replace S := S.add hfn
        have hnm : ns.map LTerm.t = Ms := by rw [hns, hms]
        have hnl : ns.length ≤ 8 := by have h1 := congrArg List.length hns; simp at h1; omega
        iterate 2 (refine sq S ?_; clear S; intro a S)
        refine wl_nil ?_
        refine xtn ?_
        refine c_block ?_
        refine c_forb1 S (fun (k : Nat) uu => [(6, uu 6), (9, uu 16), (0, uu 17), (0, uu 18), (59, .int .i64 (k : Nat)), (0, uu 79), (0, uu 80), (0, uu 81), (0, uu 82), (0, uu 83), (0, uu 84), (0, uu 85), (0, uu 86), (0, uu 87), (0, uu 88), (0, uu 89), (0, uu 90), (0, uu 91), (0, uu 92), (0, uu 93), (0, uu 94)]) (fun (k : Nat) => k ≤ ns.length) (fun (k : Nat) => ns.length - k) (0) ?_ S.uu ?_ ?_
        · exact Nat.zero_le _
        · first | exact S | exact S.sub _ _
        · clear S; rintro k uu a w hk2 S
          refine c_seq ?_
          refine c_region ?_
          refine sq S ?_; clear S; intro a S
          refine wl_nil ?_
          refine xtn ?_
          refine c_seq ?_
          refine c_cond S (fun h18 => ?_) (fun h18 => ?_)
          · refine c_skip ?_
            refine xtn ?_
            refine c_seq ?_
            refine c_block ?_
            refine c_seq ?_
            have hkl : k < ns.length := by simp at h18; omega
            have hK : KLt k ns.length := ⟨hkl⟩
            have hin : (nthL ns k).t ∈ Ms := by rw [← hnm]; exact List.mem_map.2 ⟨_, nth_mem hkl, rfl⟩
            have hgn : badF (nthL ns k).t = false := badF_iff.2 (hG _ hin)
            refine c_region ?_
            iterate 2 (refine sq S ?_; clear S; intro a S)
            refine sa S ?_; clear S; intro b16 a w S
            refine sw S ?_; clear S; intro a w S
            refine wl_nil ?_
            refine xtn ?_
            refine c_seq ?_
            refine c_region ?_
            iterate 2 (refine sq S ?_; clear S; intro a S)
            refine sr S (acan_c us' ks' (nthL ns k) pu' pk' cu' ck' w (by omega) (by omega) (S.mem.fact0 (SlF pu' (encL us'))) (S.mem.fact0 (LsF pk' 0 ks')) (S.mem.t0 _)) ?_; clear S; rintro _ a w ⟨hc1, -⟩ S
            obtain rfl := hc1 hR'
            rw [chk_good hR', can_good hR', hgn, hks', learnt_has hgA hin] at S
            simp only [Bool.not_false, Bool.and_true, Bool.false_eq_true, if_false] at S
            iterate 5 (refine sq S ?_; clear S; intro a S)
            refine wl_nil ?_
            refine xtn ?_
            refine c_seq ?_
            refine c_region ?_
            iterate 2 (refine sq S ?_; clear S; intro a S)
            rw [show (!decide ((0 : Int) = 0)) = false from rfl] at S
            refine sq S ?_; clear S; intro a S
            refine gT' S ?_
            refine sq S ?_; clear S; intro a S
            refine gT' S ?_
            refine sq S ?_; clear S; intro a S
            rw [show (!true) = false from rfl] at S
            refine sq S ?_; clear S; intro a S
            refine wl_nil ?_
            refine xtn ?_
            refine c_condF S ?_
            refine c_skip ?_
            refine xbn ?_
            refine xtn ?_
            refine c_region ?_
            iterate 2 (refine sq S ?_; clear S; intro a S)
            refine wl_nil ?_
            refine xtn ?_
            rw [w64 ((k : Int) + 1) (by omega) (by omega)] at S
            exact ⟨k + 1, S.uu, hkl, S.sub _ _, by omega⟩
          · refine c_exit ?_
            iterate 2 (refine xte ?_)
            refine xbe ?_
            refine xtn ?_
            refine c_seq ?_
            refine c_region ?_
            refine sq S ?_; clear S; intro a S
            refine wl_nil ?_
            refine xtn ?_
            refine c_ret ?_
            refine end1 S (fun _ => ?_)
            rfl
end Go.Proofs.Ytajmjbboahmdkaa
