/- The law AttackForged. -/
import Derived.Test.YtgielmldblopeaaAttackG
namespace Go.Proofs.Ytgielmldblopeaa
open Go Go.Wk
set_option synthInstance.maxSize 100000
set_option synthInstance.maxHeartbeats 400000
set_option maxRecDepth 100000

theorem rows22_c (xs : List LRow) (p : Option Addr) (c : Nat) (M : Nat → Prop) (w0 : World) (hM : ∀ k, M k → k < w0.heap.size) (hl : xs.length ≤ 9223372036854775807) (hf : Stable M w0 (GlF p xs)) :
    Ret Try.prog 11 [.slice p xs.length c] w0 (fun _ => False) fun v w' => ∃ (p' : Option Addr) (c' : Nat) (os : List LRow), v = .slice p' os.length c' ∧ os.length ≤ 6 ∧ os.length ≤ c' ∧ (∀ x ∈ os, x.name.length ≤ 40) ∧ Stable M w' (GlF p' os) := by
  refine enter Try.func11 rfl rfl (Wd.beginM (M := M) (fs := [GlF p xs]) hM (by simpa using hf)) (fun a S => ?_)
  simp only [Try.ntmps11, List.length_cons, List.length_nil, Nat.reduceAdd, Nat.reduceSub, List.replicate_succ, List.replicate_zero, List.cons_append, List.nil_append] at S
  refine c_seq ?_
  refine c_region ?_
  refine sq S ?_; clear S; intro a S
  refine wl_nil ?_
  refine xtn ?_
  refine c_seq ?_
  refine c_region ?_
  refine sq S ?_; clear S; intro a S
  refine wl_nil ?_
  refine xtn ?_
  iterate 2 (refine c_seq ?_)
  refine c_region ?_
  iterate 3 (refine sq S ?_; clear S; intro a S)
  refine wl_nil ?_
  refine xtn ?_
  refine c_block ?_
  replace S := S.addNil 37 6
  refine c_fore4 S (fun (k : Nat) (os : List LRow) (p' : Option Addr) (c' : Nat) uu => [(3, .slice p' os.length c'), (0, uu 4), (0, uu 5), (2, .int .i64 (k : Nat)), (0, uu 9), (0, uu 10), (0, uu 11), (0, uu 12), (0, uu 13), (0, uu 14), (0, uu 15), (0, uu 16), (0, uu 17), (0, uu 18), (0, uu 19), (0, uu 20), (0, uu 21), (0, uu 22), (0, uu 23), (0, uu 24), (0, uu 25), (0, uu 26), (0, uu 27), (0, uu 28), (0, uu 29)]) (fun (k : Nat) (os : List LRow) (p' : Option Addr) (c' : Nat) => [Wk.row 37 6 p' os.length c' (encL os), ext M]) (fun (k : Nat) (os : List LRow) (p' : Option Addr) (c' : Nat) => [AllI os, GlF p xs]) (fun (k : Nat) (os : List LRow) (p' : Option Addr) (c' : Nat) => k ≤ xs.length ∧ os.length ≤ 6 ∧ os.length ≤ k ∧ ∀ x ∈ os, x.name.length ≤ 40) (fun (k : Nat) (os : List LRow) (p' : Option Addr) (c' : Nat) => xs.length - k) (0) ([]) (none) (0) ?_ S.uu ?_ ?_
  · exact ⟨Nat.zero_le _, by simp, Nat.le_refl _, nofun⟩
  · exact S.add (Φ := AllI (α := LRow) []) AllI.nil
  · clear S; rintro k os p' c' uu a w ⟨hk, h6, hok, hnm⟩ S
    refine c_seq ?_
    refine c_region ?_
    refine sq S ?_; clear S; intro a S
    refine wl_nil ?_
    refine xtn ?_
    refine c_seq ?_
    refine c_cond S (fun h3 => ?_) (fun h3 => ?_)
    · refine c_skip ?_
      refine xtn ?_
      refine c_seq ?_
      refine c_block ?_
      refine c_seq ?_
      have hkl : k < xs.length := by simpa using h3
      have hK : KLt k xs.length := ⟨hkl⟩
      refine c_region ?_
      iterate 3 (refine sq S ?_; clear S; intro a S)
      refine sa S ?_; clear S; intro b5 a w S
      refine sq S ?_; clear S; intro a S
      refine sw S ?_; clear S; intro a w S
      refine wl_nil ?_
      refine xtn ?_
      refine c_seq ?_
      refine c_region ?_
      iterate 2 (refine sq S ?_; clear S; intro a S)
      refine wl_nil ?_
      refine xtn ?_
      refine c_cond S (fun h5 => ?_) (fun h5 => ?_)
      · have hk6 : k < 6 := by simp at h5; omega
        refine c_drawE [(0, true), (1, true), (2, true), (3, true), (4, true), (5, true), (6, true), (7, true), (8, true), (9, true), (10, false), (11, true), (12, false), (13, false), (14, true)] [Wk.box b5 37 [str (nthG xs k).name, .int .i64 (nthG xs k).term.kind, .int .i64 (nthG xs k).term.user, .int .i64 (nthG xs k).term.num, str (nthG xs k).term.text, .slice (nthG xs k).term.p (nthG xs k).term.kids.length (nthG xs k).term.cap], ext M] S ?_; clear S; intro w S
        iterate 8 (refine dq S ?_; clear S; intro a S)
        rw [show ((nthG xs k).name.take (min (nthG xs k).name.length 40)).drop 0 = (nthG xs k).name.take 40 from by rw [List.drop_zero, List.take_eq_take_iff]; omega] at S
        iterate 2 (refine dq S ?_; clear S; intro a S)
        refine dl ?_
        refine sr S (small_c 6 (nthG xs k).term _ w (by omega) (foots_lt S) (S.t (nthG xs k).term)) ?_; clear S; rintro _ a w ⟨r, rfl, hr, hrf⟩ S
        replace S := S.add hrf
        refine de S ?_
        refine dq S ?_; clear S; intro a S
        refine dl ?_
        refine sn S ?_; clear S; intro b27 a w S
        refine de S ?_
        refine dl ?_
        refine sap S (by simp [maxLen]; omega) (by omega) ?_; clear S; rintro p6 c6 a w - S
        rw [show encL os ++ [str ((nthG xs k).name.take 40), .int .i64 r.kind, .int .i64 r.user, .int .i64 r.num, str r.text, .slice r.p r.kids.length r.cap] = encL (os ++ [LRow.mk ((nthG xs k).name.take 40) r]) from by rw [encL_append os [_]]; simp [encL, Enc.cells], show os.length + 1 = (os ++ [LRow.mk ((nthG xs k).name.take 40) r]).length from by simp] at S
        refine de S ?_
        refine dq S ?_; clear S; intro a S
        refine dn ?_
        refine xbn ?_
        refine xtn ?_
        refine c_region ?_
        iterate 2 (refine sq S ?_; clear S; intro a S)
        refine wl_nil ?_
        refine xtn ?_
        rw [w64 ((k : Int) + 1) (by omega) (by omega)] at S
        have h1 := S.wd.facts (AllI os) (by simp)
        have h2 := S.t r
        replace S := S.add (AllI.snoc (r := LRow.mk ((nthG xs k).name.take 40) r) h1 h2)
        refine ⟨k + 1, os ++ [LRow.mk ((nthG xs k).name.take 40) r], p6, c6, S.uu, ⟨hkl, by simp; omega, by simp; omega, fun y hy => ?_⟩, S.sub _ _, by omega⟩
        rcases List.mem_append.1 hy with hy | hy
        · exact hnm y hy
        · rw [List.mem_singleton.1 hy]; simp; omega
      · refine c_skip ?_
        refine xbn ?_
        refine xtn ?_
        refine c_region ?_
        iterate 2 (refine sq S ?_; clear S; intro a S)
        refine wl_nil ?_
        refine xtn ?_
        rw [w64 ((k : Int) + 1) (by omega) (by omega)] at S
        exact ⟨k + 1, os, p', c', S.uu, ⟨hkl, h6, by omega, hnm⟩, S.sub _ _, by omega⟩
    · refine c_exit ?_
      iterate 2 (refine xte ?_)
      refine xbe ?_
      refine xtn ?_
      refine c_seq ?_
      refine c_region ?_
      iterate 2 (refine sq S ?_; clear S; intro a S)
      refine wl_nil ?_
      refine xtn ?_
      refine c_ret ?_
      have hrow := S.row p' os.length
      have hnew := S.rowNew p' os.length
      have hall := S.laterFact (Φ := AllI os) (by simp)
      refine end1 S (fun _ => ?_)
      exact ⟨p', c', os, rfl, h6, own_le hrow, hnm, gl_own hrow hall (fun ad h hm => (hnew ad h).elim id (fun h2 => by have := hM _ hm; omega))⟩
theorem learnt_same {K W : List Term} (hg : ∀ t ∈ K ++ W, Good t) (hW : ∀ x ∈ W, derB K x = true) (t : Term) : derB (ded [] (K ++ W)) t = derB K t := by
  rw [← derB_same (K := K) (W := W) (fun x hx => derB_iff.1 (hW x hx)), Bool.eq_iff_iff]
  exact ⟨derB_mono fun x hx => .known (ded_mem _ _ _ hx).1, derB_mono fun x hx => .known (ded_has _ _ _ hg hx nofun)⟩
theorem forgedlaw_c (x : LAtk) (ls : List LRow) (qs : List LTerm) (pl pq : Option Addr) (cl cq : Nat) (w0 : World) (hx : AtkIn (fun _ => False) w0 x) (hll : ls.length ≤ 9223372036854775807) (hql : qs.length ≤ 9223372036854775807) (hl : Stable (fun _ => False) w0 (GlF pl ls)) (hq : Stable (fun _ => False) w0 (LsF pq 0 qs)) :
    Ret Try.prog 3 [vAtk x, .slice pl ls.length cl, .slice pq qs.length cq] w0 (fun _ => False) fun v _ => v = .bool true := by
  have hkx : x.known.xs.length ≤ 9223372036854775807 := by have := hx.k1; have := hx.k2; unfold maxLen at this; omega
  refine enter Try.func3 rfl rfl (Wd.begin (fs := [SlF x.users.p (encL x.users.xs), LsF x.known.p 0 x.known.xs, GlF pl ls, LsF pq 0 qs]) (by simp; exact ⟨hx.u, hx.k, hl, hq⟩)) (fun a S => ?_)
  simp only [Try.ntmps3, List.length_cons, List.length_nil, Nat.reduceAdd, Nat.reduceSub, List.replicate_succ, List.replicate_zero, List.cons_append, List.nil_append] at S
  refine c_seq ?_
  refine c_region ?_
  refine sa S ?_; clear S; intro b3 a w S
  refine sq S ?_; clear S; intro a S
  refine wl_nil ?_
  refine xtn ?_
  iterate 2 (refine c_seq ?_)
  refine c_region ?_
  refine sr S (wakes22_c _) ?_; clear S; rintro _ a w rfl S
  refine sq S ?_; clear S; intro a S
  rw [show (!true) = false from rfl] at S
  refine wl_nil ?_
  refine xtn ?_
  refine c_condF S ?_
  refine c_skip ?_
  refine xtn ?_
  refine c_seq ?_
  refine c_region ?_
  refine sq S ?_; clear S; intro a S
  refine sr S (short_c x.users.xs x.known.xs x.users.p x.known.p x.users.cap x.known.cap _ w (foots_lt S) hx.u1 hkx (S.wd.facts (SlF x.users.p (encL x.users.xs)) (by simp)) (S.wd.facts (LsF x.known.p 0 x.known.xs) (by simp))) ?_; clear S; rintro _ a w ⟨pu, cu, pk, ck, ks, rfl, hks, q1, q2, q3, q4, hfu, hfk⟩ S
  replace S := (S.add hfu).add hfk
  generalize hus : x.users.xs.take 8 = us at S q1
  have hl1 : us.length ≤ 8 := by rw [← hus]; simp; omega
  have hl2 : ks.length ≤ 501 := by have h1 := congrArg List.length hks; have h2 := short_len (x.known.xs.map LTerm.t); rw [List.length_map] at h1; omega
  refine sq S ?_; clear S; intro a S
  refine sr S (terms_c qs 6 pq cq _ w (by omega) (foots_lt S) hql (S.wd.facts (LsF pq 0 qs) (by simp))) ?_; clear S; rintro _ a w ⟨p2, c2, ts, rfl, hts, t1, t2, hft⟩ S
  replace S := S.add hft
  have htl : ts.length ≤ 6 := by have h1 := congrArg List.length hts; simp at h1; omega
  refine sw S ?_; clear S; intro a w S
  refine sq S ?_; clear S; intro a S
  refine wl_nil ?_
  refine xtn ?_
  refine c_seq ?_
  refine c_drawE [(0, true), (1, true), (2, false), (3, false), (4, true), (5, true), (6, true), (7, true), (8, true)] [Wk.box b3 25 [.slice pu us.length cu, .slice pk ks.length ck]] S ?_; clear S; intro w S
  iterate 2 (refine dq S ?_; clear S; intro a S)
  refine dl ?_
  refine sr S (rows22_c ls pl cl _ w (foots_lt S) hll (S.gl pl)) ?_; clear S; rintro _ a w ⟨p4, c4, rs, rfl, r6, rc, rn, hfr⟩ S
  replace S := S.add hfr
  refine de S ?_
  refine dl ?_
  refine sr S (forge_c us ks rs pu pk p4 cu ck c4 _ w (foots_lt S) (by omega) (by omega) r6 rc rn (S.wd.facts (SlF pu (encL us)) (by simp)) (S.wd.facts (LsF pk 0 ks) (by simp)) (S.gl p4)) ?_; clear S; rintro _ a w ⟨e, p5, c5, os, rfl, ho6, hoe, hok, hfo⟩ S
  replace S := S.add hfo
  refine de S ?_
  iterate 5 (refine dq S ?_; clear S; intro a S)
  refine dn ?_
  refine xtn ?_
  iterate 2 (refine c_seq ?_)
  refine c_region ?_
  iterate 2 (refine sq S ?_; clear S; intro a S)
  refine wl_nil ?_
  refine xtn ?_
  refine c_cond S (fun h5 => ?_) (fun h5 => ?_)
  · refine c_seq ?_
    refine c_region ?_
    iterate 4 (refine sq S ?_; clear S; intro a S)
    refine wl_nil ?_
    refine xtn ?_
    refine c_ret ?_
    refine xtr ?_
    have he0 : e ≠ 0 := by simpa using h5
    obtain rfl := hoe he0
    refine end1 S (fun _ => ?_)
    rfl
  · refine c_skip ?_
    refine xtn ?_
    refine c_seq ?_
    have he0 : e = 0 := by simpa using h5
    subst he0
    obtain ⟨hR, hos⟩ := hok rfl
    refine c_region ?_
    refine sq S ?_; clear S; intro a S
    refine wl_nil ?_
    refine xtn ?_
    iterate 2 (refine c_seq ?_)
    refine c_region ?_
    iterate 3 (refine sq S ?_; clear S; intro a S)
    refine wl_nil ?_
    refine xtn ?_
    refine c_block ?_
    replace S := S.addNil 35 5
    refine c_fore4 S (fun (k : Nat) (ms : List LTerm) (p' : Option Addr) (c' : Nat) uu => [(9, .slice p' ms.length c'), (1, uu 11), (27, .int .i64 (k : Nat)), (0, uu 40), (0, uu 41), (0, uu 42), (0, uu 43), (0, uu 44), (0, uu 45), (0, uu 46), (0, uu 47), (0, uu 48), (0, uu 49), (0, uu 50), (0, uu 51), (0, uu 52), (0, uu 53)]) (fun (k : Nat) (ms : List LTerm) (p' : Option Addr) (c' : Nat) => [Wk.row 35 5 p' ms.length c' (encL ms), Wk.box b3 25 [.slice pu us.length cu, .slice pk ks.length ck]]) (fun (k : Nat) (ms : List LTerm) (p' : Option Addr) (c' : Nat) => [AllL ms, GlF p5 os, LsF p2 0 ts, LsF pk 0 ks, SlF pu (encL us)]) (fun (k : Nat) (ms : List LTerm) (p' : Option Addr) (c' : Nat) => k ≤ os.length ∧ ms.length ≤ k ∧ ∀ t ∈ ms.map LTerm.t, Good t ∧ derB (ks.map LTerm.t) t = true) (fun (k : Nat) (ms : List LTerm) (p' : Option Addr) (c' : Nat) => os.length - k) (0) ([]) (none) (0) ?_ S.uu ?_ ?_
    · exact ⟨Nat.zero_le _, Nat.le_refl _, nofun⟩
    · replace S := S.add (Φ := AllL []) (fun _ _ x hx => by cases hx)
      exact S.sub [Wk.row 35 5 none 0 0 [], Wk.box b3 25 [.slice pu us.length cu, .slice pk ks.length ck]] [AllL [], GlF p5 os, LsF p2 0 ts, LsF pk 0 ks, SlF pu (encL us)]
    · clear S; rintro k ms p' c' uu a w ⟨hkk, hmk, hms⟩ S
      refine c_seq ?_
      refine c_region ?_
      refine sq S ?_; clear S; intro a S
      refine wl_nil ?_
      refine xtn ?_
      refine c_seq ?_
      refine c_cond S (fun h9 => ?_) (fun h9 => ?_)
      · refine c_skip ?_
        refine xtn ?_
        refine c_seq ?_
        refine c_block ?_
        refine c_seq ?_
        have hkl : k < os.length := by simp at h9; omega
        have hK : KLt k os.length := ⟨hkl⟩
        refine c_region ?_
        iterate 2 (refine sq S ?_; clear S; intro a S)
        refine sa S ?_; clear S; intro b11 a w S
        refine sw S ?_; clear S; intro a w S
        refine wl_nil ?_
        refine xtn ?_
        refine c_seq ?_
        refine c_region ?_
        iterate 3 (refine sq S ?_; clear S; intro a S)
        refine sr S (same_c (nthG os k).term zeroL w (S.t0 _) (S.t0 _)) ?_; clear S; rintro _ a w rfl S
        refine sq S ?_; clear S; intro a S
        refine wl_nil ?_
        refine xtn ?_
        refine c_cond S (fun h11 => ?_) (fun h11 => ?_)
        · refine c_region ?_
          iterate 3 (refine sq S ?_; clear S; intro a S)
          refine sn S ?_; clear S; intro b51 a w S
          refine sap S (by simp [maxLen]; omega) (by omega) ?_; clear S; rintro p12 c12 a w - S
          rw [show encL ms ++ [.int .i64 (nthG os k).term.kind, .int .i64 (nthG os k).term.user, .int .i64 (nthG os k).term.num, str (nthG os k).term.text, .slice (nthG os k).term.p (nthG os k).term.kids.length (nthG os k).term.cap] = encL (ms ++ [(nthG os k).term]) from by rw [encL_append ms [_], encT_cells], show ms.length + 1 = (ms ++ [(nthG os k).term]).length from by simp] at S
          refine sq S ?_; clear S; intro a S
          refine wl_nil ?_
          refine xbn ?_
          refine xtn ?_
          refine c_region ?_
          iterate 2 (refine sq S ?_; clear S; intro a S)
          refine wl_nil ?_
          refine xtn ?_
          rw [w64 ((k : Int) + 1) (by omega) (by omega)] at S
          have hne : (nthG os k).term.t ≠ zeroT := fun h => by rw [h, (sameF_iff zeroT zeroL.t).2 rfl] at h11; simp at h11
          have hgd := (hos _ (nthG_mem hkl)).resolve_left hne
          have h1 : Stable _ _ (AllL ms) := S.wd.facts (AllL ms) (by simp)
          have h2 := S.t (nthG os k).term
          replace S := S.add (Φ := AllL (ms ++ [(nthG os k).term])) (fun w' hw' x hx => by
            rcases List.mem_append.1 hx with h | h
            · exact h1 w' hw' x h
            · rw [List.mem_singleton.1 h]; exact h2 w' hw')
          refine ⟨k + 1, ms ++ [(nthG os k).term], p12, c12, S.uu, ⟨hkl, by simp; omega, fun t ht => ?_⟩, S.sub _ _, by omega⟩
          rw [List.map_append] at ht
          rcases List.mem_append.1 ht with ht | ht
          · exact hms t ht
          · rw [List.mem_singleton.1 ht]; exact hgd
        · refine c_skip ?_
          refine xbn ?_
          refine xtn ?_
          refine c_region ?_
          iterate 2 (refine sq S ?_; clear S; intro a S)
          refine wl_nil ?_
          refine xtn ?_
          rw [w64 ((k : Int) + 1) (by omega) (by omega)] at S
          exact ⟨k + 1, ms, p', c', S.uu, ⟨hkl, by omega, hms⟩, S.sub _ _, by omega⟩
      · refine c_exit ?_
        iterate 2 (refine xte ?_)
        refine xbe ?_
        refine xtn ?_
        refine c_seq ?_
        refine c_region ?_
        iterate 2 (refine sq S ?_; clear S; intro a S)
        have hall : Stable _ _ (AllL ms) := S.wd.facts (AllL ms) (by simp)
        replace S := S.rowLs (fun x hx => (AllL.get hall hx).tl)
        refine sr S (Learn_c us ks ms pu pk p' cu ck c' _ w (foots_lt S) (by omega) (by omega) (by omega) (S.wd.facts (SlF pu (encL us)) (by simp)) (S.wd.facts (LsF pk 0 ks) (by simp)) (S.wd.facts (LsF p' 0 ms) (by simp))) ?_; clear S hall; rintro _ a w ⟨e, pu', cu', pk', ck', us', ks', rfl, hfu', hfk', he1, he3, he4, -⟩ S
        replace S := (S.add hfu').add hfk'
        have he01 := (he1 hR fun t ht => (hms t ht).1).1
        iterate 3 (refine sq S ?_; clear S; intro a S)
        refine sa S ?_; clear S; intro b12 a w S
        refine sw S ?_; clear S; intro a w S
        refine sq S ?_; clear S; intro a S
        refine wl_nil ?_
        refine xtn ?_
        iterate 2 (refine c_seq ?_)
        refine c_region ?_
        iterate 2 (refine sq S ?_; clear S; intro a S)
        refine wl_nil ?_
        refine xtn ?_
        refine c_cond S (fun h15 => ?_) (fun h15 => ?_)
        · refine c_seq ?_
          refine c_region ?_
          iterate 3 (refine sq S ?_; clear S; intro a S)
          refine wl_nil ?_
          refine xtn ?_
          refine c_ret ?_
          refine xtr ?_
          have he6 : e = 6 := by
            have : e ≠ 0 := by simpa using h15
            omega
          refine end1 S (fun _ => ?_)
          rw [he6]; rfl
        · refine c_skip ?_
          refine xtn ?_
          iterate 2 (refine c_seq ?_)
          have he0 : e = 0 := by simpa using h15
          subst he0
          obtain ⟨-, hG, rfl, hks', hk5⟩ := he3 rfl
          rw [List.map_append] at hks'
          have hR' : RightA (ks'.map LTerm.t) us' := by rw [hks']; exact learnt_right hR hG (by rw [← hks', List.length_map]; omega)
          have hgA : ∀ t ∈ ks.map LTerm.t ++ ms.map LTerm.t, Good t := fun t ht => (List.mem_append.1 ht).elim (hR.1.2.1 t) (hG t)
          have hsame := learnt_same hgA (fun t ht => (hms t ht).2)
          refine c_region ?_
          iterate 3 (refine sq S ?_; clear S; intro a S)
          refine wl_nil ?_
          refine xtn ?_
          refine c_block ?_
          refine c_forb1 S (fun (k : Nat) uu => [(6, uu 6), (7, uu 14), (0, uu 15), (0, uu 16), (0, uu 17), (0, uu 18), (47, .int .i64 (k : Nat)), (0, uu 67), (0, uu 68), (0, uu 69), (0, uu 70), (0, uu 71), (0, uu 72), (0, uu 73), (0, uu 74), (0, uu 75), (0, uu 76), (0, uu 77), (0, uu 78), (0, uu 79), (0, uu 80), (0, uu 81), (0, uu 82), (0, uu 83), (0, uu 84), (0, uu 85), (0, uu 86), (0, uu 87), (0, uu 88), (0, uu 89), (0, uu 90)]) (fun (k : Nat) => k ≤ ts.length) (fun (k : Nat) => ts.length - k) (0) ?_ S.uu ?_ ?_
          · exact Nat.zero_le _
          · first | exact S | exact S.sub _ _
          · clear S; rintro k uu a w hk2 S
            refine c_seq ?_
            refine c_region ?_
            refine sq S ?_; clear S; intro a S
            refine wl_nil ?_
            refine xtn ?_
            refine c_seq ?_
            refine c_cond S (fun h18 => ?_) (fun h18 => ?_)
            · refine c_skip ?_
              refine xtn ?_
              refine c_seq ?_
              refine c_block ?_
              refine c_seq ?_
              have hkl : k < ts.length := by simp at h18; omega
              have hK : KLt k ts.length := ⟨hkl⟩
              refine c_region ?_
              iterate 2 (refine sq S ?_; clear S; intro a S)
              refine sa S ?_; clear S; intro b14 a w S
              refine sw S ?_; clear S; intro a w S
              refine wl_nil ?_
              refine xtn ?_
              refine c_seq ?_
              refine c_region ?_
              iterate 2 (refine sq S ?_; clear S; intro a S)
              refine sr S (acan_c us' ks (nthL ts k) pu pk cu ck w (by omega) (by omega) (S.mem.fact0 (SlF pu (encL us'))) (S.mem.fact0 (LsF pk 0 ks)) (S.mem.t0 _)) ?_; clear S; rintro _ a w ⟨hc1, -⟩ S
              obtain rfl := hc1 hR
              rw [chk_good hR, can_good hR] at S
              iterate 5 (refine sq S ?_; clear S; intro a S)
              refine wl_nil ?_
              refine xtn ?_
              refine c_seq ?_
              refine c_region ?_
              iterate 2 (refine sq S ?_; clear S; intro a S)
              refine sr S (acan_c us' ks' (nthL ts k) pu' pk' cu' ck' w (by omega) (by omega) (S.mem.fact0 (SlF pu' (encL us'))) (S.mem.fact0 (LsF pk' 0 ks')) (S.mem.t0 _)) ?_; clear S; rintro _ a w ⟨hc1, -⟩ S
              obtain rfl := hc1 hR'
              rw [chk_good hR', can_good hR', hks', hsame] at S
              iterate 5 (refine sq S ?_; clear S; intro a S)
              refine wl_nil ?_
              refine xtn ?_
              refine c_seq ?_
              refine c_region ?_
              iterate 3 (refine sq S ?_; clear S; intro a S)
              rw [show (!decide ((if badF (nthL ts k).t = true then (150 : Int) else 0) = if badF (nthL ts k).t = true then 150 else 0)) = false from by simp] at S
              refine sq S ?_; clear S; intro a S
              refine gT' S ?_
              refine sq S ?_; clear S; intro a S
              refine gT' S ?_
              refine sq S ?_; clear S; intro a S
              refine gT' S ?_
              refine sq S ?_; clear S; intro a S
              rw [show (!decide ((!badF (nthL ts k).t && derB (ks.map LTerm.t) (nthL ts k).t) = (!badF (nthL ts k).t && derB (ks.map LTerm.t) (nthL ts k).t))) = false from by simp] at S
              refine sq S ?_; clear S; intro a S
              refine wl_nil ?_
              refine xtn ?_
              refine c_condF S ?_
              refine c_skip ?_
              refine xbn ?_
              refine xtn ?_
              refine c_region ?_
              iterate 2 (refine sq S ?_; clear S; intro a S)
              refine wl_nil ?_
              refine xtn ?_
              rw [w64 ((k : Int) + 1) (by omega) (by omega)] at S
              exact ⟨k + 1, S.uu, hkl, S.sub _ _, by omega⟩
            · refine c_exit ?_
              iterate 2 (refine xte ?_)
              refine xbe ?_
              refine xtn ?_
              refine c_seq ?_
              refine c_region ?_
              refine sq S ?_; clear S; intro a S
              refine wl_nil ?_
              refine xtn ?_
              refine c_ret ?_
              refine end1 S (fun _ => ?_)
              rfl
end Go.Proofs.Ytgielmldblopeaa
