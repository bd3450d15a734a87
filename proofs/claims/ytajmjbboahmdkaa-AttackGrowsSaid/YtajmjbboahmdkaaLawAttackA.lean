/- The laws AttackGrows and AttackSame. -/
import Derived.Test.YtajmjbboahmdkaaAttackF
namespace Go.Proofs.Ytajmjbboahmdkaa
open Go Go.Wk
set_option synthInstance.maxSize 100000
set_option synthInstance.maxHeartbeats 400000
set_option maxRecDepth 100000

structure LAtk where
  users : Sl Int
  known : Sl LTerm
instance encAtk : Enc LAtk := ⟨2, fun a => [a.users.v, a.known.v], fun _ => rfl, fun x u hu => by simp only [List.mem_cons, List.not_mem_nil, or_false] at hu; rcases hu with rfl | rfl <;> rfl⟩
instance layAtk : Lay LAtk := { encAtk with
  dflt := ⟨⟨none, 0, []⟩, ⟨none, 0, []⟩⟩
  inn := fun w a => Lay.inn w a.users ∧ Lay.inn w a.known
  mono := fun w w' x h hx => ⟨Lay.mono w w' x.users h hx.1, Lay.mono w w' x.known h hx.2⟩ }
/-- what is known of an attacker that came in. -/
structure AtkIn (M : Nat → Prop) (w : World) (x : LAtk) : Prop where
  u1 : x.users.xs.length ≤ x.users.cap
  u2 : x.users.cap ≤ maxLen
  k1 : x.known.xs.length ≤ x.known.cap
  k2 : x.known.cap ≤ maxLen
  u : Stable M w (SlF x.users.p (encL x.users.xs))
  k : Stable M w (LsF x.known.p 0 x.known.xs)
theorem AtkIn.of {w : World} {x : LAtk} (h : Lay.inn w x) : AtkIn (fun _ => False) w x := ⟨h.1.1, h.1.2.1, h.2.1, h.2.2.1, h.1.2.2.stable.imp fun _ h => h.1, h.2.2.2.stable.imp fun _ h => gl_ls h⟩
abbrev vAtk (x : LAtk) : Value := vA x.users.p x.users.xs.length x.users.cap x.known.p x.known.xs.length x.known.cap

theorem smallT_idem : ∀ (d : Nat) (t : Term), smallT d (smallT d t) = smallT d t
  | 0, .mk k u n s _ => by simp [smallT, List.take_take]
  | d + 1, .mk k u n s ks => by
    simp only [smallT, List.take_take, Nat.min_self, Term.mk.injEq, true_and]
    have e : ((ks.take 3).map (smallT d)).map (smallT d) = (ks.take 3).map (smallT d) := by
      rw [List.map_map]; exact List.map_congr_left fun t _ => smallT_idem d t
    have e2 : ((ks.take 3).map (smallT d)).take 3 = (ks.take 3).map (smallT d) := List.take_of_length_le (by simp; omega)
    first | rw [e, e2] | (rw [← List.map_take] at *; rw [e2, e])
theorem shortK_idem (K : List Term) : shortK (shortK K) = shortK K := by
  have h : (shortK K).take (shortN (shortK K).length) = shortK K := by
    refine List.take_of_length_le ?_
    simp only [shortK, shortN, List.length_map, List.length_take]
    split <;> split <;> omega
  conv => lhs; rw [shortK, h]
  rw [shortK, List.map_map]
  exact List.map_congr_left fun t _ => smallT_idem 6 t
theorem short_len (K : List Term) : (shortK K).length ≤ 501 := by
  simp only [shortK, shortN, List.length_map, List.length_take]
  split <;> omega
theorem sameLF_refl (K : List Term) : sameLF K K = true := (sameLF_iff _ _).2 rfl
theorem sameA_refl (us : List Int) (K : List Term) : sameA us us K K = true := by simp [sameA, sameLF_refl]
structure AV where
  pu : Option Addr
  cu : Nat
  pk : Option Addr
  ck : Nat
  ks : List LTerm
theorem samelaw22_c (x y : LAtk) (w0 : World) (hx : AtkIn (fun _ => False) w0 x) (hy : AtkIn (fun _ => False) w0 y) : Ret Try.prog 5 [vAtk x, vAtk y] w0 (fun _ => False) fun v _ => v = .bool true := by
  have hkx : x.known.xs.length ≤ 9223372036854775807 := by have := hx.k1; have := hx.k2; unfold maxLen at this; omega
  have hky : y.known.xs.length ≤ 9223372036854775807 := by have := hy.k1; have := hy.k2; unfold maxLen at this; omega
  refine enter Try.func5 rfl rfl (Wd.begin (fs := [SlF x.users.p (encL x.users.xs), LsF x.known.p 0 x.known.xs, SlF y.users.p (encL y.users.xs), LsF y.known.p 0 y.known.xs]) (by simp; exact ⟨hx.u, hx.k, hy.u, hy.k⟩)) (fun a S => ?_)
  simp only [Try.ntmps5, List.length_cons, List.length_nil, Nat.reduceAdd, Nat.reduceSub, List.replicate_succ, List.replicate_zero, List.cons_append, List.nil_append] at S
  refine c_seq ?_
  refine c_region ?_
  refine sa S ?_; clear S; intro b2 a w S
  refine sa S ?_; clear S; intro b3 a w S
  refine sq S ?_; clear S; intro a S
  refine wl_nil ?_
  refine xtn ?_
  iterate 2 (refine c_seq ?_)
  refine c_region ?_
  refine sr S (wakes22_c _) ?_; clear S; rintro _ a w rfl S
  refine sq S ?_; clear S; intro a S
  rw [show (!true) = false from rfl] at S
  refine wl_nil ?_
  refine xtn ?_
  refine c_condF S ?_
  refine c_skip ?_
  refine xtn ?_
  refine c_seq ?_
  refine c_drwe2 (.b2 0 2 (.b2 1 2 (.l 2 (.l 3 (.l 4 (.l 5 (.e))))) (.l 1 (.l 3 (.l 4 (.l 5 (.e)))))) (.l 0 (.l 1 (.l 3 (.l 4 (.l 5 (.e))))))) S (fun (r : AV) (q : AV) uu => [(7, uu 7), (0, uu 8), (0, uu 9), (0, uu 10)]) [] (fun (r : AV) (q : AV) => [Wk.box b3 25 [.slice q.pu (y.users.xs.take 8).length q.cu, .slice q.pk q.ks.length q.ck], Wk.box b2 25 [.slice r.pu (x.users.xs.take 8).length r.cu, .slice r.pk r.ks.length r.ck]]) (fun (r : AV) (q : AV) => [SlF r.pu (encL (x.users.xs.take 8)), LsF r.pk 0 r.ks, SlF q.pu (encL (y.users.xs.take 8)), LsF q.pk 0 q.ks]) (fun (r : AV) (q : AV) => r.ks.map LTerm.t = shortK (x.known.xs.map LTerm.t) ∧ (x.users.xs.take 8).length ≤ r.cu) ?_ ?_
  · intro w S
    refine tb2 ?_ ?_
    · refine sq S ?_; clear S; intro a S
      refine te S ?_
      refine tb2 ?_ ?_
      · refine sr S (short_c x.users.xs x.known.xs x.users.p x.known.p x.users.cap x.known.cap _ w (foots_lt S) hx.u1 hkx (S.wd.facts (SlF x.users.p (encL x.users.xs)) (by simp)) (S.wd.facts (LsF x.known.p 0 x.known.xs) (by simp))) ?_; clear S; rintro _ a w ⟨pu, cu, pk, ck, ks, rfl, hks, q1, q2, q3, q4, hfu, hfk⟩ S
        replace S := (S.add hfu).add hfk
        refine te S ?_
        refine tl ?_
        refine sq S ?_; clear S; intro a S
        refine te S ?_
        refine tl ?_
        refine sr S (short_c y.users.xs y.known.xs y.users.p y.known.p y.users.cap y.known.cap _ w (foots_lt S) hy.u1 hky (S.wd.facts (SlF y.users.p (encL y.users.xs)) (by simp)) (S.wd.facts (LsF y.known.p 0 y.known.xs) (by simp))) ?_; clear S; rintro _ a w ⟨qu, du, qk, dk, ls, rfl, hls, r1, r2, r3, r4, hgu, hgk⟩ S
        replace S := (S.add hgu).add hgk
        refine te S ?_
        refine tl ?_
        refine sw S ?_; clear S; intro a w S
        refine te S ?_
        refine tl ?_
        refine sw S ?_; clear S; intro a w S
        refine te S ?_
        refine tn ?_
        replace S := (((S.add (S.wd.facts (LsF qk 0 ls) (by simp))).add (S.wd.facts (SlF qu (encL (y.users.xs.take 8))) (by simp))).add (S.wd.facts (LsF pk 0 ks) (by simp))).add (S.wd.facts (SlF pu (encL (x.users.xs.take 8))) (by simp))
        exact ⟨⟨pu, cu, pk, ck, ks⟩, ⟨qu, du, qk, dk, ls⟩, S.uu, ⟨hks, q1⟩, S.sub _ _⟩
      · refine sq S ?_; clear S; intro a S
        refine te S ?_
        refine tl ?_
        refine sr S (short_c x.users.xs x.known.xs x.users.p x.known.p x.users.cap x.known.cap _ w (foots_lt S) hx.u1 hkx (S.wd.facts (SlF x.users.p (encL x.users.xs)) (by simp)) (S.wd.facts (LsF x.known.p 0 x.known.xs) (by simp))) ?_; clear S; rintro _ a w ⟨pu, cu, pk, ck, ks, rfl, hks, q1, q2, q3, q4, hfu, hfk⟩ S
        replace S := (S.add hfu).add hfk
        refine te S ?_
        refine tl ?_
        refine sr S (short_c y.users.xs y.known.xs y.users.p y.known.p y.users.cap y.known.cap _ w (foots_lt S) hy.u1 hky (S.wd.facts (SlF y.users.p (encL y.users.xs)) (by simp)) (S.wd.facts (LsF y.known.p 0 y.known.xs) (by simp))) ?_; clear S; rintro _ a w ⟨qu, du, qk, dk, ls, rfl, hls, r1, r2, r3, r4, hgu, hgk⟩ S
        replace S := (S.add hgu).add hgk
        refine te S ?_
        refine tl ?_
        refine sw S ?_; clear S; intro a w S
        refine te S ?_
        refine tl ?_
        refine sw S ?_; clear S; intro a w S
        refine te S ?_
        refine tn ?_
        replace S := (((S.add (S.wd.facts (LsF qk 0 ls) (by simp))).add (S.wd.facts (SlF qu (encL (y.users.xs.take 8))) (by simp))).add (S.wd.facts (LsF pk 0 ks) (by simp))).add (S.wd.facts (SlF pu (encL (x.users.xs.take 8))) (by simp))
        exact ⟨⟨pu, cu, pk, ck, ks⟩, ⟨qu, du, qk, dk, ls⟩, S.uu, ⟨hks, q1⟩, S.sub _ _⟩
    · refine sq S ?_; clear S; intro a S
      refine te S ?_
      refine tl ?_
      refine sq S ?_; clear S; intro a S
      refine te S ?_
      refine tl ?_
      refine sr S (short_c x.users.xs x.known.xs x.users.p x.known.p x.users.cap x.known.cap _ w (foots_lt S) hx.u1 hkx (S.wd.facts (SlF x.users.p (encL x.users.xs)) (by simp)) (S.wd.facts (LsF x.known.p 0 x.known.xs) (by simp))) ?_; clear S; rintro _ a w ⟨pu, cu, pk, ck, ks, rfl, hks, q1, q2, q3, q4, hfu, hfk⟩ S
      replace S := (S.add hfu).add hfk
      refine te S ?_
      refine tl ?_
      refine sr S (short_c y.users.xs y.known.xs y.users.p y.known.p y.users.cap y.known.cap _ w (foots_lt S) hy.u1 hky (S.wd.facts (SlF y.users.p (encL y.users.xs)) (by simp)) (S.wd.facts (LsF y.known.p 0 y.known.xs) (by simp))) ?_; clear S; rintro _ a w ⟨qu, du, qk, dk, ls, rfl, hls, r1, r2, r3, r4, hgu, hgk⟩ S
      replace S := (S.add hgu).add hgk
      refine te S ?_
      refine tl ?_
      refine sw S ?_; clear S; intro a w S
      refine te S ?_
      refine tl ?_
      refine sw S ?_; clear S; intro a w S
      refine te S ?_
      refine tn ?_
      replace S := (((S.add (S.wd.facts (LsF qk 0 ls) (by simp))).add (S.wd.facts (SlF qu (encL (y.users.xs.take 8))) (by simp))).add (S.wd.facts (LsF pk 0 ks) (by simp))).add (S.wd.facts (SlF pu (encL (x.users.xs.take 8))) (by simp))
      exact ⟨⟨pu, cu, pk, ck, ks⟩, ⟨qu, du, qk, dk, ls⟩, S.uu, ⟨hks, q1⟩, S.sub _ _⟩
  clear S; rintro r q uu a w ⟨hks, q1⟩ S
  refine xtn ?_
  refine c_seq ?_
  obtain ⟨pu, cu, pk, ck, ks⟩ := r
  obtain ⟨qu, du, qk, dk, ls⟩ := q
  dsimp only at S hks q1
  have hl1 : (x.users.xs.take 8).length ≤ 8 := by simp; omega
  have hl2 : ks.length ≤ 501 := by have h1 := congrArg List.length hks; have h2 := short_len (x.known.xs.map LTerm.t); rw [List.length_map] at h1; omega
  refine c_drawE [(0, true), (1, true), (3, true), (4, true), (2, false), (5, false), (6, true), (7, true), (8, true), (9, true), (10, false), (11, false), (12, true), (13, true)] [Wk.box b3 25 [.slice qu (y.users.xs.take 8).length du, .slice qk ls.length dk], Wk.box b2 25 [.slice pu (x.users.xs.take 8).length cu, .slice pk ks.length ck]] S ?_; clear S; intro w S
  iterate 4 (refine dq S ?_; clear S; intro a S)
  refine dl ?_
  refine sr S (asame_c (x.users.xs.take 8) (y.users.xs.take 8) ks ls pu pk qu qk cu ck du dk w (by omega) (by omega) (S.mem.fact0 (SlF pu (encL (x.users.xs.take 8)))) (S.mem.fact0 (LsF pk 0 ks)) (S.mem.fact0 (SlF qu (encL (y.users.xs.take 8)))) (S.mem.fact0 (LsF qk 0 ls))) ?_; clear S; rintro _ a w rfl S
  refine de S ?_
  refine dl ?_
  refine sr S (r22same_c (x.users.xs.take 8) (y.users.xs.take 8) ks ls pu pk qu qk cu ck du dk w (by omega) (by omega) (S.mem.fact0 (SlF pu (encL (x.users.xs.take 8)))) (S.mem.fact0 (LsF pk 0 ks)) (S.mem.fact0 (SlF qu (encL (y.users.xs.take 8)))) (S.mem.fact0 (LsF qk 0 ls))) ?_; clear S; rintro _ a w rfl S
  refine de S ?_
  refine dq S ?_; clear S; intro a S
  rw [show ∀ b : Bool, decide (b = b) = true from fun b => by simp] at S
  refine dq S ?_; clear S; intro a S
  iterate 2 (refine dqG S ?_; clear S; intro a S)
  refine dl ?_
  refine gT S ?_
  refine sr S (short_c (x.users.xs.take 8) ks pu pk cu ck _ w (foots_lt S) q1 (by omega) (S.wd.facts (SlF pu (encL (x.users.xs.take 8))) (by simp)) (S.wd.facts (LsF pk 0 ks) (by simp))) ?_; clear S; rintro _ a w ⟨pu3, cu3, pk3, ck3, ks3, rfl, hks3, s1, s2, s3, s4, hhu, hhk⟩ S
  replace S := (S.add hhu).add hhk
  refine de S ?_
  refine dl ?_
  refine gT S ?_
  refine sr S (asame_c (x.users.xs.take 8) ((x.users.xs.take 8).take 8) ks ks3 pu pk pu3 pk3 cu ck cu3 ck3 w (by omega) (by omega) (S.mem.fact0 (SlF pu (encL (x.users.xs.take 8)))) (S.mem.fact0 (LsF pk 0 ks)) (S.mem.fact0 (SlF pu3 (encL ((x.users.xs.take 8).take 8)))) (S.mem.fact0 (LsF pk3 0 ks3))) ?_; clear S; rintro _ a w rfl S
  rw [List.take_take, Nat.min_self, hks3, hks, shortK_idem, sameA_refl] at S
  refine de S ?_
  iterate 2 (refine dq S ?_; clear S; intro a S)
  refine dn ?_
  refine xtn ?_
  refine c_ret ?_
  refine end1 S (fun _ => ?_)
  rfl
end Go.Proofs.Ytajmjbboahmdkaa
