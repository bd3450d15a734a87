/- Package fresh: Read, Publish. -/
import Derived.Test.YtmngicgdgpimlaaDoorFreshA
namespace Go.Proofs.YtmngicgdgpimlaaDoor
open Go Go.Wk
set_option synthInstance.maxSize 100000
set_option synthInstance.maxHeartbeats 400000
set_option maxRecDepth 100000

/-- these terms are what a user has published. -/
def FreshOk (u n : Int) (ms : List LMark) (S R : Term) : Prop := (1 ≤ n ∧ n ≤ 65535) ∧ okM ms = true ∧ Good S ∧ (∃ leaf, S = rootedT u leaf n (rootT ms)) ∧ R = writeT ms ∧ Good R
theorem rootedT_inj {u v leaf leaf' n n' : Int} {r r' : Term} (h : rootedT u leaf n r = rootedT v leaf' n' r') : u = v ∧ leaf = leaf' ∧ r = r' := by
  simp only [rootedT, signT, Term.mk.injEq, List.cons.injEq, and_true] at h
  have := listT_inj h.2.2.2.2
  simp only [List.cons.injEq, and_true] at this
  exact ⟨h.2.1, h.2.2.1, this.2.2⟩
theorem rootedT_num {u v leaf leaf' n n' : Int} {r r' : Term} (h : rootedT u leaf n r = rootedT v leaf' n' r') (hn : 1 ≤ n ∧ n ≤ 65535) (hn' : 1 ≤ n' ∧ n' ≤ 65535) : n = n' := by
  simp only [rootedT, signT, Term.mk.injEq, List.cons.injEq, and_true] at h
  have := listT_inj h.2.2.2.2
  simp only [List.cons.injEq, and_true, textT, Term.mk.injEq] at this
  have h1 := atoi_itoa (n := n) ⟨by omega, hn.2⟩
  have h2 := atoi_itoa (n := n') ⟨by omega, hn'.2⟩
  rw [this.2.1.2.2.2, h2] at h1
  injection h1 with h1
  exact h1.symm
theorem FreshOk.uniq {u n n' : Int} {ms ms' : List LMark} {S R : Term} (h : FreshOk u n ms S R) (h' : FreshOk u n' ms' S R) : n = n' ∧ ms = ms' := by
  obtain ⟨a1, a2, a3, ⟨l, a4⟩, a5, a6⟩ := h
  obtain ⟨b1, b2, b3, ⟨l', b4⟩, b5, b6⟩ := h'
  exact ⟨rootedT_num (a4.symm.trans b4) a1 b1, write_inj (okM_V a2).2 (okM_V b2).2 (a5.symm.trans b5)⟩
theorem FreshOk.user {u v n n' : Int} {ms ms' : List LMark} {S R : Term} (h : FreshOk u n ms S R) (h' : FreshOk v n' ms' S R) : u = v := by
  obtain ⟨a1, a2, a3, ⟨l, a4⟩, a5, a6⟩ := h
  obtain ⟨b1, b2, b3, ⟨l', b4⟩, b5, b6⟩ := h'
  exact (rootedT_inj (a4.symm.trans b4)).1
def FReadR (M : Nat → Prop) (u : Int) (S R : Term) (v : Value) (w : World) : Prop := ∃ (n : Int) (p : Option Addr) (c : Nat) (ms : List LMark) (e : Int), v = .tuple ⟨[.int .i64 n, .slice p ms.length c, .int .i64 e]⟩ ∧ Stable M w (GlF p ms) ∧ ms.length ≤ c ∧
  (e = 0 → FreshOk u n ms S R) ∧ (e ≠ 0 → e = 251 ∧ n = 0 ∧ ms = [] ∧ ∀ n ms, ¬ FreshOk u n ms S R)
theorem fread_c (u : Int) (s r : LTerm) (M : Nat → Prop) (w0 : World) (hM : ∀ k, M k → k < w0.heap.size) (ht : Stable M w0 LibF) (hs : Stable M w0 (LtF s)) (hr : Stable M w0 (LtF r)) :
    Ret Tryd.prog 8 [.int .i64 u, vL s, vL r] w0 (fun _ => False) fun v w' => FReadR M u s.t r.t v w' := by
  refine enter Tryd.func8 rfl rfl (Wd.beginM (M := M) (fs := [TabF, LibF, LtF s, LtF r]) hM (by simp; exact ⟨ht.imp fun _ h => h.1, ht, hs, hr⟩)) (fun a S => ?_)
  simp only [Tryd.ntmps8, List.length_cons, List.length_nil, Nat.reduceAdd, Nat.reduceSub, List.replicate_succ, List.replicate_zero, List.cons_append, List.nil_append] at S
  refine c_seq ?_
  refine c_region ?_
  refine sa S ?_; clear S; intro b4 a w S
  refine sa S ?_; clear S; intro b5 a w S
  iterate 3 (refine sq S ?_; clear S; intro a S)
  refine wl_nil ?_
  refine xtn ?_
  refine c_seq ?_
  refine c_region ?_
  iterate 2 (refine sq S ?_; clear S; intro a S)
  refine sr S (rooted_c u s _ w (foots_lt S) (S.mem.fact LibF) (S.t s)) ?_; clear S; rintro _ a w ⟨n, x, b, rfl, hx, hb1, hb2⟩ S
  replace S := S.add hx
  iterate 4 (refine sq S ?_; clear S; intro a S)
  refine sa S ?_; clear S; intro b10 a w S
  refine sq S ?_; clear S; intro a S
  refine sw S ?_; clear S; intro a w S
  refine sq S ?_; clear S; intro a S
  refine wl_nil ?_
  refine xtn ?_
  refine c_seq ?_
  refine c_region ?_
  refine sq S ?_; clear S; intro a S
  refine sr S (tread_c r _ w (foots_lt S) (S.mem.fact LibF) (S.t r)) ?_; clear S; rintro _ a w ⟨p, c, ms, e, rfl, hms, hc, he1, he2⟩ S
  replace S := S.add hms
  iterate 5 (refine sq S ?_; clear S; intro a S)
  refine wl_nil ?_
  refine xtn ?_
  iterate 2 (refine c_seq ?_)
  refine c_region ?_
  iterate 3 (refine sq S ?_; clear S; intro a S)
  iterate 2 (refine gQ S ?_; clear S; intro a S)
  refine sq S ?_; clear S; intro a S
  refine wl_nil ?_
  refine xtn ?_
  refine c_cond S (fun h3 => ?_) (fun h3 => ?_)
  · refine c_seq ?_
    refine c_region ?_
    iterate 3 (refine sq S ?_; clear S; intro a S)
    refine wl_nil ?_
    refine xtn ?_
    refine c_ret ?_
    refine xtr ?_
    have hno : ∀ n ms, ¬ FreshOk u n ms s.t r.t := by
      rintro n' ms' ⟨a1, a2, a3, ⟨l, a4⟩, a5, a6⟩
      have hb : b = true := by
        cases hb : b with
        | true => rfl
        | false => exact absurd a3 (hb2 hb l n' _ a1 a4)
      rw [hb] at h3
      have hne : e ≠ 0 := by simpa using h3
      exact (he2 hne).2.2 ms' a2 a5 a6
    refine end3 S (fun _ => ?_)
    exact ⟨0, none, 0, [], 251, rfl, fun _ _ => gl_nil, Nat.le_refl _, nofun, fun _ => ⟨rfl, rfl, rfl, hno⟩⟩
  · refine c_skip ?_
    refine xtn ?_
    iterate 2 (refine c_seq ?_)
    have h3' : b = true ∧ e = 0 := by simpa using h3
    obtain ⟨hg, hn, leaf, hst⟩ := hb1 h3'.1
    obtain ⟨ho, hw, hgr⟩ := he1 h3'.2
    have hml := (okM_V ho).1
    refine c_region ?_
    refine sq S ?_; clear S; intro a S
    refine sr S (troot_c ms p c _ w hc (by omega) (foots_lt S) (S.mem.fact TabF) (S.mem.fact (GlF p ms))) ?_; clear S; rintro _ a w hR S
    obtain ⟨q, hq, hqt, hqf⟩ := hR.yes ho
    subst hq
    replace S := S.add hqf
    iterate 3 (refine sq S ?_; clear S; intro a S)
    refine sa S ?_; clear S; intro b14 a w S
    refine sw S ?_; clear S; intro a w S
    refine sq S ?_; clear S; intro a S
    refine wl_nil ?_
    refine xtn ?_
    refine c_seq ?_
    refine c_region ?_
    iterate 3 (refine sq S ?_; clear S; intro a S)
    iterate 2 (refine gQ S ?_; clear S; intro a S)
    refine gC S ?_; clear S; intro a w S
    refine gQ S ?_; clear S; intro a S
    refine sq S ?_; clear S; intro a S
    refine wl_nil ?_
    refine xtn ?_
    refine c_cond S (fun h6 => ?_) (fun h6 => ?_)
    · refine c_seq ?_
      refine c_region ?_
      iterate 3 (refine sq S ?_; clear S; intro a S)
      refine wl_nil ?_
      refine xtn ?_
      refine c_ret ?_
      refine xtr ?_
      have hno : ∀ n ms, ¬ FreshOk u n ms s.t r.t := by
        rintro n' ms' ⟨a1, a2, a3, ⟨l, a4⟩, a5, a6⟩
        have : ms' = ms := write_inj (okM_V a2).2 (okM_V ho).2 (a5.symm.trans hw)
        subst this
        have hx : x.t = rootT ms' := (rootedT_inj (hst.symm.trans a4)).2.2
        have : sameF q.t x.t = true := (sameF_iff _ _).2 (by rw [hqt, hx])
        rw [this] at h6; simp at h6
      refine end3 S (fun _ => ?_)
      exact ⟨0, none, 0, [], 251, rfl, fun _ _ => gl_nil, Nat.le_refl _, nofun, fun _ => ⟨rfl, rfl, rfl, hno⟩⟩
    · refine c_skip ?_
      refine xtn ?_
      refine c_seq ?_
      refine c_region ?_
      iterate 5 (refine sq S ?_; clear S; intro a S)
      refine wl_nil ?_
      refine xtn ?_
      refine c_ret ?_
      have hlat := S.laterFact (M := M) (Φ := GlF p ms) (by simp)
      have hqx : q.t = x.t := by
        cases h : sameF q.t x.t with
        | true => exact (sameF_iff _ _).1 h
        | false => rw [h] at h6; simp at h6
      refine end3 S (fun _ => ?_)
      exact ⟨n, p, c, ms, 0, rfl, hlat, hc, fun _ => ⟨hn, ho, hg, ⟨leaf, by rw [hst, ← hqx, hqt]⟩, hw, hgr⟩, fun h => absurd rfl h⟩
theorem good_rooted {u leaf n : Int} {l : List LMark} (hu : 1 ≤ u ∧ u ≤ 6) (hl : 0 ≤ leaf ∧ leaf ≤ 65535) (hn : 1 ≤ n ∧ n ≤ 65535) (ho : okM l = true) : Good (rootedT u leaf n (rootT l)) := by
  have hv := okM_V ho
  obtain ⟨g1, g2, g3, g4⟩ := good_root _ (Nat.lt_succ_self l.length) hv.1 hv.2
  have et : ∀ x, cnt (textT x) = 1 := fun x => by simp [textT, cnt, cntL]
  have ed : ∀ x, dpt (textT x) = 1 := fun x => by simp [textT, dpt, dptL]
  have hc : cnt (rootT l) ≤ 97 := by split at g2 <;> omega
  have hn64 : (Lib.itoa n).length ≤ 64 := itoa_len ⟨by omega, hn.2⟩
  have p1 : Good (.pair (rootT l) (textT [])) := good_pair g1 (good_text (by simp)) (by rw [et]; omega) (by omega) (by rw [ed]; omega)
  have c1 : cnt (.pair (rootT l) (textT [])) ≤ 99 := by rw [cnt_pair, et]; omega
  have d1 : dpt (.pair (rootT l) (textT [])) ≤ 34 := by rw [dpt_pair, ed]; omega
  have p2 : Good (.pair (textT (Lib.itoa n)) (.pair (rootT l) (textT []))) := good_pair (good_text hn64) p1 (by rw [et]; omega) (by rw [ed]; omega) (by omega)
  have c2 : cnt (.pair (textT (Lib.itoa n)) (.pair (rootT l) (textT []))) ≤ 101 := by rw [cnt_pair, et]; omega
  have d2 : dpt (.pair (textT (Lib.itoa n)) (.pair (rootT l) (textT []))) ≤ 35 := by rw [dpt_pair, ed]; omega
  have p3 : Good (.pair (textT wordR) (.pair (textT (Lib.itoa n)) (.pair (rootT l) (textT [])))) := good_pair (good_text (by decide)) p2 (by rw [et]; omega) (by rw [ed]; omega) (by omega)
  have c3 : cnt (.pair (textT wordR) (.pair (textT (Lib.itoa n)) (.pair (rootT l) (textT [])))) ≤ 103 := by rw [cnt_pair, et]; omega
  have d3 : dpt (.pair (textT wordR) (.pair (textT (Lib.itoa n)) (.pair (rootT l) (textT [])))) ≤ 36 := by rw [dpt_pair, ed]; omega
  exact good_sign (a := .pair (textT wordR) (.pair (textT (Lib.itoa n)) (.pair (rootT l) (textT [])))) hu hl p3 (by omega) (by omega)
def pubF (u leaf n : Int) (l : List LMark) : Int := if knownF u = false ∨ leaf < 0 ∨ 65535 < leaf ∨ countF n = false then 2 else if okM l = false then 240 else 0
def PubR (M : Nat → Prop) (u leaf n : Int) (l : List LMark) (v : Value) (w : World) : Prop := ∃ (t r : LTerm) (e : Int), v = .tuple ⟨[vL t, vL r, .int .i64 e]⟩ ∧ Stable M w (LtF t) ∧ Stable M w (LtF r) ∧ e = pubF u leaf n l ∧
  (e = 0 → okM l = true ∧ (1 ≤ u ∧ u ≤ 6) ∧ (0 ≤ leaf ∧ leaf ≤ 65535) ∧ (1 ≤ n ∧ n ≤ 65535) ∧ t.t = rootedT u leaf n (rootT l) ∧ r.t = writeT l) ∧ (e ≠ 0 → t.t = zeroT ∧ r.t = zeroT)
theorem publish_c (u leaf n : Int) (l : List LMark) (p : Option Addr) (c : Nat) (M : Nat → Prop) (w0 : World) (hc : l.length ≤ c) (hl : l.length ≤ 1000000) (hM : ∀ k, M k → k < w0.heap.size) (ht : Stable M w0 TabF) (hx : Stable M w0 (GlF p l)) :
    Ret Tryd.prog 7 [.int .i64 u, .int .i64 leaf, .int .i64 n, .slice p l.length c] w0 (fun _ => False) fun v w' => PubR M u leaf n l v w' := by
  refine enter Tryd.func7 rfl rfl (Wd.beginM (M := M) (fs := [TabF, GlF p l]) hM (by simp; exact ⟨ht, hx⟩)) (fun a S => ?_)
  simp only [Tryd.ntmps7, List.length_cons, List.length_nil, Nat.reduceAdd, Nat.reduceSub, List.replicate_succ, List.replicate_zero, List.cons_append, List.nil_append] at S
  refine c_seq ?_
  refine c_region ?_
  refine sa S ?_; clear S; intro b8 a w S
  refine sa S ?_; clear S; intro b9 a w S
  refine sq S ?_; clear S; intro a S
  refine wl_nil ?_
  refine xtn ?_
  iterate 2 (refine c_seq ?_)
  refine c_region ?_
  refine sq S ?_; clear S; intro a S
  refine sc S ?_; clear S; intro a w S
  iterate 2 (refine sq S ?_; clear S; intro a S)
  iterate 2 (refine gQ S ?_; clear S; intro a S)
  iterate 2 (refine sq S ?_; clear S; intro a S)
  iterate 2 (refine gQ S ?_; clear S; intro a S)
  iterate 2 (refine sq S ?_; clear S; intro a S)
  refine gQ S ?_; clear S; intro a S
  refine gC S ?_; clear S; intro a w S
  refine gQ S ?_; clear S; intro a S
  refine sq S ?_; clear S; intro a S
  refine wl_nil ?_
  refine xtn ?_
  refine c_cond S (fun h1 => ?_) (fun h1 => ?_)
  · refine c_seq ?_
    refine c_region ?_
    iterate 2 (refine sq S ?_; clear S; intro a S)
    iterate 2 (refine sw S ?_; clear S; intro a w S)
    refine sq S ?_; clear S; intro a S
    refine wl_nil ?_
    refine xtn ?_
    refine c_ret ?_
    refine xtr ?_
    have hz : knownF u = false ∨ leaf < 0 ∨ 65535 < leaf ∨ countF n = false := by
      simp only [Bool.or_eq_true, Bool.not_eq_true', decide_eq_true_eq] at h1
      simpa [or_assoc, gt_iff_lt] using h1
    refine end3 S (fun _ => ?_)
    exact ⟨zeroL, zeroL, 2, rfl, fun _ _ => zeroL_in _, fun _ _ => zeroL_in _, by rw [pubF, if_pos hz], fun h => absurd h (by decide), fun _ => ⟨rfl, rfl⟩⟩
  · refine c_skip ?_
    refine xtn ?_
    refine c_seq ?_
    have hz : ¬ (knownF u = false ∨ leaf < 0 ∨ 65535 < leaf ∨ countF n = false) := by
      simp only [Bool.or_eq_false_iff, Bool.not_eq_false', decide_eq_false_iff_not] at h1
      obtain ⟨⟨⟨q1, q2⟩, q3⟩, q4⟩ := h1
      rw [q1, q4]
      simp
      omega
    have hk : (1 ≤ u ∧ u ≤ 6) ∧ (0 ≤ leaf ∧ leaf ≤ 65535) ∧ (1 ≤ n ∧ n ≤ 65535) := by
      have q1 : knownF u = true := by cases h : knownF u with
        | true => rfl
        | false => exact absurd (.inl h) hz
      have q4 : countF n = true := by cases h : countF n with
        | true => rfl
        | false => exact absurd (.inr (.inr (.inr h))) hz
      simp only [knownF, countF, Bool.and_eq_true, decide_eq_true_eq] at q1 q4
      exact ⟨q1, ⟨by omega, by omega⟩, q4⟩
    have hI : I64 n := ⟨by omega, by omega⟩
    refine c_region ?_
    refine sq S ?_; clear S; intro a S
    refine sr S (troot_c l p c _ w hc hl (foots_lt S) (S.mem.fact TabF) (S.mem.fact (GlF p l))) ?_; clear S; rintro _ a w hR S
    obtain ⟨r1, e1, rfl, hf1, hy1, hn1⟩ := hR
    replace S := S.add hf1
    iterate 3 (refine sq S ?_; clear S; intro a S)
    refine sa S ?_; clear S; intro b11 a w S
    refine sw S ?_; clear S; intro a w S
    refine sq S ?_; clear S; intro a S
    refine wl_nil ?_
    refine xtn ?_
    iterate 2 (refine c_seq ?_)
    refine c_region ?_
    iterate 2 (refine sq S ?_; clear S; intro a S)
    refine wl_nil ?_
    refine xtn ?_
    refine c_cond S (fun h4 => ?_) (fun h4 => ?_)
    · refine c_seq ?_
      refine c_region ?_
      iterate 3 (refine sq S ?_; clear S; intro a S)
      iterate 2 (refine sw S ?_; clear S; intro a w S)
      refine sq S ?_; clear S; intro a S
      refine wl_nil ?_
      refine xtn ?_
      refine c_ret ?_
      refine xtr ?_
      have ho : okM l = false := by
        cases h : okM l with
        | false => rfl
        | true => rw [(hy1 h).1] at h4; simp at h4
      obtain ⟨e1', -⟩ := hn1 ho
      subst e1'
      refine end3 S (fun _ => ?_)
      exact ⟨zeroL, zeroL, 240, rfl, fun _ _ => zeroL_in _, fun _ _ => zeroL_in _, by rw [pubF, if_neg hz, if_pos ho], fun h => absurd h (by decide), fun _ => ⟨rfl, rfl⟩⟩
    · refine c_skip ?_
      refine xtn ?_
      refine c_seq ?_
      refine c_region ?_
      refine sq S ?_; clear S; intro a S
      have ho : okM l = true := by
        cases h : okM l with
        | true => rfl
        | false => rw [(hn1 h).1] at h4; simp at h4
      refine sr S (twrite_c l p c _ w hl (foots_lt S) (S.mem.fact TabF) (S.mem.fact (GlF p l))) ?_; clear S; rintro _ a w hR S
      obtain ⟨r2, hr2, hr2t, hf2⟩ := hR.yes ho
      subst hr2
      replace S := S.add hf2
      iterate 3 (refine sq S ?_; clear S; intro a S)
      refine sa S ?_; clear S; intro b13 a w S
      refine sw S ?_; clear S; intro a w S
      refine sq S ?_; clear S; intro a S
      refine wl_nil ?_
      refine xtn ?_
      iterate 2 (refine c_seq ?_)
      refine c_region ?_
      iterate 2 (refine sq S ?_; clear S; intro a S)
      rw [show (!decide ((0 : Int) = 0)) = false from rfl] at S
      refine wl_nil ?_
      refine xtn ?_
      refine c_condF S ?_
      refine c_skip ?_
      refine xtn ?_
      refine c_seq ?_
      replace S := (S.add (Φ := LtF (textL wordR)) (fun _ _ => by simp [LtIn, textL, LsIn, LtF])).add (Φ := LtF (textL (Lib.itoa n))) (fun _ _ => by simp [LtIn, textL, LsIn, LtF])
      refine c_drawD [(0, true), (1, true), (3, true), (6, true), (10, true), (2, false), (4, false), (5, false), (7, false), (8, false), (9, false), (11, false), (12, false), (13, true)] [b8, b9] S ?_; clear S; intro w S
      iterate 5 (refine dq S ?_; clear S; intro a S)
      refine dl ?_
      refine sc S ?_; clear S; intro a w S
      refine de S ?_
      refine dl ?_
      refine sc S ?_; clear S; intro a w S
      refine de S ?_
      refine dl ?_
      refine sc S ?_; clear S; intro a w S
      refine de S ?_
      refine dl ?_
      refine sn S ?_; clear S; intro b59 a w S
      refine de S ?_
      refine dl ?_
      replace S := S.frontLs b59 [textL wordR, textL (Lib.itoa n), r1] rfl (fun t ht => by simp at ht; rcases ht with rfl | rfl | rfl <;> exact S.t _)
      refine sr S (list_c [textL wordR, textL (Lib.itoa n), r1] (some ⟨b59, 0, none⟩) 3 _ w (by simp) (foots_lt S) (S.mem.fact (LsF (some ⟨b59, 0, none⟩) 0 [textL wordR, textL (Lib.itoa n), r1]))) ?_; clear S; rintro _ a w ⟨q, rfl, hq, hqf⟩ S
      replace S := S.add hqf
      refine de S ?_
      refine dl ?_
      refine sr S (sign_c u leaf q _ w (foots_lt S) (S.t q)) ?_; clear S; rintro _ a w ⟨t, rfl, hts, htf⟩ S
      replace S := S.add htf
      refine de S ?_
      refine dl ?_
      refine sw S ?_; clear S; intro a w S
      refine de S ?_
      refine dl ?_
      refine sw S ?_; clear S; intro a w S
      refine de S ?_
      refine dq S ?_; clear S; intro a S
      refine dn ?_
      refine xtn ?_
      refine c_ret ?_
      have hl1 := S.laterT (M := M) t
      have hl2 := S.laterT (M := M) r2
      refine end3 S (fun _ => ?_)
      refine ⟨t, r2, 0, rfl, hl1, hl2, by rw [pubF, if_neg hz, if_neg (by rw [ho]; simp)], fun _ => ⟨ho, hk.1, hk.2.1, hk.2.2, ?_, hr2t⟩, fun h => absurd rfl h⟩
      rw [hts, hq, ← (hy1 ho).2]; rfl
end Go.Proofs.YtmngicgdgpimlaaDoor
