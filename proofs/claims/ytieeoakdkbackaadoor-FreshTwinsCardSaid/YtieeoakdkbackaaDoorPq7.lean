/- 7: a part of this claim's texts, joined: FreshA FreshB FreshC LaidB TreeI W7 W8 FreshE FreshF. -/
import Derived.Test.YtieeoakdkbackaaDoorPq6
import Derived.Lib.LaidTab
import Derived.SizedLaws
import Derived.ChangeVars
import Derived.JoinedOf
import Derived.JoinedAt
import Derived.RecoverIn
import Derived.OpenShut
import Derived.Lib.AppendZerosOnto
import Derived.Lib.Overlaps
/- Package fresh: what is signed. -/
namespace Go.Proofs.YtieeoakdkbackaaDoor
open Go Go.Wk
set_option synthInstance.maxSize 100000
set_option synthInstance.maxHeartbeats 400000
set_option maxRecDepth 100000

/-! package fresh -/
theorem fuser_c (n : Int) (w : World) : Ret Tryd.prog 88 [.int .i64 n] w (fun _ => False) fun v _ => v = .bool (knownF n) := by
  refine enter Tryd.func88 rfl rfl (Wd.start w) (fun a S => ?_)
  simp only [Tryd.ntmps88, List.length_cons, List.length_nil, Nat.reduceAdd, Nat.reduceSub, List.replicate_succ, List.replicate_zero, List.cons_append, List.nil_append] at S
  refine c_seq ?_
  refine c_region ?_
  refine sq S ?_; clear S; intro a S
  refine wl_nil ?_
  refine xtn ?_
  refine c_seq ?_
  refine c_region ?_
  iterate 3 (refine sq S ?_; clear S; intro a S)
  iterate 2 (refine gQ S ?_; clear S; intro a S)
  iterate 2 (refine sq S ?_; clear S; intro a S)
  refine wl_nil ?_
  refine xtn ?_
  refine c_ret ?_
  refine fin1 S (fun _ => ?_)
  first | rfl | simp [knownF]
instance {n : Int} {bs fs} : CallV Tryd.prog 88 [.int .i64 n] bs fs (.bool (knownF n)) := ⟨fun w _ => fuser_c n w⟩
def countF (n : Int) : Bool := decide (1 ≤ n) && decide (n ≤ 65535)
theorem fcounted_c (n : Int) (w : World) : Ret Tryd.prog 89 [.int .i64 n] w (fun _ => False) fun v _ => v = .bool (countF n) := by
  refine enter Tryd.func89 rfl rfl (Wd.start w) (fun a S => ?_)
  simp only [Tryd.ntmps89, List.length_cons, List.length_nil, Nat.reduceAdd, Nat.reduceSub, List.replicate_succ, List.replicate_zero, List.cons_append, List.nil_append] at S
  refine c_seq ?_
  refine c_region ?_
  refine sq S ?_; clear S; intro a S
  refine wl_nil ?_
  refine xtn ?_
  refine c_seq ?_
  refine c_region ?_
  iterate 3 (refine sq S ?_; clear S; intro a S)
  iterate 2 (refine gQ S ?_; clear S; intro a S)
  iterate 2 (refine sq S ?_; clear S; intro a S)
  refine wl_nil ?_
  refine xtn ?_
  refine c_ret ?_
  refine fin1 S (fun _ => ?_)
  first | rfl | simp [countF]
instance {n : Int} {bs fs} : CallV Tryd.prog 89 [.int .i64 n] bs fs (.bool (countF n)) := ⟨fun w _ => fcounted_c n w⟩
def kText (os : List LTerm) (k : Nat) : List UInt8 := if (nthL os k).kind = 1 then (nthL os k).text else []
theorem ftext_c (b k : Nat) (os : List LTerm) (p : Option Addr) (n c : Nat) (w0 : World) (hk : k < os.length) (hn : os.length = n) (hb : Stable (fun _ => False) w0 (BoxF b 22 [.slice p n c])) (hl : Stable (fun _ => False) w0 (LsF p 0 os)) :
    Ret Tryd.prog 121 [.int .i64 (k : Nat), .pointer (some ⟨b, 0, none⟩)] w0 (fun _ => False) fun v _ => v = str (kText os k) := by
  subst hn
  have hK : KLt k os.length := ⟨hk⟩
  refine enter Tryd.func121 rfl rfl (Wd.begin (fs := [BoxF b 22 [.slice p os.length c], LsF p 0 os]) (by simp; exact ⟨hb, hl⟩)) (fun a S => ?_)
  simp only [Tryd.ntmps121, List.length_cons, List.length_nil, Nat.reduceAdd, Nat.reduceSub, List.replicate_succ, List.replicate_zero, List.cons_append, List.nil_append] at S
  refine c_seq ?_
  refine c_region ?_
  refine sq S ?_; clear S; intro a S
  refine wl_nil ?_
  refine xtn ?_
  iterate 2 (refine c_seq ?_)
  refine c_region ?_
  iterate 6 (refine sq S ?_; clear S; intro a S)
  refine wl_nil ?_
  refine xtn ?_
  refine c_cond S (fun h1 => ?_) (fun h1 => ?_)
  · refine c_seq ?_
    refine c_region ?_
    refine sq S ?_; clear S; intro a S
    refine wl_nil ?_
    refine xtn ?_
    refine c_ret ?_
    refine xtr ?_
    have h9 : (nthL os k).kind ≠ 1 := by simpa using h1
    refine end1 S (fun _ => ?_)
    rw [kText, if_neg h9]
  · refine c_skip ?_
    refine xtn ?_
    refine c_seq ?_
    refine c_region ?_
    iterate 6 (refine sq S ?_; clear S; intro a S)
    refine wl_nil ?_
    refine xtn ?_
    refine c_ret ?_
    have h9 : (nthL os k).kind = 1 := by simpa using h1
    refine end1 S (fun _ => ?_)
    rw [kText, if_pos h9]
instance {b k n c : Nat} {m : Int} {p : Option Addr} {os : List LTerm} {bs fs} [hm : IsNat m k] [hb : HasBox bs b 22 [.slice p n c]] [hl : HasLs fs p os] [hn : LenN os n] [hk : KLt k os.length] : CallV Tryd.prog 121 [.int .i64 m, .pointer (some ⟨b, 0, none⟩)] bs fs (str (kText os k)) := ⟨fun w m => by
  rw [hm.eq]
  exact ftext_c b k os p n c w hk.lt hn.eq (BoxF.stable m.box (fun h => h)) ((hl.of _ _ m.facts).less fun _ _ h => h.elim)⟩
theorem kText_of {os : List LTerm} {k : Nat} {s : List UInt8} (h : (nthL os k).t = textT s) : kText os k = s := by
  rw [(nthL os k).t_eq] at h
  simp only [textT, Term.mk.injEq] at h
  rw [kText, if_pos h.1, h.2.2.2.1]
theorem kText_is {os : List LTerm} {k : Nat} (h : Good (nthL os k).t) (hs : kText os k ≠ []) : (nthL os k).t = textT (kText os k) := by
  unfold kText at *
  split at hs
  · rename_i hk
    rw [if_pos hk]; exact (good_textK h hk).1
  · exact absurd rfl hs
def wordR : List UInt8 := [114, 111, 111, 116]
def rootedT (u leaf n : Int) (r : Term) : Term := signT u leaf (listT [textT wordR, textT (Lib.itoa n), r])
def RootedR (M : Nat → Prop) (u : Int) (S : Term) (v : Value) (w : World) : Prop := ∃ (n : Int) (x : LTerm) (b : Bool), v = .tuple ⟨[.int .i64 n, vL x, .bool b]⟩ ∧ Stable M w (LtF x) ∧
  (b = true → Good S ∧ (1 ≤ n ∧ n ≤ 65535) ∧ ∃ leaf, S = rootedT u leaf n x.t) ∧ (b = false → ∀ leaf n r, (1 ≤ n ∧ n ≤ 65535) → S = rootedT u leaf n r → ¬ Good S)
theorem rooted_c (u : Int) (t : LTerm) (M : Nat → Prop) (w0 : World) (hM : ∀ k, M k → k < w0.heap.size) (ht : Stable M w0 LibF) (hf : Stable M w0 (LtF t)) :
    Ret Tryd.prog 90 [.int .i64 u, vL t] w0 (fun _ => False) fun v w' => RootedR M u t.t v w' := by
  refine enter Tryd.func90 rfl rfl (Wd.beginM (M := M) (fs := [TabF, LibF, LtF t]) hM (by simp; exact ⟨ht.imp fun _ h => h.1, ht, hf⟩)) (fun a S => ?_)
  simp only [Tryd.ntmps90, List.length_cons, List.length_nil, Nat.reduceAdd, Nat.reduceSub, List.replicate_succ, List.replicate_zero, List.cons_append, List.nil_append] at S
  refine c_seq ?_
  refine c_region ?_
  refine sa S ?_; clear S; intro b3 a w S
  refine sq S ?_; clear S; intro a S
  refine sa S ?_; clear S; intro b5 a w S
  refine sq S ?_; clear S; intro a S
  refine wl_nil ?_
  refine xtn ?_
  iterate 2 (refine c_seq ?_)
  refine c_region ?_
  refine sq S ?_; clear S; intro a S
  refine sc S ?_; clear S; intro a w S
  iterate 2 (refine sq S ?_; clear S; intro a S)
  iterate 3 (refine gQ S ?_; clear S; intro a S)
  iterate 2 (refine sq S ?_; clear S; intro a S)
  iterate 4 (refine gQ S ?_; clear S; intro a S)
  refine sq S ?_; clear S; intro a S
  refine wl_nil ?_
  refine xtn ?_
  refine c_cond S (fun h1 => ?_) (fun h1 => ?_)
  · refine c_seq ?_
    refine c_region ?_
    iterate 2 (refine sq S ?_; clear S; intro a S)
    refine sw S ?_; clear S; intro a w S
    refine sq S ?_; clear S; intro a S
    refine wl_nil ?_
    refine xtn ?_
    refine c_ret ?_
    refine xtr ?_
    have h9 : ∀ leaf n r, (1 ≤ n ∧ n ≤ 65535) → t.t = rootedT u leaf n r → ¬ Good t.t := by
      intro leaf n r _ he hg
      rw [t.t_eq] at he
      simp only [rootedT, signT, Term.mk.injEq] at he
      rw [good_check.2 hg, he.1, he.2.1] at h1
      simp at h1
    refine end3 S (fun _ => ?_)
    exact ⟨_, zeroL, false, rfl, fun _ _ => zeroL_in _, nofun, fun _ => h9⟩
  · refine c_skip ?_
    refine xtn ?_
    refine c_seq ?_
    have h1' : checkF t.t = 0 ∧ t.kind = 8 ∧ t.user = u := by simpa [and_assoc] using h1
    have hg := good_check.1 h1'.1
    obtain ⟨hl1, hst, hu1, hn1⟩ := good_signK hg h1'.2.1
    have hK0 : KLt 0 t.kids.length := ⟨by omega⟩
    refine c_region ?_
    iterate 4 (refine sq S ?_; clear S; intro a S)
    refine sr S (unlist2_c (nthL t.kids 0) _ w (foots_lt S) (S.t (nthL t.kids 0))) ?_; clear S; rintro _ a w ⟨pu, cu, us, b0, rfl, huf, hul, hb1, hb2⟩ S
    replace S := S.add huf
    have hb0 : ∀ leaf n r, t.t = rootedT u leaf n r → b0 = true ∧ us.map LTerm.t = [textT wordR, textT (Lib.itoa n), r] := fun leaf n r he => by
      have he2 : (nthL t.kids 0).t = listT [textT wordR, textT (Lib.itoa n), r] := by
        rw [hst] at he
        simp only [rootedT, signT, Term.mk.injEq, List.cons.injEq, and_true] at he
        exact he.2.2.2.2
      cases hb : b0 with
      | false =>
        refine absurd ?_ ((hb2 hb).2 _ he2)
        rw [hst] at hg
        exact good_kid hg (by simp)
      | true => exact ⟨rfl, listT_inj (by rw [← (hb1 hb).2, he2])⟩
    iterate 3 (refine sq S ?_; clear S; intro a S)
    refine sa S ?_; clear S; intro b7 a w S
    refine sw S ?_; clear S; intro a w S
    refine sq S ?_; clear S; intro a S
    refine wl_nil ?_
    refine xtn ?_
    iterate 2 (refine c_seq ?_)
    refine c_region ?_
    iterate 3 (refine sq S ?_; clear S; intro a S)
    iterate 3 (refine gQ S ?_; clear S; intro a S)
    refine sq S ?_; clear S; intro a S
    refine wl_nil ?_
    refine xtn ?_
    refine c_cond S (fun h4 => ?_) (fun h4 => ?_)
    · refine c_seq ?_
      refine c_region ?_
      iterate 2 (refine sq S ?_; clear S; intro a S)
      refine sw S ?_; clear S; intro a w S
      refine sq S ?_; clear S; intro a S
      refine wl_nil ?_
      refine xtn ?_
      refine c_ret ?_
      refine xtr ?_
      refine end3 S (fun _ => ?_)
      refine ⟨_, zeroL, false, rfl, fun _ _ => zeroL_in _, nofun, fun _ leaf n r _ he hg => ?_⟩
      obtain ⟨e1, e2⟩ := hb0 leaf n r he
      have := congrArg List.length e2
      rw [List.length_map] at this
      rw [e1, this] at h4; simp at h4
    · refine c_skip ?_
      refine xtn ?_
      refine c_seq ?_
      have h4' : b0 = true ∧ us.length = 3 := by
        cases hb : b0 with
        | false => rw [hb] at h4; simp at h4
        | true => rw [hb] at h4; simp at h4; exact ⟨rfl, by omega⟩
      have hu3 := h4'.2
      have hb1' := hb1 h4'.1
      have hK0' : KLt 0 us.length := ⟨by omega⟩
      have hK1' : KLt 1 us.length := ⟨by omega⟩
      have hK2' : KLt 2 us.length := ⟨by omega⟩
      have hmap : us.map LTerm.t = [(nthL us 0).t, (nthL us 1).t, (nthL us 2).t] := by
        match us, hu3 with
        | [x, y, z], _ => rfl
      have hgk : ∀ k, k < 3 → Good (nthL us k).t := fun k hk => by
        have := hb1'.1
        rw [hb1'.2, hmap] at this
        have q1 : Good (listT [(nthL us 1).t, (nthL us 2).t]) := good_kid this (by simp)
        match k, hk with
        | 0, _ => exact good_kid this (by simp)
        | 1, _ => exact good_kid q1 (by simp)
        | 2, _ => exact good_kid (good_kid q1 (by simp) : Good (listT [(nthL us 2).t])) (by simp)
      have hkl : (kText us 1).length ≤ 1000 := by
        unfold kText
        split
        · rename_i hk
          have := (good_textK (hgk 1 (by omega)) hk).2; omega
        · simp
      have hpos : ∀ leaf n r, (1 ≤ n ∧ n ≤ 65535) → t.t = rootedT u leaf n r → kText us 0 = wordR ∧ kText us 1 = Lib.itoa n := fun leaf n r _ he => by
        have e2 := (hb0 leaf n r he).2
        rw [hmap] at e2
        simp only [List.cons.injEq, and_true] at e2
        exact ⟨kText_of e2.1, kText_of e2.2.1⟩
      refine c_region ?_
      iterate 2 (refine sq S ?_; clear S; intro a S)
      refine wl_nil ?_
      refine xtn ?_
      refine c_seq ?_
      refine c_region ?_
      refine sq S ?_; clear S; intro a S
      refine sc S ?_; clear S; intro a w S
      refine sr S (atoi_c (kText us 1) hkl _ (S.mem.fact0 LibF).now.2.1 (S.mem.fact0 LibF).now.2.2) ?_; clear S; rintro _ a w ⟨n, b1, te, pe, rfl, hn, hbn, hv⟩ S
      have hI : I64 n := ⟨hn.1, hn.2⟩
      iterate 5 (refine sq S ?_; clear S; intro a S)
      refine wl_nil ?_
      refine xtn ?_
      refine c_seq ?_
      refine c_drawD [(0, true), (1, true), (2, true), (3, true), (4, true), (5, true), (6, true), (7, true), (8, false), (9, true), (10, true), (11, true), (12, true), (14, true), (13, false), (15, false), (16, true), (17, true), (18, true), (19, true), (20, false), (21, true), (22, true), (23, false), (24, true)] [b5] S ?_; clear S; intro w S
      iterate 7 (refine dq S ?_; clear S; intro a S)
      refine dqG S ?_; clear S; intro a S
      refine dl ?_
      refine gC S ?_; clear S; intro a w S
      refine de S ?_
      refine dqG S ?_; clear S; intro a S
      iterate 2 (refine dq S ?_; clear S; intro a S)
      iterate 2 (refine dqG S ?_; clear S; intro a S)
      refine dl ?_
      refine gC S ?_; clear S; intro a w S
      refine de S ?_
      refine dl ?_
      refine gC S ?_; clear S; intro a w S
      refine de S ?_
      refine dqG S ?_; clear S; intro a S
      iterate 2 (refine dq S ?_; clear S; intro a S)
      refine dqG S ?_; clear S; intro a S
      refine dl ?_
      refine gC S ?_; clear S; intro a w S
      refine de S ?_
      iterate 2 (refine dq S ?_; clear S; intro a S)
      refine dl ?_
      refine sw S ?_; clear S; intro a w S
      refine de S ?_
      refine dq S ?_; clear S; intro a S
      refine dn ?_
      refine xtn ?_
      refine c_ret ?_
      have hlat := S.laterT (M := M) (nthL us 2)
      refine end3 S (fun _ => ?_)
      refine ⟨n, nthL us 2, (b1 && decide (kText us 0 = wordR) && decide (Lib.itoa n = kText us 1) && countF n), ?_, hlat, fun hb => ?_, fun hb leaf n' r hn' he hg' => ?_⟩
      · rfl
      · simp only [Bool.and_eq_true, decide_eq_true_eq] at hb
        obtain ⟨⟨⟨q1, q2⟩, q3⟩, q4⟩ := hb
        have hc : 1 ≤ n ∧ n ≤ 65535 := by simpa [countF] using q4
        refine ⟨hg, hc, t.num, ?_⟩
        have k0 := kText_is (hgk 0 (by omega)) (by rw [q2]; decide)
        have k1 := kText_is (hgk 1 (by omega)) (by
          intro h0
          obtain ⟨m, hm⟩ := hbn.1 q1
          rw [h0] at hm
          cases hm)
        rw [hst, h1'.2.2, hb1'.2, hmap, k0, k1, q2, ← q3]; rfl
      · obtain ⟨p1, p2⟩ := hpos leaf n' r hn' he
        have ha := atoi_itoa (n := n') ⟨by omega, hn'.2⟩
        rw [← p2] at ha
        have e1 := hv _ ha
        have e2 := hbn.2 ⟨_, ha⟩
        subst e1
        rw [e2, p1, p2] at hb
        simp [countF, hn'.1, hn'.2] at hb
end Go.Proofs.YtieeoakdkbackaaDoor

/- Package fresh: Read, Publish. -/
namespace Go.Proofs.YtieeoakdkbackaaDoor
open Go Go.Wk
set_option synthInstance.maxSize 100000
set_option synthInstance.maxHeartbeats 400000
set_option maxRecDepth 100000

/-- these terms are what a user has published. -/
def FreshOk (u n : Int) (ms : List LMark) (S R : Term) : Prop := (1 ≤ n ∧ n ≤ 65535) ∧ okM ms = true ∧ Good S ∧ (∃ leaf, S = rootedT u leaf n (rootT ms)) ∧ R = writeT ms ∧ Good R
theorem rootedT_inj {u v leaf leaf' n n' : Int} {r r' : Term} (h : rootedT u leaf n r = rootedT v leaf' n' r') : u = v ∧ leaf = leaf' ∧ r = r' := by
  simp only [rootedT, signT, Term.mk.injEq, List.cons.injEq, and_true] at h
  have := listT_inj h.2.2.2.2
  simp only [List.cons.injEq, and_true] at this
  exact ⟨h.2.1, h.2.2.1, this.2.2⟩
theorem rootedT_num {u v leaf leaf' n n' : Int} {r r' : Term} (h : rootedT u leaf n r = rootedT v leaf' n' r') (hn : 1 ≤ n ∧ n ≤ 65535) (hn' : 1 ≤ n' ∧ n' ≤ 65535) : n = n' := by
  simp only [rootedT, signT, Term.mk.injEq, List.cons.injEq, and_true] at h
  have := listT_inj h.2.2.2.2
  simp only [List.cons.injEq, and_true, textT, Term.mk.injEq] at this
  have h1 := atoi_itoa (n := n) ⟨by omega, hn.2⟩
  have h2 := atoi_itoa (n := n') ⟨by omega, hn'.2⟩
  rw [this.2.1.2.2.2, h2] at h1
  injection h1 with h1
  exact h1.symm
theorem FreshOk.uniq {u n n' : Int} {ms ms' : List LMark} {S R : Term} (h : FreshOk u n ms S R) (h' : FreshOk u n' ms' S R) : n = n' ∧ ms = ms' := by
  obtain ⟨a1, a2, a3, ⟨l, a4⟩, a5, a6⟩ := h
  obtain ⟨b1, b2, b3, ⟨l', b4⟩, b5, b6⟩ := h'
  exact ⟨rootedT_num (a4.symm.trans b4) a1 b1, write_inj (okM_V a2).2 (okM_V b2).2 (a5.symm.trans b5)⟩
theorem FreshOk.user {u v n n' : Int} {ms ms' : List LMark} {S R : Term} (h : FreshOk u n ms S R) (h' : FreshOk v n' ms' S R) : u = v := by
  obtain ⟨a1, a2, a3, ⟨l, a4⟩, a5, a6⟩ := h
  obtain ⟨b1, b2, b3, ⟨l', b4⟩, b5, b6⟩ := h'
  exact (rootedT_inj (a4.symm.trans b4)).1
def FReadR (M : Nat → Prop) (u : Int) (S R : Term) (v : Value) (w : World) : Prop := ∃ (n : Int) (p : Option Addr) (c : Nat) (ms : List LMark) (e : Int), v = .tuple ⟨[.int .i64 n, .slice p ms.length c, .int .i64 e]⟩ ∧ Stable M w (GlF p ms) ∧ ms.length ≤ c ∧
  (e = 0 → FreshOk u n ms S R) ∧ (e ≠ 0 → e = 251 ∧ n = 0 ∧ ms = [] ∧ ∀ n ms, ¬ FreshOk u n ms S R)
theorem fread_c (u : Int) (s r : LTerm) (M : Nat → Prop) (w0 : World) (hM : ∀ k, M k → k < w0.heap.size) (ht : Stable M w0 LibF) (hs : Stable M w0 (LtF s)) (hr : Stable M w0 (LtF r)) :
    Ret Tryd.prog 57 [.int .i64 u, vL s, vL r] w0 (fun _ => False) fun v w' => FReadR M u s.t r.t v w' := by
  refine enter Tryd.func57 rfl rfl (Wd.beginM (M := M) (fs := [TabF, LibF, LtF s, LtF r]) hM (by simp; exact ⟨ht.imp fun _ h => h.1, ht, hs, hr⟩)) (fun a S => ?_)
  simp only [Tryd.ntmps57, List.length_cons, List.length_nil, Nat.reduceAdd, Nat.reduceSub, List.replicate_succ, List.replicate_zero, List.cons_append, List.nil_append] at S
  refine c_seq ?_
  refine c_region ?_
  refine sa S ?_; clear S; intro b4 a w S
  refine sa S ?_; clear S; intro b5 a w S
  iterate 3 (refine sq S ?_; clear S; intro a S)
  refine wl_nil ?_
  refine xtn ?_
  refine c_seq ?_
  refine c_region ?_
  iterate 2 (refine sq S ?_; clear S; intro a S)
  refine sr S (rooted_c u s _ w (foots_lt S) (S.mem.fact LibF) (S.t s)) ?_; clear S; rintro _ a w ⟨n, x, b, rfl, hx, hb1, hb2⟩ S
  replace S := S.add hx
  iterate 4 (refine sq S ?_; clear S; intro a S)
  refine sa S ?_; clear S; intro b10 a w S
  refine sq S ?_; clear S; intro a S
  refine sw S ?_; clear S; intro a w S
  refine sq S ?_; clear S; intro a S
  refine wl_nil ?_
  refine xtn ?_
  refine c_seq ?_
  refine c_region ?_
  refine sq S ?_; clear S; intro a S
  refine sr S (tread_c r _ w (foots_lt S) (S.mem.fact LibF) (S.t r)) ?_; clear S; rintro _ a w ⟨p, c, ms, e, rfl, hms, hc, he1, he2⟩ S
  replace S := S.add hms
  iterate 5 (refine sq S ?_; clear S; intro a S)
  refine wl_nil ?_
  refine xtn ?_
  iterate 2 (refine c_seq ?_)
  refine c_region ?_
  iterate 3 (refine sq S ?_; clear S; intro a S)
  iterate 2 (refine gQ S ?_; clear S; intro a S)
  refine sq S ?_; clear S; intro a S
  refine wl_nil ?_
  refine xtn ?_
  refine c_cond S (fun h3 => ?_) (fun h3 => ?_)
  · refine c_seq ?_
    refine c_region ?_
    iterate 3 (refine sq S ?_; clear S; intro a S)
    refine wl_nil ?_
    refine xtn ?_
    refine c_ret ?_
    refine xtr ?_
    have hno : ∀ n ms, ¬ FreshOk u n ms s.t r.t := by
      rintro n' ms' ⟨a1, a2, a3, ⟨l, a4⟩, a5, a6⟩
      have hb : b = true := by
        cases hb : b with
        | true => rfl
        | false => exact absurd a3 (hb2 hb l n' _ a1 a4)
      rw [hb] at h3
      have hne : e ≠ 0 := by simpa using h3
      exact (he2 hne).2.2 ms' a2 a5 a6
    refine end3 S (fun _ => ?_)
    exact ⟨0, none, 0, [], 251, rfl, fun _ _ => gl_nil, Nat.le_refl _, nofun, fun _ => ⟨rfl, rfl, rfl, hno⟩⟩
  · refine c_skip ?_
    refine xtn ?_
    iterate 2 (refine c_seq ?_)
    have h3' : b = true ∧ e = 0 := by simpa using h3
    obtain ⟨hg, hn, leaf, hst⟩ := hb1 h3'.1
    obtain ⟨ho, hw, hgr⟩ := he1 h3'.2
    have hml := (okM_V ho).1
    refine c_region ?_
    refine sq S ?_; clear S; intro a S
    refine sr S (troot_c ms p c _ w hc (by omega) (foots_lt S) (S.mem.fact TabF) (S.mem.fact (GlF p ms))) ?_; clear S; rintro _ a w hR S
    obtain ⟨q, hq, hqt, hqf⟩ := hR.yes ho
    subst hq
    replace S := S.add hqf
    iterate 3 (refine sq S ?_; clear S; intro a S)
    refine sa S ?_; clear S; intro b14 a w S
    refine sw S ?_; clear S; intro a w S
    refine sq S ?_; clear S; intro a S
    refine wl_nil ?_
    refine xtn ?_
    refine c_seq ?_
    refine c_region ?_
    iterate 3 (refine sq S ?_; clear S; intro a S)
    iterate 2 (refine gQ S ?_; clear S; intro a S)
    refine gC S ?_; clear S; intro a w S
    refine gQ S ?_; clear S; intro a S
    refine sq S ?_; clear S; intro a S
    refine wl_nil ?_
    refine xtn ?_
    refine c_cond S (fun h6 => ?_) (fun h6 => ?_)
    · refine c_seq ?_
      refine c_region ?_
      iterate 3 (refine sq S ?_; clear S; intro a S)
      refine wl_nil ?_
      refine xtn ?_
      refine c_ret ?_
      refine xtr ?_
      have hno : ∀ n ms, ¬ FreshOk u n ms s.t r.t := by
        rintro n' ms' ⟨a1, a2, a3, ⟨l, a4⟩, a5, a6⟩
        have : ms' = ms := write_inj (okM_V a2).2 (okM_V ho).2 (a5.symm.trans hw)
        subst this
        have hx : x.t = rootT ms' := (rootedT_inj (hst.symm.trans a4)).2.2
        have : sameF q.t x.t = true := (sameF_iff _ _).2 (by rw [hqt, hx])
        rw [this] at h6; simp at h6
      refine end3 S (fun _ => ?_)
      exact ⟨0, none, 0, [], 251, rfl, fun _ _ => gl_nil, Nat.le_refl _, nofun, fun _ => ⟨rfl, rfl, rfl, hno⟩⟩
    · refine c_skip ?_
      refine xtn ?_
      refine c_seq ?_
      refine c_region ?_
      iterate 5 (refine sq S ?_; clear S; intro a S)
      refine wl_nil ?_
      refine xtn ?_
      refine c_ret ?_
      have hlat := S.laterFact (M := M) (Φ := GlF p ms) (by simp)
      have hqx : q.t = x.t := by
        cases h : sameF q.t x.t with
        | true => exact (sameF_iff _ _).1 h
        | false => rw [h] at h6; simp at h6
      refine end3 S (fun _ => ?_)
      exact ⟨n, p, c, ms, 0, rfl, hlat, hc, fun _ => ⟨hn, ho, hg, ⟨leaf, by rw [hst, ← hqx, hqt]⟩, hw, hgr⟩, fun h => absurd rfl h⟩
theorem good_rooted {u leaf n : Int} {l : List LMark} (hu : 1 ≤ u ∧ u ≤ 6) (hl : 0 ≤ leaf ∧ leaf ≤ 65535) (hn : 1 ≤ n ∧ n ≤ 65535) (ho : okM l = true) : Good (rootedT u leaf n (rootT l)) := by
  have hv := okM_V ho
  obtain ⟨g1, g2, g3, g4⟩ := good_root _ (Nat.lt_succ_self l.length) hv.1 hv.2
  have et : ∀ x, cnt (textT x) = 1 := fun x => by simp [textT, cnt, cntL]
  have ed : ∀ x, dpt (textT x) = 1 := fun x => by simp [textT, dpt, dptL]
  have hc : cnt (rootT l) ≤ 97 := by split at g2 <;> omega
  have hn64 : (Lib.itoa n).length ≤ 64 := itoa_len ⟨by omega, hn.2⟩
  have p1 : Good (.pair (rootT l) (textT [])) := good_pair g1 (good_text (by simp)) (by rw [et]; omega) (by omega) (by rw [ed]; omega)
  have c1 : cnt (.pair (rootT l) (textT [])) ≤ 99 := by rw [cnt_pair, et]; omega
  have d1 : dpt (.pair (rootT l) (textT [])) ≤ 34 := by rw [dpt_pair, ed]; omega
  have p2 : Good (.pair (textT (Lib.itoa n)) (.pair (rootT l) (textT []))) := good_pair (good_text hn64) p1 (by rw [et]; omega) (by rw [ed]; omega) (by omega)
  have c2 : cnt (.pair (textT (Lib.itoa n)) (.pair (rootT l) (textT []))) ≤ 101 := by rw [cnt_pair, et]; omega
  have d2 : dpt (.pair (textT (Lib.itoa n)) (.pair (rootT l) (textT []))) ≤ 35 := by rw [dpt_pair, ed]; omega
  have p3 : Good (.pair (textT wordR) (.pair (textT (Lib.itoa n)) (.pair (rootT l) (textT [])))) := good_pair (good_text (by decide)) p2 (by rw [et]; omega) (by rw [ed]; omega) (by omega)
  have c3 : cnt (.pair (textT wordR) (.pair (textT (Lib.itoa n)) (.pair (rootT l) (textT [])))) ≤ 103 := by rw [cnt_pair, et]; omega
  have d3 : dpt (.pair (textT wordR) (.pair (textT (Lib.itoa n)) (.pair (rootT l) (textT [])))) ≤ 36 := by rw [dpt_pair, ed]; omega
  exact good_sign (a := .pair (textT wordR) (.pair (textT (Lib.itoa n)) (.pair (rootT l) (textT [])))) hu hl p3 (by omega) (by omega)
def pubF (u leaf n : Int) (l : List LMark) : Int := if knownF u = false ∨ leaf < 0 ∨ 65535 < leaf ∨ countF n = false then 2 else if okM l = false then 240 else 0
def PubR (M : Nat → Prop) (u leaf n : Int) (l : List LMark) (v : Value) (w : World) : Prop := ∃ (t r : LTerm) (e : Int), v = .tuple ⟨[vL t, vL r, .int .i64 e]⟩ ∧ Stable M w (LtF t) ∧ Stable M w (LtF r) ∧ e = pubF u leaf n l ∧
  (e = 0 → okM l = true ∧ (1 ≤ u ∧ u ≤ 6) ∧ (0 ≤ leaf ∧ leaf ≤ 65535) ∧ (1 ≤ n ∧ n ≤ 65535) ∧ t.t = rootedT u leaf n (rootT l) ∧ r.t = writeT l) ∧ (e ≠ 0 → t.t = zeroT ∧ r.t = zeroT)
theorem publish_c (u leaf n : Int) (l : List LMark) (p : Option Addr) (c : Nat) (M : Nat → Prop) (w0 : World) (hc : l.length ≤ c) (hl : l.length ≤ 1000000) (hM : ∀ k, M k → k < w0.heap.size) (ht : Stable M w0 TabF) (hx : Stable M w0 (GlF p l)) :
    Ret Tryd.prog 56 [.int .i64 u, .int .i64 leaf, .int .i64 n, .slice p l.length c] w0 (fun _ => False) fun v w' => PubR M u leaf n l v w' := by
  refine enter Tryd.func56 rfl rfl (Wd.beginM (M := M) (fs := [TabF, GlF p l]) hM (by simp; exact ⟨ht, hx⟩)) (fun a S => ?_)
  simp only [Tryd.ntmps56, List.length_cons, List.length_nil, Nat.reduceAdd, Nat.reduceSub, List.replicate_succ, List.replicate_zero, List.cons_append, List.nil_append] at S
  refine c_seq ?_
  refine c_region ?_
  refine sa S ?_; clear S; intro b8 a w S
  refine sa S ?_; clear S; intro b9 a w S
  refine sq S ?_; clear S; intro a S
  refine wl_nil ?_
  refine xtn ?_
  iterate 2 (refine c_seq ?_)
  refine c_region ?_
  refine sq S ?_; clear S; intro a S
  refine sc S ?_; clear S; intro a w S
  iterate 2 (refine sq S ?_; clear S; intro a S)
  iterate 2 (refine gQ S ?_; clear S; intro a S)
  iterate 2 (refine sq S ?_; clear S; intro a S)
  iterate 2 (refine gQ S ?_; clear S; intro a S)
  iterate 2 (refine sq S ?_; clear S; intro a S)
  refine gQ S ?_; clear S; intro a S
  refine gC S ?_; clear S; intro a w S
  refine gQ S ?_; clear S; intro a S
  refine sq S ?_; clear S; intro a S
  refine wl_nil ?_
  refine xtn ?_
  refine c_cond S (fun h1 => ?_) (fun h1 => ?_)
  · refine c_seq ?_
    refine c_region ?_
    iterate 2 (refine sq S ?_; clear S; intro a S)
    iterate 2 (refine sw S ?_; clear S; intro a w S)
    refine sq S ?_; clear S; intro a S
    refine wl_nil ?_
    refine xtn ?_
    refine c_ret ?_
    refine xtr ?_
    have hz : knownF u = false ∨ leaf < 0 ∨ 65535 < leaf ∨ countF n = false := by
      simp only [Bool.or_eq_true, Bool.not_eq_true', decide_eq_true_eq] at h1
      simpa [or_assoc, gt_iff_lt] using h1
    refine end3 S (fun _ => ?_)
    exact ⟨zeroL, zeroL, 2, rfl, fun _ _ => zeroL_in _, fun _ _ => zeroL_in _, by rw [pubF, if_pos hz], fun h => absurd h (by decide), fun _ => ⟨rfl, rfl⟩⟩
  · refine c_skip ?_
    refine xtn ?_
    refine c_seq ?_
    have hz : ¬ (knownF u = false ∨ leaf < 0 ∨ 65535 < leaf ∨ countF n = false) := by
      simp only [Bool.or_eq_false_iff, Bool.not_eq_false', decide_eq_false_iff_not] at h1
      obtain ⟨⟨⟨q1, q2⟩, q3⟩, q4⟩ := h1
      rw [q1, q4]
      simp
      omega
    have hk : (1 ≤ u ∧ u ≤ 6) ∧ (0 ≤ leaf ∧ leaf ≤ 65535) ∧ (1 ≤ n ∧ n ≤ 65535) := by
      have q1 : knownF u = true := by cases h : knownF u with
        | true => rfl
        | false => exact absurd (.inl h) hz
      have q4 : countF n = true := by cases h : countF n with
        | true => rfl
        | false => exact absurd (.inr (.inr (.inr h))) hz
      simp only [knownF, countF, Bool.and_eq_true, decide_eq_true_eq] at q1 q4
      exact ⟨q1, ⟨by omega, by omega⟩, q4⟩
    have hI : I64 n := ⟨by omega, by omega⟩
    refine c_region ?_
    refine sq S ?_; clear S; intro a S
    refine sr S (troot_c l p c _ w hc hl (foots_lt S) (S.mem.fact TabF) (S.mem.fact (GlF p l))) ?_; clear S; rintro _ a w hR S
    obtain ⟨r1, e1, rfl, hf1, hy1, hn1⟩ := hR
    replace S := S.add hf1
    iterate 3 (refine sq S ?_; clear S; intro a S)
    refine sa S ?_; clear S; intro b11 a w S
    refine sw S ?_; clear S; intro a w S
    refine sq S ?_; clear S; intro a S
    refine wl_nil ?_
    refine xtn ?_
    iterate 2 (refine c_seq ?_)
    refine c_region ?_
    iterate 2 (refine sq S ?_; clear S; intro a S)
    refine wl_nil ?_
    refine xtn ?_
    refine c_cond S (fun h4 => ?_) (fun h4 => ?_)
    · refine c_seq ?_
      refine c_region ?_
      iterate 3 (refine sq S ?_; clear S; intro a S)
      iterate 2 (refine sw S ?_; clear S; intro a w S)
      refine sq S ?_; clear S; intro a S
      refine wl_nil ?_
      refine xtn ?_
      refine c_ret ?_
      refine xtr ?_
      have ho : okM l = false := by
        cases h : okM l with
        | false => rfl
        | true => rw [(hy1 h).1] at h4; simp at h4
      obtain ⟨e1', -⟩ := hn1 ho
      subst e1'
      refine end3 S (fun _ => ?_)
      exact ⟨zeroL, zeroL, 240, rfl, fun _ _ => zeroL_in _, fun _ _ => zeroL_in _, by rw [pubF, if_neg hz, if_pos ho], fun h => absurd h (by decide), fun _ => ⟨rfl, rfl⟩⟩
    · refine c_skip ?_
      refine xtn ?_
      refine c_seq ?_
      refine c_region ?_
      refine sq S ?_; clear S; intro a S
      have ho : okM l = true := by
        cases h : okM l with
        | true => rfl
        | false => rw [(hn1 h).1] at h4; simp at h4
      refine sr S (twrite_c l p c _ w hl (foots_lt S) (S.mem.fact TabF) (S.mem.fact (GlF p l))) ?_; clear S; rintro _ a w hR S
      obtain ⟨r2, hr2, hr2t, hf2⟩ := hR.yes ho
      subst hr2
      replace S := S.add hf2
      iterate 3 (refine sq S ?_; clear S; intro a S)
      refine sa S ?_; clear S; intro b13 a w S
      refine sw S ?_; clear S; intro a w S
      refine sq S ?_; clear S; intro a S
      refine wl_nil ?_
      refine xtn ?_
      iterate 2 (refine c_seq ?_)
      refine c_region ?_
      iterate 2 (refine sq S ?_; clear S; intro a S)
      rw [show (!decide ((0 : Int) = 0)) = false from rfl] at S
      refine wl_nil ?_
      refine xtn ?_
      refine c_condF S ?_
      refine c_skip ?_
      refine xtn ?_
      refine c_seq ?_
      replace S := (S.add (Φ := LtF (textL wordR)) (fun _ _ => by simp [LtIn, textL, LsIn, LtF])).add (Φ := LtF (textL (Lib.itoa n))) (fun _ _ => by simp [LtIn, textL, LsIn, LtF])
      refine c_drawD [(0, true), (1, true), (3, true), (6, true), (10, true), (2, false), (4, false), (5, false), (7, false), (8, false), (9, false), (11, false), (12, false), (13, true)] [b8, b9] S ?_; clear S; intro w S
      iterate 5 (refine dq S ?_; clear S; intro a S)
      refine dl ?_
      refine sc S ?_; clear S; intro a w S
      refine de S ?_
      refine dl ?_
      refine sc S ?_; clear S; intro a w S
      refine de S ?_
      refine dl ?_
      refine sc S ?_; clear S; intro a w S
      refine de S ?_
      refine dl ?_
      refine sn S ?_; clear S; intro b59 a w S
      refine de S ?_
      refine dl ?_
      replace S := S.frontLs b59 [textL wordR, textL (Lib.itoa n), r1] rfl (fun t ht => by simp at ht; rcases ht with rfl | rfl | rfl <;> exact S.t _)
      refine sr S (list_c [textL wordR, textL (Lib.itoa n), r1] (some ⟨b59, 0, none⟩) 3 _ w (by simp) (foots_lt S) (S.mem.fact (LsF (some ⟨b59, 0, none⟩) 0 [textL wordR, textL (Lib.itoa n), r1]))) ?_; clear S; rintro _ a w ⟨q, rfl, hq, hqf⟩ S
      replace S := S.add hqf
      refine de S ?_
      refine dl ?_
      refine sr S (sign_c u leaf q _ w (foots_lt S) (S.t q)) ?_; clear S; rintro _ a w ⟨t, rfl, hts, htf⟩ S
      replace S := S.add htf
      refine de S ?_
      refine dl ?_
      refine sw S ?_; clear S; intro a w S
      refine de S ?_
      refine dl ?_
      refine sw S ?_; clear S; intro a w S
      refine de S ?_
      refine dq S ?_; clear S; intro a S
      refine dn ?_
      refine xtn ?_
      refine c_ret ?_
      have hl1 := S.laterT (M := M) t
      have hl2 := S.laterT (M := M) r2
      refine end3 S (fun _ => ?_)
      refine ⟨t, r2, 0, rfl, hl1, hl2, by rw [pubF, if_neg hz, if_neg (by rw [ho]; simp)], fun _ => ⟨ho, hk.1, hk.2.1, hk.2.2, ?_, hr2t⟩, fun h => absurd rfl h⟩
      rw [hts, hq, ← (hy1 ho).2]; rfl
end Go.Proofs.YtieeoakdkbackaaDoor

/- Package fresh: Covers, Accept with nothing seen; the layer does something. -/
namespace Go.Proofs.YtieeoakdkbackaaDoor
open Go Go.Wk
set_option synthInstance.maxSize 100000
set_option synthInstance.maxHeartbeats 400000
set_option maxRecDepth 100000

theorem indexMk_c (F : Nat) [EntF Tryd.prog F] (ca : List Value) (q : LMark → Bool) (xs : List LMark) (p : Option Addr) (n c : Nat) (w0 : World) (hn : xs.length = n) (hl : n ≤ 9223372036854775807) (hx : Stable (fun _ => False) w0 (GlF p xs))
    (hF : ∀ x ∈ xs, ∀ w, Agree (fun _ => False) w0 w → Ret Tryd.prog F (vMark x :: ca) w (fun _ => False) fun v _ => v = .bool (q x)) :
    Ret Tryd.prog 122 [.slice p n c, .func (.func F) #[] ⟨ca⟩] w0 (fun _ => False) fun v _ => v = .int .i64 (idxG q xs 0) := by
  refine enter Tryd.func122 rfl rfl (Wd.begin (fs := [GlF p xs]) (by simpa using hx)) (fun a S => ?_)
  simp only [Tryd.ntmps122, List.length_cons, List.length_nil, Nat.reduceAdd, Nat.reduceSub, List.replicate_succ, List.replicate_zero, List.cons_append, List.nil_append] at S
  refine c_seq ?_
  refine c_region ?_
  refine sq S ?_; clear S; intro a S
  refine wl_nil ?_
  refine xtn ?_
  iterate 2 (refine c_seq ?_)
  refine c_region ?_
  iterate 3 (refine sq S ?_; clear S; intro a S)
  refine wl_nil ?_
  refine xtn ?_
  refine c_block ?_
  refine c_forb1 S (fun (k : Nat) uu => [(4, uu 4), (0, uu 5), (2, .int .i64 (k : Nat)), (0, uu 9), (0, uu 10), (0, uu 11), (0, uu 12), (0, uu 13), (0, uu 14), (0, uu 15), (0, uu 16), (0, uu 17), (0, uu 18)]) (fun (k : Nat) => k ≤ n ∧ idxG q (xs.drop k) k = idxG q xs 0) (fun (k : Nat) => n - k) (0) ?_ S.uu ?_ ?_
  · exact ⟨Nat.zero_le _, rfl⟩
  · first | exact S | exact S.sub _ _
  · clear S; rintro k uu a w ⟨hk, hrel⟩ S
    refine c_seq ?_
    refine c_region ?_
    refine sq S ?_; clear S; intro a S
    refine wl_nil ?_
    refine xtn ?_
    refine c_seq ?_
    refine c_cond S (fun h2 => ?_) (fun h2 => ?_)
    · refine c_skip ?_
      refine xtn ?_
      refine c_seq ?_
      refine c_block ?_
      refine c_seq ?_
      refine c_region ?_
      iterate 2 (refine sq S ?_; clear S; intro a S)
      refine wl_nil ?_
      refine xtn ?_
      refine c_seq ?_
      have hkl : k < n := by simp at h2; omega
      have hK : KLt k n := ⟨hkl⟩
      have hK2 : KLt k xs.length := ⟨by omega⟩
      rw [nthG_drop (show k < xs.length by omega), idxG] at hrel
      refine c_region ?_
      iterate 5 (refine sq S ?_; clear S; intro a S)
      refine sr S (hF (nthG xs k) (nthG_mem (by omega)) w S.wd.agree) ?_; clear S; rintro _ a w rfl S
      refine wl_nil ?_
      refine xtn ?_
      refine c_cond S (fun h4 => ?_) (fun h4 => ?_)
      · refine c_seq ?_
        refine c_region ?_
        iterate 2 (refine sq S ?_; clear S; intro a S)
        refine wl_nil ?_
        refine xtn ?_
        refine c_ret ?_
        refine xbr ?_
        iterate 2 (refine xtr ?_)
        refine xbr ?_
        refine xtr ?_
        rw [if_pos h4] at hrel
        refine end1 S (fun _ => ?_)
        rw [hrel]
      · refine c_skip ?_
        refine xbn ?_
        refine xtn ?_
        refine c_region ?_
        iterate 2 (refine sq S ?_; clear S; intro a S)
        refine wl_nil ?_
        refine xtn ?_
        rw [if_neg (by simpa using h4)] at hrel
        rw [w64 ((k : Int) + 1) (by omega) (by omega)] at S
        exact ⟨k + 1, S.uu, ⟨hkl, by rw [← hrel]; rfl⟩, S.sub _ _, by omega⟩
    · refine c_exit ?_
      iterate 2 (refine xte ?_)
      refine xbe ?_
      refine xtn ?_
      refine c_seq ?_
      refine c_region ?_
      refine sq S ?_; clear S; intro a S
      refine wl_nil ?_
      refine xtn ?_
      refine c_ret ?_
      rw [List.drop_of_length_le (by simp at h2; omega)] at hrel
      refine end1 S (fun _ => ?_)
      rw [← hrel]; rfl
theorem containsMk_c (F : Nat) [EntF Tryd.prog F] (ca : List Value) (q : LMark → Bool) (xs : List LMark) (p : Option Addr) (n c : Nat) (w0 : World) (hn : xs.length = n) (hl : n ≤ 9223372036854775807) (hx : Stable (fun _ => False) w0 (GlF p xs))
    (hF : ∀ x ∈ xs, ∀ w, Agree (fun _ => False) w0 w → Ret Tryd.prog F (vMark x :: ca) w (fun _ => False) fun v _ => v = .bool (q x)) :
    Ret Tryd.prog 92 [.slice p n c, .func (.func F) #[] ⟨ca⟩] w0 (fun _ => False) fun v _ => v = .bool (xs.any q) := by
  refine enter Tryd.func92 rfl rfl (Wd.begin (fs := [GlF p xs]) (by simpa using hx)) (fun a S => ?_)
  simp only [Tryd.ntmps92, List.length_cons, List.length_nil, Nat.reduceAdd, Nat.reduceSub, List.replicate_succ, List.replicate_zero, List.cons_append, List.nil_append] at S
  refine c_seq ?_
  refine c_region ?_
  refine sq S ?_; clear S; intro a S
  refine wl_nil ?_
  refine xtn ?_
  refine c_seq ?_
  refine c_region ?_
  iterate 2 (refine sq S ?_; clear S; intro a S)
  refine sr S (indexMk_c F ca q xs p n c _ hn hl (S.gl0 p) fun x hx w' hw' => hF x hx w' (S.wd.agree.trans hw')) ?_; clear S; rintro _ a w rfl S
  iterate 2 (refine sq S ?_; clear S; intro a S)
  refine wl_nil ?_
  refine xtn ?_
  refine c_ret ?_
  refine end1 S (fun _ => ?_)
  rw [idxG_any q xs 0 (by omega)]
def cov1 (m x : LMark) : Bool := decide (x.key = m.key) && decide (m.ver ≤ x.ver)
theorem covers11_c (b : Nat) (m x : LMark) (w0 : World) (hb : Stable (fun _ => False) w0 (BoxF b 51 [str m.key, .int .i64 m.ver])) : Ret Tryd.prog 93 [vMark x, .pointer (some ⟨b, 0, none⟩)] w0 (fun _ => False) fun v _ => v = .bool (cov1 m x) := by
  refine enter Tryd.func93 rfl rfl (Wd.begin (fs := [BoxF b 51 [str m.key, .int .i64 m.ver]]) (by simpa using hb)) (fun a S => ?_)
  simp only [Tryd.ntmps93, List.length_cons, List.length_nil, Nat.reduceAdd, Nat.reduceSub, List.replicate_succ, List.replicate_zero, List.cons_append, List.nil_append] at S
  refine c_seq ?_
  refine c_region ?_
  refine sa S ?_; clear S; intro b2 a w S
  refine sq S ?_; clear S; intro a S
  refine wl_nil ?_
  refine xtn ?_
  refine c_seq ?_
  refine c_region ?_
  iterate 6 (refine sq S ?_; clear S; intro a S)
  iterate 5 (refine gQ S ?_; clear S; intro a S)
  iterate 2 (refine sq S ?_; clear S; intro a S)
  refine wl_nil ?_
  refine xtn ?_
  refine c_ret ?_
  refine end1 S (fun _ => ?_)
  first | rfl | simp [cov1]
theorem covers1_c (b : Nat) (m : LMark) (now : List LMark) (q : Option Addr) (n e : Nat) (w0 : World) (hn : now.length = n) (hl : n ≤ 1000000) (hb : Stable (fun _ => False) w0 (BoxF b 46 [.slice q n e])) (hx : Stable (fun _ => False) w0 (GlF q now)) : Ret Tryd.prog 91 [vMark m, .pointer (some ⟨b, 0, none⟩)] w0 (fun _ => False) fun v _ => v = .bool (!now.any (cov1 m)) := by
  refine enter Tryd.func91 rfl rfl (Wd.begin (fs := [BoxF b 46 [.slice q n e], GlF q now]) (by simp; exact ⟨hb, hx⟩)) (fun a S => ?_)
  simp only [Tryd.ntmps91, List.length_cons, List.length_nil, Nat.reduceAdd, Nat.reduceSub, List.replicate_succ, List.replicate_zero, List.cons_append, List.nil_append] at S
  refine c_seq ?_
  refine c_region ?_
  refine sa S ?_; clear S; intro b2 a w S
  refine sq S ?_; clear S; intro a S
  refine wl_nil ?_
  refine xtn ?_
  refine c_seq ?_
  refine c_region ?_
  iterate 2 (refine sq S ?_; clear S; intro a S)
  have hbx := BoxF.stable (M := fun _ => False) (S.boxF b2) (fun h => h)
  refine sr S (containsMk_c 93 [.pointer (some ⟨b2, 0, none⟩)] (cov1 m) now q n e _ hn (by omega) (S.gl0 q) (fun x _ w' hw' => covers11_c b2 m x w' (hbx.later hw'))) ?_; clear S; rintro _ a w rfl S
  iterate 2 (refine sq S ?_; clear S; intro a S)
  refine wl_nil ?_
  refine xtn ?_
  refine c_ret ?_
  refine end1 S (fun _ => rfl)
theorem covers_c (old now : List LMark) (p q : Option Addr) (c e : Nat) (w0 : World) (hl : old.length ≤ 1000000) (hl2 : now.length ≤ 1000000) (hx : Stable (fun _ => False) w0 (GlF p old)) (hy : Stable (fun _ => False) w0 (GlF q now)) :
    Ret Tryd.prog 58 [.slice p old.length c, .slice q now.length e] w0 (fun _ => False) fun v _ => v = .bool (!old.any fun m => !now.any (cov1 m)) := by
  refine enter Tryd.func58 rfl rfl (Wd.begin (fs := [GlF p old, GlF q now]) (by simp; exact ⟨hx, hy⟩)) (fun a S => ?_)
  simp only [Tryd.ntmps58, List.length_cons, List.length_nil, Nat.reduceAdd, Nat.reduceSub, List.replicate_succ, List.replicate_zero, List.cons_append, List.nil_append] at S
  refine c_seq ?_
  refine c_region ?_
  refine sa S ?_; clear S; intro b3 a w S
  refine sq S ?_; clear S; intro a S
  refine wl_nil ?_
  refine xtn ?_
  refine c_seq ?_
  refine c_region ?_
  iterate 2 (refine sq S ?_; clear S; intro a S)
  refine wl_nil ?_
  refine xtn ?_
  refine c_seq ?_
  refine c_region ?_
  iterate 2 (refine sq S ?_; clear S; intro a S)
  have hbx := BoxF.stable (M := fun _ => False) (S.boxF b3) (fun h => h)
  have hqx := S.gl0 q
  refine sr S (containsMk_c 91 [.pointer (some ⟨b3, 0, none⟩)] (fun m => !now.any (cov1 m)) old p old.length c _ rfl (by omega) (S.gl0 p) (fun x _ w' hw' => covers1_c b3 x now q now.length e w' rfl hl2 (hbx.later hw') (hqx.later hw'))) ?_; clear S; rintro _ a w rfl S
  iterate 2 (refine sq S ?_; clear S; intro a S)
  refine wl_nil ?_
  refine xtn ?_
  refine c_ret ?_
  refine end1 S (fun _ => rfl)
/-! what was seen -/
structure LSeen where
  user : Int
  cnt : Int
  root : LTerm
abbrev cSeen (s : LSeen) : List Value := [.int .i64 s.user, .int .i64 s.cnt, .int .i64 s.root.kind, .int .i64 s.root.user, .int .i64 s.root.num, str s.root.text, .slice s.root.p s.root.kids.length s.root.cap]
instance encSeen : Enc LSeen := ⟨7, cSeen, fun _ => rfl, fun x u hu => by simp only [List.mem_cons, List.not_mem_nil, or_false] at hu; rcases hu with rfl | rfl | rfl | rfl | rfl | rfl | rfl <;> rfl⟩
instance laySeen : Lay LSeen := { encSeen with
  dflt := ⟨0, 0, zeroL⟩
  inn := fun w s => LtIn w s.root
  mono := fun w w' s h hw => LtIn.mono h s.root hw }
instance : SzE LSeen 7 := ⟨rfl, by decide⟩
instance {s : LSeen} : CellsOf s (cSeen s) := ⟨rfl⟩
theorem fcheck_nil (c : Nat) (p : Option Addr) (w0 : World) : Ret Tryd.prog 59 [.slice p 0 c] w0 (fun _ => False) fun v _ => v = .int .i64 0 := by
  refine enter Tryd.func59 rfl rfl (Wd.start w0) (fun a S => ?_)
  simp only [Tryd.ntmps59, List.length_cons, List.length_nil, Nat.reduceAdd, Nat.reduceSub, List.replicate_succ, List.replicate_zero, List.cons_append, List.nil_append] at S
  refine c_seq ?_
  refine c_region ?_
  refine sq S ?_; clear S; intro a S
  refine wl_nil ?_
  refine xtn ?_
  refine c_seq ?_
  refine c_region ?_
  refine sq S ?_; clear S; intro a S
  refine wl_nil ?_
  refine xtn ?_
  iterate 2 (refine c_seq ?_)
  refine c_region ?_
  iterate 2 (refine sq S ?_; clear S; intro a S)
  rw [show (((0 : Nat) : Int)) = 0 from rfl] at S
  refine sq S ?_; clear S; intro a S
  refine wl_nil ?_
  refine xtn ?_
  refine c_block ?_
  refine c_forb1 S (fun (k : Nat) uu => [(2, uu 2), (0, uu 3), (1, uu 5), (2, .int .i64 0), (0, uu 9), (0, uu 10), (0, uu 11), (0, uu 12), (0, uu 13), (0, uu 14), (0, uu 15), (0, uu 16), (0, uu 17), (0, uu 18), (0, uu 19), (0, uu 20), (0, uu 21), (0, uu 22), (0, uu 23), (0, uu 24), (0, uu 25), (0, uu 26), (0, uu 27), (0, uu 28), (0, uu 29), (0, uu 30), (0, uu 31), (0, uu 32), (0, uu 33), (0, uu 34), (0, uu 35), (0, uu 36)]) (fun (k : Nat) => True) (fun (k : Nat) => 0) (0) ?_ S.uu ?_ ?_
  · exact trivial
  · first | exact S | exact S.sub _ _
  · clear S; rintro k uu a w - S
    refine c_seq ?_
    refine c_region ?_
    refine sq S ?_; clear S; intro a S
    rw [show decide ((0 : Int) < 0) = false from rfl] at S
    refine wl_nil ?_
    refine xtn ?_
    refine c_seq ?_
    refine c_condF S ?_
    refine c_exit ?_
    iterate 2 (refine xte ?_)
    refine xbe ?_
    refine xtn ?_
    refine c_seq ?_
    refine c_region ?_
    refine sq S ?_; clear S; intro a S
    refine wl_nil ?_
    refine xtn ?_
    refine c_ret ?_
    refine end1 S (fun _ => rfl)
theorem fclone_nil (c : Nat) (w0 : World) : Ret Tryd.prog 62 [.slice none 0 c] w0 (fun _ => False) fun v _ => v = .slice none 0 0 := by
  refine enter Tryd.func62 rfl rfl (Wd.start w0) (fun a S => ?_)
  simp only [Tryd.ntmps62, List.length_cons, List.length_nil, Nat.reduceAdd, Nat.reduceSub, List.replicate_succ, List.replicate_zero, List.cons_append, List.nil_append] at S
  refine c_seq ?_
  refine c_region ?_
  refine sq S ?_; clear S; intro a S
  refine wl_nil ?_
  refine xtn ?_
  iterate 2 (refine c_seq ?_)
  refine c_region ?_
  iterate 2 (refine sq S ?_; clear S; intro a S)
  rw [show (none : Option Addr).isNone = true from rfl] at S
  refine wl_nil ?_
  refine xtn ?_
  refine c_condT S ?_
  refine c_seq ?_
  refine c_region ?_
  refine sq S ?_; clear S; intro a S
  refine wl_nil ?_
  refine xtn ?_
  refine c_ret ?_
  refine xtr ?_
  refine end1 S (fun _ => rfl)
theorem fbs_nil (c : Nat) (u : Int) (w0 : World) : Ret Tryd.prog 94 [.slice none 0 c, .int .i64 u, .func (.func 95) #[] #[]] w0 (fun _ => False) fun v _ => v = .tuple ⟨[.int .i64 0, .bool false]⟩ := by
  refine enter Tryd.func94 rfl rfl (Wd.start w0) (fun a S => ?_)
  simp only [Tryd.ntmps94, List.length_cons, List.length_nil, Nat.reduceAdd, Nat.reduceSub, List.replicate_succ, List.replicate_zero, List.cons_append, List.nil_append] at S
  refine c_seq ?_
  refine c_region ?_
  iterate 2 (refine sq S ?_; clear S; intro a S)
  refine wl_nil ?_
  refine xtn ?_
  refine c_seq ?_
  refine c_region ?_
  iterate 2 (refine sq S ?_; clear S; intro a S)
  rw [show (((0 : Nat) : Int)) = 0 from rfl] at S
  refine sq S ?_; clear S; intro a S
  refine wl_nil ?_
  refine xtn ?_
  refine c_seq ?_
  refine c_region ?_
  iterate 3 (refine sq S ?_; clear S; intro a S)
  refine wl_nil ?_
  refine xtn ?_
  refine c_seq ?_
  refine c_block ?_
  refine c_forb1 S (fun (k : Nat) uu => [(9, .int .i64 0), (0, .int .i64 0), (0, uu 11), (3, uu 15), (0, uu 16), (0, uu 17), (0, uu 18), (0, uu 19), (0, uu 20), (0, uu 21), (0, uu 22), (0, uu 23), (0, uu 24), (0, uu 25), (0, uu 26), (0, uu 27), (0, uu 28), (0, uu 29), (0, uu 30), (0, uu 31), (0, uu 32), (0, uu 33), (0, uu 34)]) (fun (k : Nat) => True) (fun (k : Nat) => 0) (0) ?_ S.uu ?_ ?_
  · exact trivial
  · first | exact S | exact S.sub _ _
  · clear S; rintro k uu a w - S
    iterate 2 (refine c_seq ?_)
    refine c_region ?_
    iterate 3 (refine sq S ?_; clear S; intro a S)
    rw [show decide ((0 : Int) < 0) = false from rfl] at S
    refine wl_nil ?_
    refine xtn ?_
    refine c_condF S ?_
    refine c_exit ?_
    iterate 2 (refine xte ?_)
    refine xbe ?_
    refine xtn ?_
    refine c_seq ?_
    refine c_region ?_
    iterate 4 (refine sq S ?_; clear S; intro a S)
    rw [show decide ((0 : Int) < 0) = false from rfl] at S
    refine sq S ?_; clear S; intro a S
    iterate 8 (refine gF S ?_; clear S; intro a S)
    iterate 3 (refine sq S ?_; clear S; intro a S)
    refine wl_nil ?_
    refine xtn ?_
    refine c_ret ?_
    refine end2 S (fun _ => rfl)
theorem ffind_nil (c : Nat) (u : Int) (w0 : World) : Ret Tryd.prog 61 [.slice none 0 c, .int .i64 u] w0 (fun _ => False) fun v _ => v = .tuple ⟨[.int .i64 0, .bool false]⟩ := by
  refine enter Tryd.func61 rfl rfl (Wd.start w0) (fun a S => ?_)
  simp only [Tryd.ntmps61, List.length_cons, List.length_nil, Nat.reduceAdd, Nat.reduceSub, List.replicate_succ, List.replicate_zero, List.cons_append, List.nil_append] at S
  refine c_seq ?_
  refine c_region ?_
  iterate 2 (refine sq S ?_; clear S; intro a S)
  refine wl_nil ?_
  refine xtn ?_
  refine c_seq ?_
  refine c_region ?_
  iterate 2 (refine sq S ?_; clear S; intro a S)
  refine sr S (fbs_nil c u _) ?_; clear S; rintro _ a w rfl S
  iterate 4 (refine sq S ?_; clear S; intro a S)
  refine wl_nil ?_
  refine xtn ?_
  refine c_ret ?_
  refine end2 S (fun _ => rfl)
theorem finsert_nil (c : Nat) (q : Option Addr) (s : LSeen) (w0 : World) (hs : Stable (fun _ => False) w0 (GlF q [s])) : Ret Tryd.prog 64 [.slice none 0 0, .int .i64 0, .slice q 1 c] w0 (fun _ => False) fun v w' => ∃ p' c', v = .slice p' 1 c' ∧ w'.ownsRow 0 92 7 (.slice p' 1 c') 1 (encL [s]) ∧ ∀ ad, p' = some ad → w0.heap.size ≤ ad.block := by
  refine enter Tryd.func64 rfl rfl (Wd.begin (fs := [GlF q [s]]) (by simpa using hs)) (fun a S => ?_)
  simp only [Tryd.ntmps64, List.length_cons, List.length_nil, Nat.reduceAdd, Nat.reduceSub, List.replicate_succ, List.replicate_zero, List.cons_append, List.nil_append] at S
  refine c_seq ?_
  refine c_region ?_
  refine sq S ?_; clear S; intro a S
  refine wl_nil ?_
  refine xtn ?_
  refine c_seq ?_
  refine c_region ?_
  iterate 2 (refine sq S ?_; clear S; intro a S)
  refine ssl S ?_ ?_ ?_ ?_; omega; omega; omega; clear S; intro a S
  refine wl_nil ?_
  refine xtn ?_
  refine c_seq ?_
  refine c_region ?_
  iterate 2 (refine sq S ?_; clear S; intro a S)
  rw [show (((1 : Nat) : Int)) = 1 from rfl] at S
  refine sq S ?_; clear S; intro a S
  refine wl_nil ?_
  refine xtn ?_
  iterate 2 (refine c_seq ?_)
  refine c_region ?_
  iterate 2 (refine sq S ?_; clear S; intro a S)
  rw [show decide ((1 : Int) = 0) = false from rfl] at S
  refine wl_nil ?_
  refine xtn ?_
  refine c_condF S ?_
  refine c_skip ?_
  refine xtn ?_
  refine c_seq ?_
  refine c_region ?_
  iterate 2 (refine sq S ?_; clear S; intro a S)
  rw [show (((0 : Nat) : Int)) = 0 from rfl] at S
  refine sq S ?_; clear S; intro a S
  refine wl_nil ?_
  refine xtn ?_
  iterate 2 (refine c_seq ?_)
  refine c_region ?_
  iterate 3 (refine sq S ?_; clear S; intro a S)
  rw [show decide ((0 : Int) = 0) = true from rfl] at S
  refine wl_nil ?_
  refine xtn ?_
  refine c_condT S ?_
  refine c_seq ?_
  refine c_region ?_
  iterate 2 (refine sq S ?_; clear S; intro a S)
  have hN : LenN [s] 1 := ⟨rfl⟩
  replace S := S.addNil 92 7
  refine sap S (by simp [maxLen]) (by omega) ?_; clear S; rintro p2 c2 a w - S
  rw [List.nil_append, Nat.zero_add] at S
  refine sq S ?_; clear S; intro a S
  refine wl_nil ?_
  refine xtn ?_
  refine c_ret ?_
  refine xtr ?_
  have hrow := S.row p2 1
  have hnew := S.rowNew p2 1
  refine end1 S (fun _ => ?_)
  exact ⟨p2, c2, rfl, hrow, fun ad h => (hnew ad h).elim (fun h => h.elim) id⟩
def AccR (M : Nat → Prop) (u : Int) (S R : Term) (v : Value) (w : World) : Prop := ∃ (n : Int) (p po : Option Addr) (c co : Nat) (ms : List LMark) (os : List LSeen) (e : Int), v = .tuple ⟨[.slice po os.length co, .slice p ms.length c, .int .i64 e]⟩ ∧ Stable M w (GlF p ms) ∧ Stable M w (GlF po os) ∧
  (e = 0 → FreshOk u n ms S R ∧ ∃ x, os = [⟨u, n, x⟩]) ∧ (e ≠ 0 → ∀ n ms, ¬ FreshOk u n ms S R)
theorem faccept_nil (u : Int) (s r : LTerm) (M : Nat → Prop) (w0 : World) (hM : ∀ k, M k → k < w0.heap.size) (ht : Stable M w0 LibF) (hs : Stable M w0 (LtF s)) (hr : Stable M w0 (LtF r)) :
    Ret Tryd.prog 23 [.slice none 0 0, .int .i64 u, vL s, vL r] w0 (fun _ => False) fun v w' => AccR M u s.t r.t v w' := by
  refine enter Tryd.func23 rfl rfl (Wd.beginM (M := M) (fs := [TabF, LibF, LtF s, LtF r]) hM (by simp; exact ⟨ht.imp fun _ h => h.1, ht, hs, hr⟩)) (fun a S => ?_)
  simp only [Tryd.ntmps23, List.length_cons, List.length_nil, Nat.reduceAdd, Nat.reduceSub, List.replicate_succ, List.replicate_zero, List.cons_append, List.nil_append] at S
  refine c_seq ?_
  refine c_region ?_
  refine sa S ?_; clear S; intro b6 a w S
  refine sa S ?_; clear S; intro b7 a w S
  iterate 3 (refine sq S ?_; clear S; intro a S)
  refine wl_nil ?_
  refine xtn ?_
  iterate 2 (refine c_seq ?_)
  refine c_region ?_
  refine sq S ?_; clear S; intro a S
  refine sr S (fcheck_nil 0 none _) ?_; clear S; rintro _ a w rfl S
  refine sq S ?_; clear S; intro a S
  refine wl_nil ?_
  refine xtn ?_
  refine c_seq ?_
  refine c_region ?_
  iterate 2 (refine sq S ?_; clear S; intro a S)
  rw [show (!decide ((0 : Int) = 0)) = false from rfl] at S
  refine wl_nil ?_
  refine xtn ?_
  refine c_condF S ?_
  refine c_skip ?_
  refine xtn ?_
  refine c_seq ?_
  refine c_region ?_
  iterate 3 (refine sq S ?_; clear S; intro a S)
  refine sr S (fread_c u s r _ w (foots_lt S) (S.mem.fact LibF) (S.t s) (S.t r)) ?_; clear S; rintro _ a w ⟨n, p, c, ms, e, rfl, hms, hc, he1, he2⟩ S
  replace S := S.add hms
  iterate 7 (refine sq S ?_; clear S; intro a S)
  refine wl_nil ?_
  refine xtn ?_
  iterate 2 (refine c_seq ?_)
  refine c_region ?_
  iterate 2 (refine sq S ?_; clear S; intro a S)
  refine wl_nil ?_
  refine xtn ?_
  refine c_cond S (fun h5 => ?_) (fun h5 => ?_)
  · refine c_seq ?_
    refine c_region ?_
    iterate 4 (refine sq S ?_; clear S; intro a S)
    refine wl_nil ?_
    refine xtn ?_
    refine c_ret ?_
    refine xtr ?_
    have hne : e ≠ 0 := by simpa using h5
    refine end3 S (fun _ => ?_)
    exact ⟨0, none, none, 0, 0, [], [], e, rfl, fun _ _ => gl_nil, fun _ _ => gl_nil, fun h => absurd h hne, fun _ => (he2 hne).2.2.2⟩
  · refine c_skip ?_
    refine xtn ?_
    refine c_seq ?_
    have he0 : e = 0 := by simpa using h5
    have hok := he1 he0
    have hml := (okM_V hok.2.1).1
    refine c_region ?_
    refine sq S ?_; clear S; intro a S
    refine sr S (troot_c ms p c _ w hc (by omega) (foots_lt S) (S.mem.fact TabF) (S.mem.fact (GlF p ms))) ?_; clear S; rintro _ a w hR S
    obtain ⟨q, hq, hqt, hqf⟩ := hR.yes hok.2.1
    subst hq
    replace S := S.add hqf
    iterate 3 (refine sq S ?_; clear S; intro a S)
    refine sa S ?_; clear S; intro b15 a w S
    refine sw S ?_; clear S; intro a w S
    refine sq S ?_; clear S; intro a S
    refine wl_nil ?_
    refine xtn ?_
    refine c_seq ?_
    refine c_region ?_
    iterate 2 (refine sq S ?_; clear S; intro a S)
    refine sr S (ffind_nil 0 u _) ?_; clear S; rintro _ a w rfl S
    iterate 5 (refine sq S ?_; clear S; intro a S)
    refine wl_nil ?_
    refine xtn ?_
    refine c_seq ?_
    refine c_block ?_
    refine c_seq ?_
    refine c_region ?_
    iterate 2 (refine sq S ?_; clear S; intro a S)
    rw [show (!false) = true from rfl] at S
    refine sq S ?_; clear S; intro a S
    refine wl_nil ?_
    refine xtn ?_
    refine c_condT S ?_
    refine c_skip ?_
    refine xbn ?_
    refine xtn ?_
    refine c_seq ?_
    refine c_region ?_
    refine sq S ?_; clear S; intro a S
    refine sr S (fclone_nil 0 _) ?_; clear S; rintro _ a w rfl S
    refine sq S ?_; clear S; intro a S
    refine wl_nil ?_
    refine xtn ?_
    iterate 2 (refine c_seq ?_)
    refine c_region ?_
    iterate 2 (refine sq S ?_; clear S; intro a S)
    rw [show (((0 : Nat) : Int)) = 0 from rfl] at S
    refine sq S ?_; clear S; intro a S
    refine wl_nil ?_
    refine xtn ?_
    refine c_block ?_
    refine c_forb1 S (fun (k : Nat) uu => [(20, uu 20), (60, .int .i64 0), (0, uu 82), (0, uu 83), (0, uu 84), (0, uu 85), (0, uu 86), (0, uu 87), (0, uu 88), (0, uu 89), (0, uu 90), (0, uu 91), (0, uu 92), (0, uu 93), (0, uu 94)]) (fun (k : Nat) => True) (fun (k : Nat) => 0) (0) ?_ S.uu ?_ ?_
    · exact trivial
    · first | exact S | exact S.sub _ _
    · clear S; rintro k uu a w - S
      refine c_seq ?_
      refine c_region ?_
      refine sq S ?_; clear S; intro a S
      rw [show decide ((0 : Int) < 0) = false from rfl] at S
      refine wl_nil ?_
      refine xtn ?_
      refine c_seq ?_
      refine c_condF S ?_
      refine c_exit ?_
      iterate 2 (refine xte ?_)
      refine xbe ?_
      refine xtn ?_
      iterate 2 (refine c_seq ?_)
      refine c_region ?_
      iterate 2 (refine sq S ?_; clear S; intro a S)
      rw [show (!false) = true from rfl] at S
      refine wl_nil ?_
      refine xtn ?_
      refine c_condT S ?_
      refine c_region ?_
      iterate 3 (refine sq S ?_; clear S; intro a S)
      refine sn S ?_; clear S; intro b100 a w S
      replace S := S.boxRow b100 7 1 rfl (by simp [maxLen])
      rw [show ([.int .i64 0, .int .i64 0, .int .i64 0, .int .i64 0, .int .i64 0, .string ⟨#[]⟩, .slice none 0 0] : List Value) = encL [(⟨0, 0, zeroL⟩ : LSeen)] from rfl] at S
      replace S := S.rowToGl (some ⟨b100, 0, none⟩) [(⟨0, 0, zeroL⟩ : LSeen)] (e := 92) (sz := 7) (n := 1) (c := 1) (AllI.snoc (L := []) AllI.nil (fun _ _ => zeroL_in _))
      refine srn S (finsert_nil 1 (some ⟨b100, 0, none⟩) ⟨0, 0, zeroL⟩ _ (S.mem.fact0 (GlF (some ⟨b100, 0, none⟩) [(⟨0, 0, zeroL⟩ : LSeen)]))) ?_; clear S; rintro _ a w ⟨p', c', rfl, hown, hnew⟩ hS -
      have S := hS hown hnew
      clear hS
      have hK1 : KLt 0 1 := ⟨by omega⟩
      refine sq S ?_; clear S; intro a S
      refine wl_nil ?_
      refine xtn ?_
      refine c_seq ?_
      refine c_region ?_
      iterate 7 (refine sq S ?_; clear S; intro a S)
      refine sws S 1 (by omega) (by omega) ?_; clear S; intro a w S
      rw [show (encL [(⟨0, 0, zeroL⟩ : LSeen)]).take 0 ++ [.int .i64 u, .int .i64 n, .int .i64 q.kind, .int .i64 q.user, .int .i64 q.num, str q.text, .slice q.p q.kids.length q.cap] ++ (encL [(⟨0, 0, zeroL⟩ : LSeen)]).drop (0 + ([.int .i64 u, .int .i64 n, .int .i64 q.kind, .int .i64 q.user, .int .i64 q.num, str q.text, .slice q.p q.kids.length q.cap] : List Value).length) = encL [(⟨u, n, q⟩ : LSeen)] from rfl] at S
      refine wl_nil ?_
      refine xtn ?_
      refine c_seq ?_
      refine c_region ?_
      iterate 5 (refine sq S ?_; clear S; intro a S)
      refine wl_nil ?_
      refine xtn ?_
      refine c_ret ?_
      have hrow := S.row p' 1
      have hnew := S.rowNew p' 1
      have hq2 := S.laterT (M := M) q
      have hm2 := S.laterFact (M := M) (Φ := GlF p ms) (by simp)
      refine end3 S (fun _ => ?_)
      refine ⟨n, p, p', c, c', ms, [⟨u, n, q⟩], 0, rfl, hm2, ?_, fun _ => ⟨hok, q, rfl⟩, fun h => absurd rfl h⟩
      exact gl_own hrow (AllI.snoc (L := []) AllI.nil hq2) (fun ad h hm => (hnew ad h).elim id (fun h2 => by have := hM _ hm; omega))
instance {p : Option Addr} {n c : Nat} {xs : List LMark} {bs fs} [hg : HasG fs p LMark layMark xs] [hn : LenN xs n] [hk : LeC n 1000000] : CallV Tryd.prog 58 [.slice p n c, .slice none 0 0] bs fs (.bool (!xs.any fun _ => true)) := ⟨fun w m => by
  have hk' := hk.le
  have hn' := hn.eq
  subst hn'
  exact covers_c xs [] p none c 0 w hk' (by simp) ((hg.of _ _ m.facts).less fun _ _ h => h.elim) (fun _ _ => gl_nil)⟩
def mkL : List LMark := [⟨[97], 1⟩]
theorem mk_ok : okM mkL = true := by decide
theorem wakes16_c (w0 : World) (ht : Stable (fun _ => False) w0 LibF) : Ret Tryd.prog 20 [] w0 (fun _ => False) fun v _ => v = .bool true := by
  refine enter Tryd.func20 rfl rfl (Wd.begin (fs := [TabF, LibF]) (by simp; exact ⟨ht.imp fun _ h => h.1, ht⟩)) (fun a S => ?_)
  simp only [Tryd.ntmps20, List.length_cons, List.length_nil, Nat.reduceAdd, Nat.reduceSub, List.replicate_succ, List.replicate_zero, List.cons_append, List.nil_append] at S
  refine c_seq ?_
  refine c_region ?_
  refine sq S ?_; clear S; intro a S
  refine wl_nil ?_
  refine xtn ?_
  refine c_seq ?_
  refine c_region ?_
  refine sq S ?_; clear S; intro a S
  refine sn S ?_; clear S; intro b15 a w S
  refine sq S ?_; clear S; intro a S
  refine wl_nil ?_
  refine xtn ?_
  refine c_seq ?_
  refine c_region ?_
  refine sq S ?_; clear S; intro a S
  replace S := S.boxRow b15 2 1 rfl (by simp [maxLen])
  rw [show ([str [97], .int .i64 1] : List Value) = encL mkL from rfl] at S
  replace S := S.rowToGl (some ⟨b15, 0, none⟩) mkL (e := 51) (sz := 2) (n := 1) (c := 1) (AllI.snoc (L := []) AllI.nil (fun _ _ => trivial))
  refine sr S (publish_c 1 0 5 mkL (some ⟨b15, 0, none⟩) 1 _ w (by decide) (by decide) (foots_lt S) (S.mem.fact TabF) (S.mem.fact (GlF (some ⟨b15, 0, none⟩) mkL))) ?_; clear S; rintro _ a w ⟨t, x, e, rfl, htf, hxf, he, hy, -⟩ S
  obtain rfl : e = 0 := he
  obtain ⟨-, -, -, -, ht1, hx1⟩ := hy rfl
  have hok : FreshOk 1 5 mkL t.t x.t := ⟨by decide, mk_ok, by rw [ht1]; exact good_rooted (by decide) (by decide) (by decide) mk_ok, ⟨0, ht1⟩, hx1, by rw [hx1]; exact good_write (okM_V mk_ok).1 (okM_V mk_ok).2⟩
  replace S := (S.add htf).add hxf
  iterate 4 (refine sq S ?_; clear S; intro a S)
  refine sa S ?_; clear S; intro b2 a w S
  refine sa S ?_; clear S; intro b3 a w S
  iterate 2 (refine sw S ?_; clear S; intro a w S)
  refine sq S ?_; clear S; intro a S
  refine wl_nil ?_
  refine xtn ?_
  refine c_seq ?_
  refine c_region ?_
  iterate 2 (refine sq S ?_; clear S; intro a S)
  refine sr S (fread_c 1 t x _ w (foots_lt S) (S.mem.fact LibF) (S.t t) (S.t x)) ?_; clear S; rintro _ a w ⟨n1, p1, c1, m1, e1, rfl, hm1, -, h1a, h1b⟩ S
  have he1 : e1 = 0 := Classical.byContradiction fun h => (h1b h).2.2.2 _ _ hok
  obtain ⟨rfl, rfl⟩ := (h1a he1).uniq hok
  subst he1
  replace S := S.add hm1
  iterate 7 (refine sq S ?_; clear S; intro a S)
  refine wl_nil ?_
  refine xtn ?_
  refine c_seq ?_
  refine c_region ?_
  iterate 2 (refine sq S ?_; clear S; intro a S)
  refine sr S (faccept_nil 1 t x _ w (foots_lt S) (S.mem.fact LibF) (S.t t) (S.t x)) ?_; clear S; rintro _ a w ⟨n2, p2, po, c2, co, m2, os, e2, rfl, hm2, hos, h2a, h2b⟩ S
  have he2 : e2 = 0 := Classical.byContradiction fun h => h2b h _ _ hok
  obtain ⟨hok2, y, rfl⟩ := h2a he2
  obtain ⟨rfl, rfl⟩ := hok2.uniq hok
  subst he2
  replace S := S.add hos
  iterate 7 (refine sq S ?_; clear S; intro a S)
  refine wl_nil ?_
  refine xtn ?_
  refine c_seq ?_
  refine c_region ?_
  iterate 2 (refine sq S ?_; clear S; intro a S)
  refine sr S (fread_c 2 t x _ w (foots_lt S) (S.mem.fact LibF) (S.t t) (S.t x)) ?_; clear S; rintro _ a w ⟨n3, p3, c3, m3, e3, rfl, hm3, -, h3a, h3b⟩ S
  have he3 : e3 = 251 := by
    refine (h3b fun h => ?_).1
    have := (h3a h).user hok
    omega
  subst he3
  iterate 7 (refine sq S ?_; clear S; intro a S)
  refine wl_nil ?_
  refine xtn ?_
  refine c_seq ?_
  have hK1 : KLt 0 ([(⟨1, 5, y⟩ : LSeen)]).length := ⟨by simp⟩
  have hN1 : LenN mkL 1 := ⟨rfl⟩
  have hL1 : LeC 1 1000000 := ⟨by omega⟩
  refine c_region ?_
  iterate 3 (refine sq S ?_; clear S; intro a S)
  iterate 2 (refine gQ S ?_; clear S; intro a S)
  iterate 2 (refine sq S ?_; clear S; intro a S)
  iterate 2 (refine gQ S ?_; clear S; intro a S)
  iterate 2 (refine sq S ?_; clear S; intro a S)
  iterate 2 (refine gQ S ?_; clear S; intro a S)
  iterate 2 (refine sq S ?_; clear S; intro a S)
  iterate 2 (refine gQ S ?_; clear S; intro a S)
  iterate 2 (refine sq S ?_; clear S; intro a S)
  iterate 3 (refine gQ S ?_; clear S; intro a S)
  iterate 2 (refine sq S ?_; clear S; intro a S)
  iterate 3 (refine gQ S ?_; clear S; intro a S)
  iterate 2 (refine sq S ?_; clear S; intro a S)
  iterate 5 (refine gQ S ?_; clear S; intro a S)
  iterate 2 (refine sq S ?_; clear S; intro a S)
  refine gQ S ?_; clear S; intro a S
  refine gC S ?_; clear S; intro a w S
  refine gQ S ?_; clear S; intro a S
  iterate 2 (refine sq S ?_; clear S; intro a S)
  refine wl_nil ?_
  refine xtn ?_
  refine c_ret ?_
  refine end1 S (fun _ => ?_)
  simp [mkL, nthG]
end Go.Proofs.YtieeoakdkbackaaDoor

/- From a row's condition to what a walk needs; the rows of layer 14: TreeUnlike. -/
namespace Go.Proofs.YtieeoakdkbackaaDoor
open Go Go.Wk
open Go.ChangeShapes Go.WideShapes Go.ChangeAt Go.RowKit
set_option maxRecDepth 100000

theorem starE : "*" ++ "errors.errorString" = "*errors.errorString" := by decide
theorem rowE (u : TypeId) (h : Tryd.prog.typeName? 3 u = some "*errors.errorString") : u = 167 :=
  typeName_ptr_named (nm := "errors.errorString") (by rw [starE]; kernel_rfl) (by kernel_rfl) (by decide) u (by rw [starE]; exact h)
theorem pow10_data : (Rows.laid_internal_strconv_uint64pow10 : DataW Unit) = Lib.tabData .u64 Lib.pow10Tab := by kernel_rfl
theorem lib_of_laid {W : World} (h : laidMet Tryd.prog laidL W) : LibF W := by
  have h3 := h.tail.tail
  have h4 := h3.tail
  have h5 := h4.tail
  refine ⟨?_, ?_, ?_⟩
  · refine Lib.tabIs_of_head (rest := [("strconv.ErrRange", Rows.laid_strconv_ErrRange), ("strconv.ErrSyntax", Rows.laid_strconv_ErrSyntax)]) (g := 3) (t := 171) (e := 153) (n := 20) (by kernel_rfl) (by kernel_rfl) (by kernel_rfl) (by kernel_rfl) (by kernel_rfl) (by kernel_rfl) ?_
    rw [← pow10_data]; exact h3
  · obtain ⟨a, s, hv, -⟩ := laid_sentinel h5 (g := 1) (ti := 114) (by kernel_rfl) (by kernel_rfl) Tryd.underlying114 rowE Tryd.underlying167 Tryd.underlying169 rfl rfl Tryd.underlying9 (by kernel_rfl) (by kernel_rfl)
    exact ⟨_, _, hv⟩
  · obtain ⟨a, s, hv, -⟩ := laid_sentinel h4 (g := 2) (ti := 114) (by kernel_rfl) (by kernel_rfl) Tryd.underlying114 rowE Tryd.underlying167 Tryd.underlying169 rfl rfl Tryd.underlying9 (by kernel_rfl) (by kernel_rfl)
    exact ⟨_, _, hv⟩
instance troMark : Tro Tryd.prog 51 LMark := ⟨fun enc w base spare held fuel cs x h => by
  obtain ⟨hlen, hf⟩ := trod_flds Tryd.underlying51 h
  rw [show Tryd.prog.cellsOf 51 = 2 from by kernel_rfl] at hlen
  obtain ⟨n0, y0, g0⟩ := hf 0 9 0 rfl
  obtain ⟨n1, y1, g1⟩ := hf 1 3 1 rfl
  have hS : Tro Tryd.prog 9 (List UInt8) := troS Tryd.underlying9 (by kernel_rfl)
  obtain ⟨u0, e0, i0⟩ := trod_fld (α := List UInt8) g0 rfl
  obtain ⟨u1, e1, i1⟩ := trod_fld (α := Int) g1 rfl
  refine ⟨⟨u0, u1⟩, ?_, trivial⟩
  match cs, hlen with
  | [c0, c1], _ =>
    have q0 : [c0] = [str u0] := e0
    have q1 : [c1] = [.int .i64 u1] := e1
    simp only [List.cons.injEq, and_true] at q0 q1
    rw [q0, q1]; rfl, by kernel_rfl⟩
instance troMarks : Tro Tryd.prog 46 (Sl LMark) := troSl Tryd.underlying46 (by kernel_rfl)
end Go.Proofs.YtieeoakdkbackaaDoor

/- Layer 14: small. -/
namespace Go.Proofs.YtieeoakdkbackaaDoor
open Go Go.Wk
set_option synthInstance.maxSize 100000
set_option synthInstance.maxHeartbeats 400000
set_option maxRecDepth 100000

theorem own_cap14 {w : World} {e : TypeId} {sz : Nat} {p : Option Addr} {n c : Nat} {xs : List Value} (h : w.ownsRow 0 e sz (.slice p n c) n xs) : c ≤ maxLen := by
  rcases h.2 with ⟨hv, h0⟩ | ⟨g, cap, cur, hv, hb, hg, hnc, hcm, hcs, ht⟩
  · cases hv; exact Nat.zero_le _
  · cases hv; exact hcm
theorem take_map14 (ks : List LTerm) (k : Nat) (h : k < ks.length) : (ks.take (k + 1)).map LTerm.t = (ks.take k).map LTerm.t ++ [(nthL ks k).t] := by
  rw [List.take_add_one, nth_get h, List.map_append]; rfl
def small14 : Nat → Term → Term
  | 0, .mk k u n s _ => .mk k u n (s.take 65) []
  | d + 1, .mk k u n s ks => .mk k u n (s.take 65) ((ks.take 3).map (small14 d))
def small14K (d : Nat) (ks : List Term) : List Term := match d with | 0 => [] | d + 1 => (ks.take 3).map (small14 d)
theorem small14_eq (d : Nat) (t : LTerm) : small14 d t.t = .mk t.kind t.user t.num (t.text.take 65) (small14K d (t.kids.map LTerm.t)) := by
  rw [t.t_eq]; cases d <;> rfl
theorem small14K_len (d : Nat) (ks : List Term) : (small14K d ks).length ≤ 3 := by
  cases d
  · simp [small14K]
  · simp only [small14K, List.length_map, List.length_take]; omega
theorem small14K_more {d : Nat} {ks : List LTerm} {k : Nat} (h : k < ks.length) (hk : k < 3) : small14K (d + 1) ((ks.take (k + 1)).map LTerm.t) = small14K (d + 1) ((ks.take k).map LTerm.t) ++ [small14 d (nthL ks k).t] := by
  simp only [small14K]
  have e1 : ((ks.take (k + 1)).map LTerm.t).take 3 = (ks.take (k + 1)).map LTerm.t := List.take_of_length_le (by simp; omega)
  have e2 : ((ks.take k).map LTerm.t).take 3 = (ks.take k).map LTerm.t := List.take_of_length_le (by simp; omega)
  rw [e1, e2, take_map14 ks k h, List.map_append]; rfl
theorem small14K_same {d : Nat} {ks : List LTerm} {k : Nat} (h : k < ks.length) (hk : ¬ (k < 3 ∧ 0 < d)) : small14K d ((ks.take (k + 1)).map LTerm.t) = small14K d ((ks.take k).map LTerm.t) := by
  cases d with
  | zero => rfl
  | succ d =>
    simp only [small14K]
    rw [take_map14 ks k h, List.take_append_of_le_length (by simp; omega)]
end Go.Proofs.YtieeoakdkbackaaDoor

namespace Go.Wk
open Go

/-! panics: what they leave by, and who takes it -/
/-- what a call says that returns or panics; nothing but the blocks of M has changed. -/
def RetP (P : Program) (f : Nat) (args : List Value) (w : World) (M : Nat → Prop) (R : Value → World → Prop) (X : List PanicEntry → World → Prop) : Prop :=
  Calls P f args.toArray w fun e w' => (∃ v, e = .returned v ∧ Agree M w w' ∧ R v w') ∨ ∃ ch, e = .panicked ch ∧ Agree M w w' ∧ X ch w'
theorem Ret.toP {P : Program} {f : Nat} {args : List Value} {w : World} {M : Nat → Prop} {R : Value → World → Prop} {X : List PanicEntry → World → Prop} (h : Ret P f args w M R) : RetP P f args w M R X :=
  Calls.mono h fun _ _ ⟨v, e, ha, hv⟩ => .inl ⟨v, e, ha, hv⟩
theorem RetP.mono {P : Program} {f : Nat} {args : List Value} {w : World} {M : Nat → Prop} {R R' : Value → World → Prop} {X X' : List PanicEntry → World → Prop} (h : RetP P f args w M R X) (hr : ∀ v w', R v w' → R' v w') (hx : ∀ c w', X c w' → X' c w') : RetP P f args w M R' X' :=
  Calls.mono h fun _ _ h => h.imp (fun ⟨v, e, ha, hv⟩ => ⟨v, e, ha, hr _ _ hv⟩) fun ⟨c, e, ha, hc⟩ => ⟨c, e, ha, hx _ _ hc⟩
/-- it does not panic. -/
theorem RetP.ret {P : Program} {f : Nat} {args : List Value} {w : World} {M : Nat → Prop} {R : Value → World → Prop} {X : List PanicEntry → World → Prop} (h : RetP P f args w M R X) (hx : ∀ c w', ¬ X c w') : Ret P f args w M R :=
  Calls.mono h fun _ _ h => h.elim id fun ⟨c, _, _, hc⟩ => absurd hc (hx _ _)
/-- one panic, of this value. -/
def pch (v : Value) : List PanicEntry := [{ v := v, recovered := false }]

section
variable {P : Program} {r : Option Nat} {ops : Array Oper} {Q : Exit → Act → World → Prop} {w0 : World} {M0 : Nat → Prop} {ds : List Deferred} {a : Act} {w : World} {l l' : List Value} {bs bs' : List Item} {fs : List (World → Prop)}
  {d : Option Nat} {op : Op} {ty : TypeId} {pos : String} {af : Array Edge} {rest : List Oper} {v v' G : Value} {f : Nat} {x : Operand} {xs : List Operand} {args : List Value} {ts : Array TypeId} {j g : Nat} {pol : Bool} {cs : List Bool}

theorem cv_anyP [EntF P f] [CallTo ⟨[], l⟩ x xs f args] (S : St w0 M0 ds a w l bs fs) {R : Ending → World → Prop} (hc : Calls P f args.toArray w R)
    (K : ∀ e w', R e w' → (∃ v, e = .returned v ∧ WL P r ops Q rest (a.put d v) w') ∨ ∃ ch, e = .panicked ch ∧ Q (.panic ch) a w') :
    WL P r ops Q (⟨d, .call { callee := .value x, args := xs.toArray, argTypes := ts }, ty, pos, af, none⟩ :: rest) a w := by
  refine wl_plain rfl ?_
  rw [semAt_nd rfl]
  simp only [run_callto (f := f) (args := args) S.fr, Oper.uponIn]
  refine ⟨fun h => (by cases h), trivial, fun cs _ => ?_⟩
  obtain ⟨e, w', fr, hR, hcm, h1, h2⟩ := hc cs
  rcases K e w' hR with ⟨v, rfl, hk⟩ | ⟨ch, rfl, hk⟩
  · exact ⟨.returned v, w', fr, hk, (comesIn_wide (m := lone (Frame.enter P f args.toArray .normal) cs w) (e := .returned v)).2 hcm, h1, h2⟩
  · exact ⟨.panicked ch, w', fr, hk, (comesIn_wide (m := lone (Frame.enter P f args.toArray .normal) cs w) (e := .panicked ch)).2 hcm, h1, h2⟩
/-- a call that may panic: nothing that lay there has changed. -/
theorem srP {l' : Value → List Value} [EntF P f] [CallTo ⟨[], l⟩ x xs f args] [hp : ∀ v, PutO l d v (l' v)] (S : St w0 M0 ds a w l bs fs) {R : Value → World → Prop} {X : List PanicEntry → World → Prop} (hc : RetP P f args w (fun _ => False) R X)
    (Kp : ∀ ch w', X ch w' → St w0 M0 ds a w' l bs fs → Q (.panic ch) a w')
    (K : ∀ v a w', R v w' → St w0 M0 ds a w' (l' v) bs fs → WL P r ops Q rest a w') :
    WL P r ops Q (⟨d, .call { callee := .value x, args := xs.toArray, argTypes := ts }, ty, pos, af, none⟩ :: rest) a w := by
  refine cv_anyP S hc ?_
  rintro e w' (⟨v, rfl, ha, hR⟩ | ⟨ch, rfl, ha, hX⟩)
  · have := hp v
    have S' := S.put (d := d) (v := v)
    exact .inl ⟨v, rfl, K v _ w' hR ⟨S'.slots, S'.defers, S'.wd.step ha⟩⟩
  · exact .inr ⟨ch, rfl, Kp ch w' hX ⟨S.slots, S.defers, S.wd.step ha⟩⟩
/-- a panic. -/
theorem sPan {tp : TypeId} [hx : Ev ⟨[], l⟩ x (.iface tp v)] (S : St w0 M0 ds a w l bs fs) (h : St w0 M0 ds a w l bs fs → Q (.panic (pch (.iface tp v))) a w) : WL P r ops Q (⟨d, .panic x, ty, pos, af, none⟩ :: rest) a w := by
  refine wl_plain rfl ?_
  rw [semAt_nd rfl]
  have hf : a.eval x = .iface tp v := S.fr.ev
  have : (xop a.eval (.panic x) ty).run P w = .halt (.panic (.iface tp v)) w := by
    simp [xop, execOp, hf, Instr.panic, goPanic, Sem.run_bind, Sem.run]
  rw [this]
  exact h S

/-! how functions end that may panic -/
variable {fn : Func} {R : Value → World → Prop} {X : List PanicEntry → World → Prop} {e : Exit}
theorem endP (h : bodyPost P fn (fun e w' => ∃ v, e = .returned v ∧ Agree M0 w0 w' ∧ R v w') e a w) :
    bodyPost P fn (fun e w' => (∃ v, e = .returned v ∧ Agree M0 w0 w' ∧ R v w') ∨ ∃ ch, e = .panicked ch ∧ Agree M0 w0 w' ∧ X ch w') e a w := by
  cases e <;> simp only [bodyPost] at h ⊢ <;> first | exact h | skip
  · exact ⟨h.1, h.2.choose, h.2.choose_spec.1, .inl h.2.choose_spec.2⟩
  · exact ⟨h.1, h.2.choose, h.2.choose_spec.1, .inl h.2.choose_spec.2⟩
  · exact ⟨h.1, .inl h.2⟩
  · exact .inl h
theorem endX {ch : List PanicEntry} (S : St w0 M0 [] a w l bs fs) (h : X ch w) :
    bodyPost P fn (fun e w' => (∃ v, e = .returned v ∧ Agree M0 w0 w' ∧ R v w') ∨ ∃ ch, e = .panicked ch ∧ Agree M0 w0 w' ∧ X ch w') (.panic ch) a w :=
  ⟨S.defers, .inr ⟨ch, rfl, S.wd.agree, h⟩⟩

/-! a function that defers one call -/
theorem enterD {f : Nat} {fn : Func} {c : Code} {args : List Value} {l : List Value} {R : Ending → World → Prop} {M0 : Nat → Prop} {bs : List Item} {fs : List (World → Prop)}
    (hf : P.funcs[f]? = some fn) (hb : fn.body = some c) (hl : args ++ List.replicate (fn.ntmps - args.length) undef = l) (hw : Wd w M0 w bs fs)
    (h : ∀ a, St w M0 [] a w l bs fs → Wp P none c (bodyPostDIn (FW none) 0 P fn R) a w) : Calls P f args.toArray w R := by
  refine (callsIn_wide (n := 0)).1 (callsIn_of_wp_defers (F := FW none) (n := 0) hf hb trivial (h _ ⟨?_, rfl, hw⟩))
  simp [← hl]
theorem sdef {fi ca : List Value} {l' : List Value} [hx : Ev ⟨[], l⟩ x (.func (.func f) ⟨fi⟩ ⟨ca⟩)] [hp : PutO l d undef l'] (S : St w0 M0 ds a w l bs fs)
    (K : ∀ a, St w0 M0 ({ target := .fn (.func f) ⟨ca⟩, args := ⟨fi⟩ } :: ds) a w l' bs fs → WL P none ops Q rest a w) :
    WL P none ops Q (⟨d, .defer { callee := .value x, args := #[], argTypes := ts }, ty, pos, af, none⟩ :: rest) a w := by
  refine wl_plain rfl ?_
  have hf : a.eval x = .func (.func f) ⟨fi⟩ ⟨ca⟩ := S.fr.ev
  rw [Oper.semAt_none]
  have : (execOp a.eval ⟨d, .defer { callee := .value x, args := #[], argTypes := ts }, ty, pos, af, none⟩).run P w = .ok (.defer { target := .fn (.func f) ⟨ca⟩, args := ⟨fi⟩ }) w := by
    simp [execOp, resolve, hf, Deferred.ofValue]
  rw [this]
  obtain ⟨t, dd⟩ := a
  have := S.slots; simp at this; subst this
  have hd := S.defers; simp at hd; subst hd
  show WL P none ops Q rest _ w
  rw [hp.eq]
  exact K _ ⟨rfl, rfl, S.wd⟩
/-- its end, by whatever way: the deferred call is run. -/
theorem leaveRet {g : Nat} {ca : List Value} {K : World → Prop} {Rr : Ending → World → Prop} [he : EntF P g] (hd : a.defers = [{ target := .fn (.func g) ⟨ca⟩, args := #[] }])
    (hc : CallsDIn (FW none) 0 P g ca.toArray .returning w fun e u' w' => (∃ v, e = .returned v) ∧ u' = .returning ∧ K w')
    (hk : ∀ w', K w' → ∃ v, (results fn a.tmps).run P w' = .ok v w' ∧ Rr (.returned v) w') (hx : e = .ret ∨ e = .normal := by simp) : bodyPostDIn (FW none) 0 P fn Rr e a w := by
  have key : LeavesIn (FW none) 0 P fn a.tmps Rr a.defers .returning w := by
    rw [hd]
    refine leavesIn_cons (f := g) (args := ca.toArray) (by simp) (fun h => by cases h) ?_ (fun _ _ => trivial) (hc.mono ?_)
    · have := he.run ca.toArray w
      simpa [invoke] using this
    · rintro e u' w' ⟨⟨v, rfl⟩, rfl, hK⟩
      obtain ⟨v, h1, h2⟩ := hk w' hK
      exact ⟨v, h1, h2⟩
  rcases hx with rfl | rfl <;> exact key
theorem leavePan {g : Nat} {ca : List Value} {pv : Value} {K : World → Prop} {Rr : Ending → World → Prop} [he : EntF P g] (hd : a.defers = [{ target := .fn (.func g) ⟨ca⟩, args := #[] }])
    (hc : CallsDIn (FW none) 0 P g ca.toArray (.panicking (pch pv)) w fun e u' w' => (∃ v, e = .returned v) ∧ u' = .panicking [{ v := pv, recovered := true }] ∧ K w')
    (hk : ∀ w', K w' → ∃ v, (results fn a.tmps).run P w' = .ok v w' ∧ Rr (.returned v) w') : bodyPostDIn (FW none) 0 P fn Rr (.panic (pch pv)) a w := by
  show LeavesIn (FW none) 0 P fn a.tmps Rr a.defers (.panicking (pch pv)) w
  rw [hd]
  refine leavesIn_cons (f := g) (args := ca.toArray) (by simp) (fun h => by cases h) ?_ (fun _ _ => trivial) (hc.mono ?_)
  · have := he.run ca.toArray w
    simpa [invoke] using this
  · rintro e u' w' ⟨⟨v, rfl⟩, rfl, hK⟩
    obtain ⟨v, h1, h2⟩ := hk w' hK
    exact ⟨v, h1, h2⟩
/-- a deferred function that begins with recover. -/
theorem callsD_catch {f : Nat} {fn : Func} {rest : Code} {id t6 t3 : Nat} {ty0 ty1 : TypeId} {pos0 pos1 : String} {af0 af1 : Array Edge} {args l : List Value} {l1 l2 : Value → List Value} {u : FrameMode} {w0 : World} {M0 : Nat → Prop} {bs : List Item} {fs : List (World → Prop)} {Rr : Ending → FrameMode → World → Prop}
    (hf : P.funcs[f]? = some fn) (hb : fn.body = some (.seq (.region id #[⟨some t6, .call { callee := .builtin .recover, args := #[], argTypes := #[] }, ty0, pos0, af0, none⟩, ⟨some t3, .assign (.tmp t6), ty1, pos1, af1, none⟩] false) rest))
    (hl : args ++ List.replicate (fn.ntmps - args.length) undef = l) (hw : Wd w0 M0 w bs fs) [hp1 : ∀ x, PutAt l t6 x (l1 x)] [hn1 : ∀ x, Nth (l1 x) t6 x] [hp2 : ∀ x, PutAt (l1 x) t3 x (l2 x)]
    (hu : u = .returning ∨ ∃ pv, u = .panicking (pch pv))
    (h : ∀ (x : Value) (u' : FrameMode), (u = .returning ∧ x = .nilIface ∧ u' = u ∨ ∃ pv, u = .panicking (pch pv) ∧ x = pv ∧ u' = .panicking [{ v := pv, recovered := true }]) →
      ∀ a, St w0 M0 [] a w (l2 x) bs fs → Wp P none rest (fun e a' w' => (e = .normal ∨ e = .ret) ∧ a'.defers = [] ∧ ∃ v, (results fn a'.tmps).run P w' = .ok v w' ∧ Rr (.returned v) u' w') a w) :
    CallsDIn (FW none) 0 P f args.toArray u w Rr := by
  have main : ∀ (c₀ : Frame) (cs : List Frame) (x : Value) (u' : FrameMode), c₀.mode = u →
      (u = .returning ∧ x = .nilIface ∧ u' = u ∨ ∃ pv, u = .panicking (pch pv) ∧ x = pv ∧ u' = .panicking [{ v := pv, recovered := true }]) →
      rest.wpSIn (FW none) 0 P (bodyPostS P fn c₀ cs Rr) ⟨(l2 x).toArray, []⟩ ({ c₀ with mode := u' } :: cs) w := by
    intro c₀ cs x u' _ hx
    refine wpSIn_of_wpIn rfl (wpIn_mono (h x u' hx ⟨(l2 x).toArray, []⟩ ⟨rfl, rfl, hw⟩) fun e a' w' hq => ?_)
    obtain ⟨he, hd, v, h1, h2⟩ := hq
    rcases he with rfl | rfl <;> exact ⟨hd, u', rfl, v, h1, h2⟩
  refine callsDIn_of_wpSIn hf hb trivial fun c₀ cs hc₀ => wpSIn_seq (wpSIn_region ?_)
  have hl' : args.toArray ++ Array.replicate (fn.ntmps - args.toArray.size) undef = l.toArray := by rw [← hl]; simp
  rw [hl']
  have step : ∀ x, ((⟨l.toArray, []⟩ : Act).put (some t6) x).put (some t3) (((⟨l.toArray, []⟩ : Act).put (some t6) x).eval (.tmp t6)) = ⟨(l2 x).toArray, []⟩ := fun x => by
    have e1 : (⟨l.toArray, []⟩ : Act).put (some t6) x = ⟨(l1 x).toArray, []⟩ := (puto1 (l := l) (l' := l1 x) (v := x) (n := t6)).eq []
    have e2 : (⟨(l1 x).toArray, []⟩ : Act).eval (.tmp t6) = x := by
      have := (hn1 x).eq
      simp [Act.eval, Array.getD_eq_getD_getElem?, this]
    rw [e1, e2]
    exact (puto1 (l := l1 x) (l' := l2 x) (v := x) (n := t3)).eq []
  have hr0 : ∀ (a : Act), (execOp a.eval ⟨some t6, .call { callee := .builtin .recover, args := #[], argTypes := #[] }, ty0, pos0, af0, none⟩).run P w = .ok .recover w := fun a => by
    simp [execOp, resolve, invoke, builtin]
  have hr1 : ∀ (a : Act), (execOp a.eval ⟨some t3, .assign (.tmp t6), ty1, pos1, af1, none⟩).run P w = .ok (.value (a.eval (.tmp t6))) w := fun a => by
    simp [execOp]
  have hcs : ({ c₀ with mode := u } : Frame) = c₀ := by subst hc₀; rfl
  rw [show List.range (#[(⟨some t6, .call { callee := .builtin .recover, args := #[], argTypes := #[] }, ty0, pos0, af0, none⟩ : Oper), ⟨some t3, .assign (.tmp t6), ty1, pos1, af1, none⟩] : Array Oper).size = [0, 1] from rfl]
  simp only [wpOpsSIn, List.getElem?_toArray, List.getElem?_cons_zero, List.getElem?_cons_succ, hr0, hr1]
  refine ⟨fun _ _ => trivial, ?_⟩
  rw [if_pos (by rfl)]
  rcases hu with rfl | ⟨pv, rfl⟩
  · have : recoverD (c₀ :: cs) = none := by simp [recoverD, hc₀]
    rw [this]
    refine ⟨fun _ _ => trivial, ?_⟩
    rw [if_pos (by rfl)]
    have hm := main c₀ cs .nilIface .returning hc₀ (.inl ⟨rfl, rfl, rfl⟩)
    rw [hcs] at hm
    rw [← step] at hm
    exact hm
  · have : recoverD (c₀ :: cs) = some (pv, { c₀ with mode := .panicking [{ v := pv, recovered := true }] } :: cs) := by simp [recoverD, hc₀, pch]
    rw [this]
    refine ⟨fun _ _ => trivial, ?_⟩
    rw [if_pos (by rfl)]
    have hm := main c₀ cs pv _ hc₀ (.inr ⟨pv, rfl, rfl, rfl⟩)
    rw [← step] at hm
    exact hm
end

/-- such a function's result. -/
theorem resC {P : Program} {fn : Func} {w0 : World} {M0 : Nat → Prop} {a : Act} {w : World} {l : List Value} {bs : List Item} {fs : List (World → Prop)} [hr : FnRes fn []] (S : St w0 M0 [] a w l bs fs) : (results fn a.tmps).run P w = .ok (.tuple #[]) w := by
  rw [S.slots, results_eq (rs := [])]; simp
theorem res3 {P : Program} {fn : Func} {t : Array Value} {w : World} {l : List Value} {bs : List Item} {r1 r2 r3 : ResultVar} {v1 v2 v3 : Value} [hr : FnRes fn [r1, r2, r3]] (hs : t = l.toArray) [h1 : ResV P l bs r1 v1] [h2 : ResV P l bs r2 v2] [h3 : ResV P l bs r3 v3] (hh : ∀ it ∈ bs, it.holds w) : (results fn t).run P w = .ok (.tuple ⟨[v1, v2, v3]⟩) w := by
  rw [hs, results_eq (rs := [r1, r2, r3])]
  simp [run_res (P := P) (l := l) (bs := bs) (rv := r1) (v := v1) w hh, run_res (P := P) (l := l) (bs := bs) (rv := r2) (v := v2) w hh, run_res (P := P) (l := l) (bs := bs) (rv := r3) (v := v3) w hh]

/-! regions that draw their order, and may panic on the way -/
structure XP where
  keep : List (Nat × Value)
  dss : List Deferred
  XW : List PanicEntry → World → Prop
def XP.at (x : XP) : Exit → Act → World → Prop
  | .panic ch, a, w => (∀ p ∈ x.keep, a.tmps[p.1]? = some p.2) ∧ a.defers = x.dss ∧ x.XW ch w
  | _, _, _ => False
/-- what is kept is not written. -/
def XP.off (x : XP) (o : Oper) : Prop := ∀ p ∈ x.keep, o.dst ≠ some p.1
theorem XP.put {x : XP} {o : Oper} (h : x.off o) {ch : List PanicEntry} {a : Act} {v : Value} {w : World} (hp : x.at (.panic ch) (a.put o.dst v) w) : x.at (.panic ch) a w := by
  obtain ⟨h1, h2, h3⟩ := hp
  refine ⟨fun p hpk => ?_, ?_, h3⟩
  · have h1 := h1 p hpk
    have h0 := h p hpk
    cases hd : o.dst with
    | none => rw [hd] at h1; exact h1
    | some n =>
      rw [hd] at h1
      have hne : n ≠ p.1 := fun e => h0 (by rw [hd, e])
      simpa [Act.put, Array.getElem?_setIfInBounds, hne] using h1
  · cases hd : o.dst <;> rw [hd] at h2 <;> exact h2
section
variable {P : Program} {ops : Array Oper} {C : World → Prop} {X : XP}
abbrev WNX (P : Program) (ops : Array Oper) (X : XP) (i : Nat) (K : Act → World → Prop) (a : Act) (w : World) : Prop := wpOpIn (FW none) 0 P ops X.at i K a w
theorem YieldsC.wnx {i : Nat} {o : Oper} {v : Value} {a : Act} (hi : ops[i]? = some o) (hy : YieldsC P ops C o v a)
    {K : Act → World → Prop} {w : World} (hC : C w) (h : K (a.put o.dst v) w) : WNX P ops X i K a w := by
  unfold WNX wpOpIn
  simp only [hi]
  rcases hy with ⟨hw, hv⟩ | ⟨hw, rfl⟩
  · simp only [hw, if_true, Oper.wpIn, Oper.semAt_none, hv w hC, Oper.uponIn]; exact ⟨fun _ _ => trivial, h⟩
  · simp only [hw, Bool.false_eq_true, if_false]; exact ⟨fun _ _ => trivial, h⟩
theorem wnx_put {j : Nat} {oi oj : Oper} {v : Value} (hj : ops[j]? = some oj) (hap : oi.apart ops oj = true) (hoff : X.off oi)
    (hsi : ∀ cs b, oi.op ≠ .select cs b) (hsj : ∀ cs b, oj.op ≠ .select cs b) {K : Act → World → Prop} {a : Act} {w : World}
    (hy : YieldsC P ops C oi v a) (h : WNX P ops X j K (a.put oi.dst v) w) :
    WNX P ops X j (fun a' w' => YieldsC P ops C oi v a' ∧ K (a'.put oi.dst v) w') a w := by
  obtain ⟨h1, h2, h3⟩ := Oper.apart_spec hap
  have keep : ∀ (a : Act), YieldsC P ops C oi v a → ∀ u, YieldsC P ops C oi v (a.put oj.dst u) := fun a hy u =>
    hy.of_same (execOp_put oi hsi a oj.dst u h3) (wanted_put oi a oj.dst u h3)
  have keepD : ∀ d, YieldsC P ops C oi v { a with defers := d :: a.defers } := fun d => hy.of_same rfl rfl
  have lets : LetsOut X.at → LetsOut X.at := id
  unfold WNX wpOpIn at *
  simp only [hj] at *
  rw [wanted_put oj a oi.dst v h1] at h
  split
  · rename_i hw
    simp only [hw, if_true] at h
    unfold Oper.wpIn at *
    refine ⟨fun _ _ => trivial, ?_⟩
    have h := h.2
    rw [Oper.semAt_none, execOp_put oj hsj a oi.dst v h1] at h
    rw [Oper.semAt_none]
    generalize (execOp a.eval oj).run P w = r at *
    cases r with
    | ok x w' =>
      cases x <;> simp only [Oper.uponIn] at h ⊢
      case value u => exact ⟨keep a hy u, by rw [← Act.put_comm a v u h2]; exact h⟩
      case skip => exact ⟨keep a hy _, by rw [← Act.put_comm a v undef h2]; exact h⟩
      case defer d =>
        refine ⟨keep _ (keepD d) _, ?_⟩
        rw [← Act.put_comm _ v undef h2, ← Act.put_defers]
        exact h
      case enter f args =>
        refine ⟨h.1, CallsIn.mono h.2 fun e w'' he => ?_⟩
        cases e with
        | returned u => exact ⟨keep a hy u, by rw [← Act.put_comm a v u h2]; exact he⟩
        | panicked c => exact XP.put hoff he
        | outgrown => exact he
      case row row args => exact ⟨h.1, RowsIn.mono h.2 fun u w'' he => ⟨keep a hy u, by rw [← Act.put_comm a v u h2]; exact he⟩⟩
      case round l f tmps assign body =>
        refine ⟨h.1, RoundIn.mono h.2 fun e w'' he => ?_⟩
        cases e with
        | returned u => exact ⟨keep a hy u, by rw [← Act.put_comm a v u h2]; exact he⟩
        | panicked c => exact XP.put hoff he
        | outgrown => exact he
    | halt x w' =>
      cases x <;> simp only [Oper.uponIn] at h ⊢
      case panic u => exact XP.put hoff h
  · rename_i hw
    simp only [hw] at h
    exact ⟨fun _ _ => trivial, keep a hy _, by rw [← Act.put_comm a v undef h2]; exact h.2⟩
def ACX (P : Program) (ops : Array Oper) (X : XP) (C : World → Prop) (R : Act → World → Prop) : Nat → Array Bool → Act → World → Prop
  | 0, listed, a, w => Region.ready .any ops listed = [] ∧ R a w
  | fuel + 1, listed, a, w =>
    (Region.ready .any ops listed = [] → R a w) ∧
    ∀ i ∈ Region.ready .any ops listed, WNX P ops X i (fun a' w' => C w' ∧ ACX P ops X C R fuel (listed.setIfInBounds i true) a' w') a w
variable {R : Act → World → Prop}
theorem acx_first {i : Nat} {oi : Oper} {v : Value} (hi : ops[i]? = some oi) (hoff : X.off oi) (hsel : ∀ (j : Nat) (o : Oper) cs b, ops[j]? = some o → o.op ≠ .select cs b) :
    ∀ (fuel : Nat) (listed : Array Bool) (a : Act) (w : World),
      (∀ j oj, ops[j]? = some oj → j ≠ i → listed.getD j true = false → (∀ e ∈ oj.after, Region.binds .any e = true → e.on ≠ i) → oi.apart ops oj = true) →
      i ∈ Region.ready .any ops listed → YieldsC P ops C oi v a → C w →
      ACX P ops X C R fuel (listed.setIfInBounds i true) (a.put oi.dst v) w → ACX P ops X C R (fuel + 1) listed a w := by
  intro fuel
  induction fuel with
  | zero =>
    intro listed a w _ hr hy hS H
    refine ⟨fun h => (by rw [h] at hr; cases hr), fun j hj => ?_⟩
    by_cases hji : j = i
    · subst hji; exact hy.wnx hi hS ⟨hS, H⟩
    · have := ready_mono hj hji
      rw [H.1] at this
      cases this
  | succ fuel ih =>
    intro listed a w hfree hr hy hS H
    refine ⟨fun h => (by rw [h] at hr; cases hr), fun j hj => ?_⟩
    by_cases hji : j = i
    · subst hji; exact hy.wnx hi hS ⟨hS, H⟩
    · have h1 := H.2 j (ready_mono hj hji)
      obtain ⟨hjun, oj, hoj, hall⟩ := mem_ready.1 hj
      have hnot : ∀ e ∈ oj.after, Region.binds .any e = true → e.on ≠ i := fun e he hb heq => by
        have h1 := hall e he hb
        have h0 := (mem_ready.1 hr).1
        rw [heq] at h1
        rcases Nat.lt_or_ge i listed.size with h' | h'
        · simp [h'] at h0 h1; rw [h0] at h1; cases h1
        · simp [Array.getElem?_eq_none h'] at h1
      have h2 := wnx_put hoj (hfree j oj hoj hji hjun hnot) hoff (fun cs b => hsel i oi cs b hi) (fun cs b => hsel j oj cs b hoj) hy h1
      have hfree' : ∀ k ok, ops[k]? = some ok → k ≠ i → (listed.setIfInBounds j true).getD k true = false →
          (∀ e ∈ ok.after, Region.binds .any e = true → e.on ≠ i) → oi.apart ops ok = true := fun k ok hk hki hun hno => by
        refine hfree k ok hk hki ?_ hno
        by_cases hjk : j = k
        · subst hjk; exact hjun
        · rw [getD_set_ne true hjk] at hun; exact hun
      refine wpOpIn_mono (fun a' w' h3 => ⟨h3.2.1, ih (listed.setIfInBounds j true) a' w' hfree' (ready_mono hr (Ne.symm hji)) h3.1 h3.2.1 ?_⟩) h2
      rw [Array.setIfInBounds_comm _ _ hji]
      exact h3.2.2
variable {r : Option Nat} {Q : Exit → Act → World → Prop} {w0 : World} {M0 : Nat → Prop} {ds : List Deferred} {a : Act} {w : World} {l l' : List Value} {bs bs' bs0 : List Item} {fs fs0 : List (World → Prop)}
  {d : Option Nat} {op : Op} {ty : TypeId} {pos : String} {af : Array Edge} {rest : List Oper} {v v' G : Value} {j g : Nat} {pol : Bool} {cs : List Bool} {n : Nat} {listed : Array Bool}
def XP.offB (x : XP) (ops : Array Oper) : Bool := ops.toList.all fun o => x.keep.all fun p => match o.dst with | some n => !Nat.beq n p.1 | none => true
theorem XP.offB_spec {x : XP} {ops : Array Oper} (h : x.offB ops = true) {i : Nat} {o : Oper} (hi : ops[i]? = some o) : x.off o := by
  intro p hp e
  have h1 := List.all_eq_true.1 (List.all_eq_true.1 h o (by rw [← Array.getElem?_toList] at hi; exact List.mem_of_getElem? hi)) p hp
  rw [e] at h1
  simp at h1
/-- the region in one order that stands for all. -/
def AQX (P : Program) (ops : Array Oper) (X : XP) (C : World → Prop) (R : Act → World → Prop) (ord : List (Nat × Bool)) (a : Act) (w : World) : Prop :=
  ∀ listed, Region.noSelect ops = true → X.offB ops = true → flowFrom ops ord listed = true → ACX P ops X C R ord.length listed a w
variable {ord : List (Nat × Bool)} {i : Nat}
theorem dqX (S : St w0 M0 ds a w l bs fs) [hb : SubL bs0 bs] [hf : SubL fs0 fs] [ho : OpAt ops i ⟨d, op, ty, pos, af, none⟩] [hq : OpQ P op ty ⟨[], l⟩ bs0 fs0 v] [hp : PutO l d v l']
    (K : ∀ a, St w0 M0 ds a w l' bs fs → AQX P ops X (fun w => Wd w0 M0 w bs0 fs0) R ord a w) :
    AQX P ops X (fun w => Wd w0 M0 w bs0 fs0) R ((i, true) :: ord) a w := by
  intro listed hs hx hflow
  simp only [flowFrom, Bool.and_eq_true] at hflow
  refine acx_first ho.eq (XP.offB_spec hx ho.eq) (Region.noSelect_spec hs) _ listed a w (Region.free_spec ho.eq hflow.1.2) (by simpa using hflow.1.1) (v := v) (.inl ⟨rfl, fun w' hw' => ?_⟩) (S.wd.sub hb.sub hf.sub) (K _ S.put _ hs hx hflow.2)
  rw [execOp_eq]
  exact hq.run a.eval w' S.fr hw'.mem
theorem dqGX (S : St w0 M0 ds a w l bs fs) [hb : SubL bs0 bs] [hf : SubL fs0 fs] [ho : OpAt ops i ⟨d, op, ty, pos, af, some (j, pol)⟩] [hg : GSlot ops j g] [hn : Nth l g G] [hc : Conds G pol cs] [hq : OpQ P op ty ⟨cs, l⟩ bs0 fs0 v] [hv : GifV cs v v'] [hp : PutO l d v' l']
    (K : ∀ a, St w0 M0 ds a w l' bs fs → AQX P ops X (fun w => Wd w0 M0 w bs0 fs0) R ord a w) :
    AQX P ops X (fun w => Wd w0 M0 w bs0 fs0) R ((i, true) :: ord) a w := by
  intro listed hs hx hflow
  simp only [flowFrom, Bool.and_eq_true] at hflow
  have hw := wanted_iff (ops := ops) (d := d) (op := op) (ty := ty) (pos := pos) (af := af) (pol := pol) S hg.eq
  refine acx_first ho.eq (XP.offB_spec hx ho.eq) (Region.noSelect_spec hs) _ listed a w (Region.free_spec ho.eq hflow.1.2) (by simpa using hflow.1.1) (v := v') ?_ (S.wd.sub hb.sub hf.sub) (K _ S.put _ hs hx hflow.2)
  by_cases hall : ∀ c ∈ cs, c = true
  · refine .inl ⟨hw.2 hall, fun w' hw' => ?_⟩
    rw [execOp_eq, hv.eq, if_pos hall]
    exact hq.run a.eval w' (S.frc hall) hw'.mem
  · exact .inr ⟨by
      cases hx : Region.wanted _ (yielded ops a.tmps) with
      | true => exact absurd (hw.1 hx) hall
      | false => rfl, by rw [hv.eq, if_neg hall]⟩
/-- the one operation that may come up; it may panic. -/
theorem dlX {o : Oper} {C : World → Prop} [ho : OpAt ops i o] (h : WL P none ops (fun e a' w' => (e = .normal ∧ C w' ∧ AQX P ops X C R ord a' w') ∨ X.at e a' w') [o] a w) : AQX P ops X C R ((i, false) :: ord) a w := by
  intro listed hs hx hflow
  simp only [flowFrom, Bool.and_eq_true] at hflow
  have hr : Region.ready .any ops listed = [i] := by
    have := hflow.1
    split at this
    · rename_i k hk; rw [hk, Nat.eq_of_beq_eq_true this]
    · cases this
  refine ⟨fun h0 => (by rw [h0] at hr; cases hr), fun k hk => ?_⟩
  rw [hr] at hk
  obtain rfl : k = i := by simpa using hk
  have nor : ∀ {p : Prop} {a' : Act} {w' : World}, ((p ∧ C w' ∧ AQX P ops X C R ord a' w') ∨ X.at .normal a' w') → C w' ∧ ACX P ops X C R ord.length (listed.setIfInBounds k true) a' w' := by
    rintro p a' w' (⟨-, h1, h2⟩ | h)
    · exact ⟨h1, h2 _ hs hx hflow.2⟩
    · exact h.elim
  have pan : ∀ {c : List PanicEntry} {a' : Act} {w' : World}, ((Exit.panic c = Exit.normal ∧ C w' ∧ AQX P ops X C R ord a' w') ∨ X.at (.panic c) a' w') → X.at (.panic c) a' w' := by
    rintro c a' w' (⟨h, -⟩ | h)
    · cases h
    · exact h
  unfold WNX wpOpIn
  simp only [ho.eq]
  simp only [WL, wpListIn] at h
  split
  · rename_i hw
    rw [if_pos hw] at h
    refine ⟨fun _ _ => trivial, ?_⟩
    have h := h.2
    generalize (o.semAt (FW none).round a.eval).run P w = q at *
    cases q with
    | ok x w' =>
      cases x <;> simp only [Oper.uponIn] at h ⊢
      case value u => exact nor h
      case skip => exact nor h
      case defer d => exact nor h
      case enter f args =>
        refine ⟨h.1, CallsIn.mono h.2 fun e w'' he => ?_⟩
        cases e with
        | returned u => simp only [true_and] at he; exact nor (p := True) (by simpa using he)
        | panicked c => exact pan he
        | outgrown => obtain ⟨_, _, he⟩ := he; rcases he with ⟨he, _⟩ | he <;> first | cases he | exact he.elim
      case row row args => exact ⟨h.1, RowsIn.mono h.2 fun u w'' he => nor he⟩
      case round l f tmps assign body =>
        refine ⟨h.1, RoundIn.mono h.2 fun e w'' he => ?_⟩
        cases e with
        | returned u => simp only [true_and] at he; exact nor (p := True) (by simpa using he)
        | panicked c => exact pan he
        | outgrown => obtain ⟨_, _, he⟩ := he; rcases he with ⟨he, _⟩ | he <;> first | cases he | exact he.elim
    | halt x w' =>
      cases x <;> simp only [Oper.uponIn] at h ⊢
      case panic u => exact pan h
  · rename_i hw
    rw [if_neg hw] at h
    exact ⟨fun _ _ => trivial, nor h.2⟩
theorem deX [hb : SubL bs0 bs] [hf : SubL fs0 fs] (S : St w0 M0 ds a w l bs fs) (h : AQX P ops X (fun w => Wd w0 M0 w bs0 fs0) R ord a w) : WL P none ops (fun e a' w' => (e = .normal ∧ Wd w0 M0 w' bs0 fs0 ∧ AQX P ops X (fun w => Wd w0 M0 w bs0 fs0) R ord a' w') ∨ X.at e a' w') [] a w :=
  wl_nil (.inl ⟨rfl, S.wd.sub hb.sub hf.sub, h⟩)
theorem dnX {C : World → Prop} (h : R a w) : AQX P ops X C R [] a w := by
  intro listed hs _ hflow
  have hr : Region.ready .any ops listed = [] := by simpa [flowFrom] using hflow
  exact ⟨hr, h⟩
/-- the panic, as the region's law wants it. -/
theorem XP.of {ch : List PanicEntry} {K : Prop} (S : St w0 M0 ds a w l bs fs) (hk : ∀ p ∈ X.keep, l[p.1]? = some p.2) (hd : ds = X.dss) (h : X.XW ch w) : K ∨ X.at (.panic ch) a w :=
  .inr ⟨fun p hp => by rw [S.slots]; simpa using hk p hp, by rw [S.defers, hd], h⟩
theorem wnx_round {i : Nat} {K : Act → World → Prop} (hQ : ∀ ch a w, X.at (.panic ch) a w → Q (.panic ch) a w) (hd : ∀ (i : Nat) o, ops[i]? = some o → isDefer o.op = false) (h : WNX P ops X i K a w) : wpOpIn (FW r) 0 P ops Q i K a w := by
  unfold WNX wpOpIn at *
  cases ho : ops[i]? with
  | none => simp only [ho] at h ⊢; exact h
  | some o =>
    simp only [ho] at h ⊢
    split
    · rename_i hw
      rw [if_pos hw] at h
      refine ⟨fun _ _ => trivial, ?_⟩
      have h := h.2
      rw [show (FW none).round = none from rfl] at h
      rw [show (FW r).round = r from rfl, semAt_any (hd i o ho)]
      generalize (o.semAt none a.eval).run P w = q at *
      cases q with
      | ok x w' =>
        cases x <;> simp only [Oper.uponIn] at h ⊢ <;> first | exact h | skip
        case enter f args =>
          refine ⟨fun h => (by cases h), trivial, fun cs _ => ?_⟩
          obtain ⟨e, w', fr, hR, hcm, h1, h2⟩ := h.2.2 cs (room_wide _)
          refine ⟨e, w', fr, ?_, hcm, h1, h2⟩
          cases e with
          | returned v => exact hR
          | panicked c => exact hQ _ _ _ hR
          | outgrown => obtain ⟨_, _, hR⟩ := hR; exact hR.elim
        case round l f tmps assign body =>
          refine ⟨fun h => (by cases h), trivial, fun c cs _ => ?_⟩
          obtain ⟨e, w', hR, hcm⟩ := h.2.2 c cs (room_wide _)
          refine ⟨e, w', ?_, hcm⟩
          cases e with
          | returned v => exact hR
          | panicked c => exact hQ _ _ _ hR
          | outgrown => obtain ⟨_, _, hR⟩ := hR; exact hR.elim
      | halt x w' =>
        cases x <;> simp only [Oper.uponIn] at h ⊢
        case panic u => exact hQ _ _ _ h
    · rename_i hw
      rw [if_neg hw] at h
      exact ⟨fun _ _ => trivial, h.2⟩
theorem any_of_acx (hQ : ∀ ch a w, X.at (.panic ch) a w → Q (.panic ch) a w) (hd : ∀ (i : Nat) o, ops[i]? = some o → isDefer o.op = false) : ∀ (fuel : Nat) (listed : Array Bool) (a : Act) (w : World), ACX P ops X C (fun a w => Q .normal a w) fuel listed a w → wpAnyIn (FW r) 0 P .any ops Q fuel listed a w
  | 0, _, _, _, h => h
  | fuel + 1, _, _, _, h => ⟨h.1, fun i hi => wnx_round hQ hd (wpOpIn_mono (fun a' w' h' => any_of_acx hQ hd fuel _ a' w' h'.2) (h.2 i hi))⟩
/-- a region that draws its order, and may panic. -/
theorem c_drawX {id : Nat} {lo : List Oper} (ord : List (Nat × Bool)) (ids : List Nat) [DropBs bs ids bs0] (X : XP) (S : St w0 M0 ds a w l bs fs) (hQ : ∀ ch a w, X.at (.panic ch) a w → Q (.panic ch) a w)
    (h : ∀ w, St w0 M0 ds a w l bs fs → AQX P lo.toArray X (fun w => Wd w0 M0 w bs0 fs) (fun a w => Q .normal a w) ord a w)
    (hm : P.follows .mixedOrders = true := by kernel_rfl) (hx : X.offB lo.toArray = true := by kernel_rfl) (hd : ((lo.all fun o => !isDefer o.op) && (Nat.beq ord.length lo.length && (Region.noSelect lo.toArray && flowFrom lo.toArray ord (Array.replicate lo.length false)))) = true := by kernel_rfl) : Wp P r (.region id lo.toArray true) Q a w := by
  simp only [Bool.and_eq_true] at hd
  refine wpIn_region_any hm (any_of_acx (C := fun w => Wd w0 M0 w bs0 fs) hQ (fun i o ho => ?_) _ _ _ _ ?_)
  · have := List.all_eq_true.1 hd.1 o (by
      rw [List.getElem?_toArray] at ho
      exact List.mem_of_getElem? ho)
    simpa using this
  · have := h { w with drawn := w.drawn + 1 } ⟨S.slots, S.defers, S.wd.step (Agree.drawn _ w _)⟩ _ hd.2.2.1 hx hd.2.2.2
    rw [Nat.eq_of_beq_eq_true hd.2.1] at this
    simpa using this
end
end Go.Wk

namespace Go.Wk
open Go

/-! going over a string -/
theorem decode_lo (s : ByteArray) (i : Nat) (h : (s.get! i).toNat < 128) : Utf8.decode s i = ((s.get! i).toNat, 1) := by
  unfold Utf8.decode
  simp only [Nat.add_zero]
  rw [if_pos h]
theorem decode_hi (s : ByteArray) (i : Nat) (h : ¬ (s.get! i).toNat < 128) : 128 ≤ (Utf8.decode s i).1 ∧ 1 ≤ (Utf8.decode s i).2 := by
  unfold Utf8.decode
  simp only [Nat.add_zero]
  rw [if_neg h]
  repeat' split
  all_goals (try simp only [Bool.and_eq_true, decide_eq_true_eq, ge_iff_le] at *)
  all_goals (constructor <;> first | omega | (simp only [Utf8.runeError]; omega))
/-- a string, and the going over it: where it stands. -/
def sti (r : Nat) (s : List UInt8) (i : Nat) : Item where
  foot := fun k => k = r
  holds := fun w => w.heap[r]? = some (.stringIter ⟨s.toArray⟩ i)
theorem sti_loc (r : Nat) (s : List UInt8) (i : Nat) (w1 w2 : World) (h : ∀ k, (sti r s i).foot k → w2.heap[k]? = w1.heap[k]?) (h1 : (sti r s i).holds w1) : (sti r s i).holds w2 := (h r rfl).trans h1
class HasSti (bs : List Item) (r : Nat) (s : outParam (List UInt8)) (i : outParam Nat) : Prop where mem : sti r s i ∈ bs
instance hsti0 {r : Nat} {s : List UInt8} {i : Nat} {bs : List Item} : HasSti (sti r s i :: bs) r s i := ⟨List.mem_cons_self ..⟩
instance (priority := 900) hsti1 {r : Nat} {s : List UInt8} {i : Nat} {x : Item} {bs : List Item} [h : HasSti bs r s i] : HasSti (x :: bs) r s i := ⟨List.mem_cons_of_mem _ h.mem⟩
section
variable {P : Program} {r0 : Option Nat} {ops : Array Oper} {Q : Exit → Act → World → Prop} {w0 : World} {M0 : Nat → Prop} {ds : List Deferred} {a : Act} {w : World} {l : List Value} {bs : List Item} {fs : List (World → Prop)}
  {d : Option Nat} {op : Op} {ty : TypeId} {pos : String} {af : Array Edge} {rest : List Oper} {t kt et : TypeId} {x : Operand} {b r i : Nat} {s : List UInt8}
/-- a range over a string is begun. -/
theorem sstr0 {l' : Nat → List Value} (S : St w0 M0 ds a w l bs fs) [Ev ⟨[], l⟩ x (str s)] [ht : Und P t .string] [hp : ∀ r, PutO l d (.pointer (some ⟨r, 0, none⟩)) (l' r)]
    (K : ∀ r a w, St w0 M0 ds a w (l' r) (sti r s 0 :: bs) fs → WL P r0 ops Q rest a w) : WL P r0 ops Q (⟨d, .range t x, ty, pos, af, none⟩ :: rest) a w := by
  refine wl_plain rfl ?_
  rw [semAt_nd rfl]
  have e1 : (xop a.eval (.range t x) ty).run P w = .ok (.value (.pointer (some ⟨w.heap.size, 0, none⟩))) (w.alloc (.stringIter ⟨s.toArray⟩ 0)) := by
    have h2 : (Instr.range t (str s)).run P w = .ok (.pointer (some ⟨w.heap.size, 0, none⟩)) (w.alloc (.stringIter ⟨s.toArray⟩ 0)) := by
      simp [Instr.range, str, Sem.run_bind, run_und, newObj, Sem.run]
    simp [xop, execOp, S.fr.ev (x := x) (v := str s), Sem.run_bind, h2]
  simp only [e1, Oper.uponIn]
  have := hp w.heap.size
  have S' := S.put (d := d) (v := .pointer (some ⟨w.heap.size, 0, none⟩))
  refine K _ _ _ ⟨S'.slots, S'.defers, (S.wd.step (Agree.alloc _ w _)).more (y := sti w.heap.size s 0) (heap_alloc_new w _) (fun k hk => by cases hk; exact S.wd.agree.size) (fun k hk => by cases hk; simp) (fun it hi k hk hk' => by cases hk; exact absurd (S.wd.lt it hi _ hk') (Nat.lt_irrefl _)) ?_ (sti_loc _ _ _)⟩
  intro Φ hΦ w' hw'
  refine S.wd.facts Φ hΦ w' ((Agree.alloc _ w _).trans' hw' fun i hi => ?_)
  rintro ⟨it, hm, hf⟩
  rcases List.mem_cons.1 hm with rfl | hm
  · cases hf; omega
  · exact ⟨it, hm, hf⟩
def nxS (more : Bool) (i c : Nat) : Value := bif more then .tuple ⟨[.bool true, .int .i64 (i : Int), .int .i32 (c : Int)]⟩ else .tuple ⟨[.bool false]⟩
instance (priority := 1100) opExtNxS {l : Cx} {more : Bool} {i c : Nat} [Ev l x (nxS more i c)] : OpQ P (.extract x 0) ty l bs fs (.bool more) := ⟨fun ρ w h _ => by
  cases more <;> simp [xop, execOp, h.ev (x := x) (v := nxS _ i c), nxS, Instr.extract]⟩
instance (priority := 1100) opExtNxS2 {l : Cx} {i c : Nat} [Ev l x (nxS true i c)] : OpQ P (.extract x 2) ty l bs fs (.int .i32 (c : Int)) := ⟨fun ρ w h _ => by
  simp [xop, execOp, h.ev (x := x) (v := nxS true i c), nxS, Instr.extract]⟩
/-- the next rune, or none is left. -/
theorem snxs {l' : Bool → Nat → List Value} {bs' : Nat → List Item} (S : St w0 M0 ds a w l bs fs) [Ev ⟨[], l⟩ x (.pointer (some ⟨r, 0, none⟩))] [hm : HasSti bs r s i] [hrep : ∀ j, ReplI bs (sti r s i) (sti r s j) (bs' j)] [hp : ∀ m c, PutO l d (nxS m i c) (l' m c)]
    (K : ∀ (more : Bool) (c wd : Nat) a w, (more = false → s.length ≤ i) → (more = true → i < s.length ∧ ((s.getD i 0).toNat < 128 → c = (s.getD i 0).toNat ∧ wd = 1) ∧ (¬ (s.getD i 0).toNat < 128 → 128 ≤ c)) → St w0 M0 ds a w (l' more c) (bs' (bif more then i + wd else i)) fs → WL P r0 ops Q rest a w) :
    WL P r0 ops Q (⟨d, .next x true, ty, pos, af, none⟩ :: rest) a w := by
  refine wl_plain rfl ?_
  rw [semAt_nd rfl]
  have hold : w.heap[r]? = some (.stringIter ⟨s.toArray⟩ i) := S.wd.held _ hm.mem
  have hx : a.eval x = .pointer (some ⟨r, 0, none⟩) := S.fr.ev
  have hlt : r < w.heap.size := (Array.getElem?_eq_some_iff.1 hold).1
  have hobj : (getObj r).run P w = .ok (.stringIter ⟨s.toArray⟩ i) w := by simp [getObj, Sem.run, hold]
  have hget : (⟨s.toArray⟩ : ByteArray).get! i = s.getD i 0 := by
    show s.toArray[i]! = _
    simp [List.getD_eq_getElem?_getD]
    rfl
  have hsz : (⟨s.toArray⟩ : ByteArray).size = s.length := by simp [ByteArray.size]
  by_cases hi : i < s.length
  · have e1 : (xop a.eval (.next x true) ty).run P w = .ok (.value (nxS true i (Utf8.decode ⟨s.toArray⟩ i).1)) (w.putObj r (.stringIter ⟨s.toArray⟩ (i + (Utf8.decode ⟨s.toArray⟩ i).2))) := by
      simp only [xop, execOp, hx, Instr.next, Sem.run_bind, hobj, Result.andThen, hsz, hi, if_true]
      simp [setObj, Sem.run, hold, World.putObj, nxS, goInt]
    simp only [e1, Oper.uponIn]
    have := hp true (Utf8.decode ⟨s.toArray⟩ i).1
    have S' := S.put (d := d) (v := nxS true i (Utf8.decode ⟨s.toArray⟩ i).1)
    refine K true _ _ _ _ (fun h => by cases h) (fun _ => ⟨hi, fun h => ?_, fun h => ?_⟩) (S.reput (x := sti r s i) (y := sti r s (i + (Utf8.decode ⟨s.toArray⟩ i).2)) S'.slots S'.defers (hr := hrep _) rfl (Agree.putObj w r _ rfl) (World.putObj_heap_same hlt) (fun k hk => .inl hk) (fun k hk => by cases hk; simpa using hlt) (sti_loc _ _ _))
    · rw [← hget] at h ⊢
      rw [decode_lo _ _ h]; exact ⟨rfl, rfl⟩
    · rw [← hget] at h
      exact (decode_hi _ _ h).1
  · have e1 : (xop a.eval (.next x true) ty).run P w = .ok (.value (nxS false i 0)) w := by
      simp only [xop, execOp, hx, Instr.next, Sem.run_bind, hobj, Result.andThen, hsz, hi, if_false]
      simp [nxS]
    simp only [e1, Oper.uponIn]
    have := hp false 0
    have S' := S.put (d := d) (v := nxS false i 0)
    have hr0 := hrep i
    obtain ⟨pre, post, rfl, hb⟩ := hr0.ex
    refine K false 0 0 _ _ (fun _ => by omega) (fun h => by cases h) ?_
    show St _ _ _ _ _ _ (bs' i) _
    rw [hb]
    exact S'
end
/-! values with methods, and none -/
instance opErrN {P : Program} {l : Cx} {bs : List Item} {fs : List (World → Prop)} {x : Operand} {t t' ty : TypeId} {b : Bool} {te : TypeId} {pe : Value} [Ev l x (errV b te pe)] [hi : IfT P t] : OpQ P (.binOp .neq t x (.const .nilIface) t') ty l bs fs (.bool (!b)) := ⟨fun ρ w h _ => by
  have e2 : ρ (.const .nilIface) = .nilIface := h.ev (x := .const .nilIface) (v := .nilIface)
  cases b <;> simp [xop, execOp, h.ev (x := x) (v := errV _ te pe), e2, errV, eqGuard, binOp, Sem.run_bind, run_equal_held_nil w t te pe hi.eq, run_equal_nil_nil w t hi.eq]⟩
instance opNilN {P : Program} {l : Cx} {bs : List Item} {fs : List (World → Prop)} {x : Operand} {t t' ty : TypeId} [Ev l x .nilIface] [hi : IfT P t] : OpQ P (.binOp .neq t x (.const .nilIface) t') ty l bs fs (.bool false) := ⟨fun ρ w h _ => by
  have e2 : ρ (.const .nilIface) = .nilIface := h.ev (x := .const .nilIface) (v := .nilIface)
  simp [xop, execOp, h.ev (x := x) (v := .nilIface), e2, eqGuard, binOp, Sem.run_bind, run_equal_nil_nil w t hi.eq]⟩
instance opIfN {P : Program} {l : Cx} {bs : List Item} {fs : List (World → Prop)} {x : Operand} {t t' ty : TypeId} {te : TypeId} {pe : Value} [Ev l x (.iface te pe)] [hi : IfT P t] : OpQ P (.binOp .neq t x (.const .nilIface) t') ty l bs fs (.bool true) := ⟨fun ρ w h _ => by
  have e2 : ρ (.const .nilIface) = .nilIface := h.ev (x := .const .nilIface) (v := .nilIface)
  simp [xop, execOp, h.ev (x := x) (v := .iface te pe), e2, eqGuard, binOp, Sem.run_bind, run_equal_held_nil w t te pe hi.eq]⟩
/-- a struct type. -/
class StT (P : Program) (t : TypeId) : Prop where ex : ∃ fs, P.underlying t = some (.struct fs)
instance opAssert {P : Program} {l : Cx} {bs : List Item} {fs : List (World → Prop)} {x : Operand} {tx t ty : TypeId} {pe : Value} [Ev l x (.iface t pe)] [hs : StT P t] : OpQ P (.typeAssert x tx t true) ty l bs fs (.tuple ⟨[pe, .bool true]⟩) := ⟨fun ρ w h _ => by
  obtain ⟨fs, hf⟩ := hs.ex
  simp [xop, execOp, h.ev (x := x) (v := .iface t pe), Instr.typeAssert, Sem.run_bind, run_underlying hf w]⟩
instance opMkIf {P : Program} {l : Cx} {bs : List Item} {fs : List (World → Prop)} {x : Operand} {t ty : TypeId} {v : Value} [Ev l x v] [hs : StT P t] : OpQ P (.makeInterface t x) ty l bs fs (.iface t v) := ⟨fun ρ w h _ => by
  obtain ⟨fs, hf⟩ := hs.ex
  simp [xop, execOp, h.ev (x := x) (v := v), Instr.makeInterface, Sem.run_bind, run_underlying hf w]⟩
/-! arrays -/
section
variable {P : Program} {ls : Cx} {bs : List Item} {fs : List (World → Prop)} {x y : Operand} {b off k n sz o o' : Nat} {kk : IntKind} {m : Int} {t ty e : TypeId} {z : Value} {by_ : Nat}
/-- an element of an array that stands in a variable. -/
instance (priority := 860) opIdxArr [Ev ls x (.pointer (some ⟨b, off, none⟩))] [Ev ls y (.int kk m)] [hm : IsNat m k] [ht : Und P t (.array n e)] [TI P e z sz by_] [hk : KLt k n] [ho : MulN k sz o] [ho' : AddN off o o'] :
    OpQ P (.indexAddr t x y) ty ls bs fs (.pointer (some ⟨b, o', none⟩)) := ⟨fun ρ w h mm => by
  have e1 := hm.eq
  subst e1
  have h1 : (k : Int) < n := by have := hk.lt; omega
  have e2 : (⟨b, off, none⟩ : Addr).add (k * sz) = ⟨b, o', none⟩ := by rw [ho.eq, ← ho'.eq]; exact add_lit_off b off o
  simp [xop, execOp, h.ev (x := x) (v := .pointer (some ⟨b, off, none⟩)), h.ev (x := y) (v := .int kk (k : Int)), Instr.indexAt, asIntOf, Sem.run_bind, run_und, Instr.sureAddr, h1, run_size, e2, Int.natCast_nonneg]
  intro hle
  have := hk.lt
  omega⟩
instance kltS0 {n : Nat} : KLt 0 (n + 1) := ⟨by omega⟩
instance kltS {k n : Nat} [h : KLt k n] : KLt (k + 1) (n + 1) := ⟨by have := h.lt; omega⟩
end
end Go.Wk

namespace Go.Wk
open Go Go.Deep Go.ChangeShapes Go.WideShapes Go.ChangeAt Go.RowKit

/-! arrays of three that come in -/
structure A3 (α : Type) where
  a : α
  b : α
  c : α
def A3.l {α : Type} (x : A3 α) : List α := [x.a, x.b, x.c]
instance encA3 {α : Type} [i : Lay α] : Enc (A3 α) := ⟨3 * Enc.sz α, fun x => Enc.cells x.a ++ (Enc.cells x.b ++ Enc.cells x.c), fun x => by simp [Enc.len]; omega, fun x u hu => by
  simp only [List.mem_append] at hu
  rcases hu with h | h | h <;> exact Enc.one _ _ h⟩
instance layA3 {α : Type} [i : Lay α] : Lay (A3 α) := { encA3 with
  dflt := ⟨Lay.dflt, Lay.dflt, Lay.dflt⟩
  inn := fun w x => Lay.inn w x.a ∧ Lay.inn w x.b ∧ Lay.inn w x.c
  mono := fun w w' x h hx => ⟨Lay.mono w w' _ h hx.1, Lay.mono w w' _ h hx.2.1, Lay.mono w w' _ h hx.2.2⟩ }
theorem troA3 {P : Program} {T e : TypeId} {α : Type} [Lay α] [hT : Tro P e α] (hu : P.underlying T = some (.array 3 e)) (hs : P.cellsOf T = 3 * P.cellsOf e) : Tro P T (A3 α) := ⟨fun enc w base spare held fuel cs x h => by
  obtain ⟨xs, m, rfl, rfl, hlen, hxl, hx⟩ := DataW.trod_array hu h
  have key : ∀ i, i < 3 → ∃ a : α, (cs.drop (i * Enc.sz α)).take (Enc.sz α) = Enc.cells a ∧ Lay.inn w a := fun i hi => by
    have h1 := hx i hi
    rw [List.getElem?_eq_getElem (by omega), hT.size] at h1
    exact hT.of _ _ _ _ _ _ _ _ h1
  obtain ⟨a, ha, ia⟩ := key 0 (by omega)
  obtain ⟨b, hb, ib⟩ := key 1 (by omega)
  obtain ⟨c, hc, ic⟩ := key 2 (by omega)
  refine ⟨⟨a, b, c⟩, ?_, ia, ib, ic⟩
  rw [hs, hT.size] at hlen
  show cs = Enc.cells a ++ (Enc.cells b ++ Enc.cells c)
  rw [← ha, ← hb, ← hc]
  rw [show 0 * Enc.sz α = 0 from by omega, List.drop_zero, show 1 * Enc.sz α = Enc.sz α from by omega]
  have e3 : (cs.drop (2 * Enc.sz α)).take (Enc.sz α) = cs.drop (2 * Enc.sz α) := List.take_of_length_le (by rw [List.length_drop]; omega)
  rw [e3, show 2 * Enc.sz α = Enc.sz α + Enc.sz α from by omega, ← List.drop_drop, List.take_append_drop, List.take_append_drop],
  by rw [hs, hT.size]; rfl⟩
theorem arr3_of_Trod {P : Program} {T e : TypeId} {α : Type} [Lay α] [hT : Tro P T (A3 α)] {H : Type} {enc : TypeId × Value → H} {w : World} {base : Nat} {spare : Nat → Bool} {held : Bool} (hu : P.underlying T = some (.array 3 e)) {v : Value} {d : DataW H} {p : List MemPlace} {r : Reach} {W : World} {base' : Nat} (h : DataW.Trod enc P w base spare held T v d p) (hv : Value.okWide P W r base' T v) :
    ∃ a : A3 α, v = .agg ⟨Enc.cells a⟩ ∧ Lay.inn w a := by
  obtain ⟨cs, rfl⟩ : ∃ cs, v = .agg cs := by
    simp only [Value.okWide, hu] at hv
    obtain ⟨cs, h1, _⟩ := hv
    exact ⟨cs, h1⟩
  obtain ⟨fuel, hf⟩ := h
  obtain ⟨a, e, ha⟩ := hT.of _ _ _ _ _ _ _ _ hf
  refine ⟨a, ?_, ha⟩
  have : cs.toList = Enc.cells a := by simpa [Value.cells] using e
  rw [← this]
end Go.Wk

namespace Go.Wk
open Go
section
variable {P : Program} {r : Option Nat} {ops : Array Oper} {Q : Exit → Act → World → Prop} {w0 : World} {M0 : Nat → Prop} {ds : List Deferred} {a : Act} {w : World} {l : List Value} {bs bs' : List Item} {fs : List (World → Prop)}
  {d : Option Nat} {op : Op} {ty : TypeId} {pos : String} {af : Array Edge} {rest : List Oper} {v : Value} {t e : TypeId} {sz by_ c : Nat} {z : Value} {xs : List Value} {x y : Operand}
/-- append(s[:i], make([]T, m)...) where there is no room: a new row. -/
theorem sapzo (p : Option Addr) (n : Nat) {i m : Nat} {mi : Int} {tn : TypeId} {kn k : IntKind} {zc : List Value} {l' : Nat → Nat → List Value} (S : St w0 M0 ds a w l bs fs) [hr : HasRow bs p n e sz c xs] [Ev ⟨[], l⟩ x (.slice p i c)] [Ev ⟨[], l⟩ y (.int k mi)] [hm : IsNat mi m] [ht : Und P t (.slice e)] [htn : Und P tn (.int kn)] [hti : TI P e z sz by_] [hzc : Cells z zc] [hzl : LenIs zc sz]
    [hp : ∀ b c', PutO l d (.slice (some ⟨b, 0, none⟩) (i + m) c') (l' b c')] (hi : i ≤ n) (h0 : 0 < m) (hs : 0 < sz) (hg : c < i + m) (h63 : i + m ≤ maxLen) (h48 : (i + m) * by_ ≤ 140737488355328)
    (K : ∀ b c' zs a w, zs.length = m * sz → St w0 M0 ds a w (l' b c') (row e sz (some ⟨b, 0, none⟩) (i + m) c' (xs.take (i * sz) ++ zs) :: bs) fs → WL P r ops Q rest a w) :
    WL P r ops Q (⟨d, .call { callee := .builtin .append, args := #[x, y], argTypes := #[t, tn] }, ty, pos, af, none⟩ :: rest) a w := by
  refine wl_plain rfl ?_
  rw [semAt_nd rfl]
  obtain ⟨ii, hi', hz', hsize, hby⟩ := hti.ex
  subst hsize hby
  have hmm := hm.eq
  subst hmm
  have h63' := h63
  have hzs : z.cells.size = ii.size := by rw [← Array.length_toList, hzc.eq, hzl.eq]
  have hrow := S.row p n
  have hxl := hrow.1
  have hin := Nat.mul_le_mul_right ii.size hi
  have htl : (xs.take (i * ii.size)).length = i * ii.size := by rw [List.length_take]; omega
  have hold : (Builtin.firstCells ii.size i (.slice p i c)).run P w.drew = .ok (xs.take (i * ii.size)).toArray w.drew := by
    rcases Nat.eq_zero_or_pos n with hn | hn
    · have hi0 : i = 0 := by omega
      subst hi0
      cases p with
      | none => simpa using run_firstCells_none w.drew ii.size 0 0 c
      | some ad => exact run_firstCells_some w.drew ii.size 0 ad 0 c _ (by simp) (fun j u hj => by simp at hj)
    · obtain ⟨g, cur, rfl, hg, hnc, hcs, htk, hcm⟩ := own_cells hrow hn
      refine run_firstCells_some w.drew ii.size i _ i c _ htl (fun j u hj => ?_)
      show w.cell? _ = some u
      rw [add_lit, cell_of_row w g j cur e (0, 0) hg]
      rw [List.getElem?_take] at hj
      split at hj
      · rw [← htk, List.getElem?_take] at hj
        split at hj
        · simpa using hj
        · cases hj
      · cases hj
  have hkb : m * ii.bytes ≤ (i + m) * ii.bytes := Nat.mul_le_mul_right _ (by omega)
  have hrun := Lib.run_append_grow_zeros (P := P) w t tn ty e ii z k kn ht.eq htn.eq hi' hz' p i c _ hold m h0 hs hg (by unfold maxLen at h63; omega) (by omega) (growslice_fits hg h48)
  have e1 : (xop a.eval (.call { callee := .builtin .append, args := #[x, y], argTypes := #[t, tn] }) ty).run P w = .ok (.value (.slice (some ⟨w.heap.size, 0, none⟩) (i + m) (grownCap w (i + m) c e))) (w.drew.alloc (.cells ((xs.take (i * ii.size)).toArray ++ Builtin.zeroCells z.cells m ++ Builtin.zeroCells z.cells (grownCap w (i + m) c e - (i + m))) e)) := by
    simp [xop, execOp, resolve, invoke, builtin, S.fr.ev (x := x) (v := .slice p i c), S.fr.ev (x := y) (v := .int k (m : Int)), Sem.run_bind, hrun]
  simp only [e1, Oper.uponIn]
  have := hp w.heap.size (grownCap w (i + m) c e)
  have S' := S.put (d := d) (v := .slice (some ⟨w.heap.size, 0, none⟩) (i + m) (grownCap w (i + m) c e))
  have hge := grownCap_ge w (i + m) c e
  have hgrow : Grow w (w.drew.alloc (.cells ((xs.take (i * ii.size)).toArray ++ Builtin.zeroCells z.cells m ++ Builtin.zeroCells z.cells (grownCap w (i + m) c e - (i + m))) e)) := (Agree.drawn _ w _).trans (Agree.alloc _ w.drew _)
  have hzl2 : (Builtin.zeroCells z.cells m).toList.length = m * ii.size := by rw [Array.length_toList, size_zeroCells, hzs]
  refine K _ _ ((Builtin.zeroCells z.cells m).toList) _ _ hzl2 ⟨S'.slots, S'.defers, S'.wd.addRow hgrow (e := e) (sz := ii.size) ⟨?_, .inr ⟨w.heap.size, _, _, rfl, Nat.zero_le _, heap_alloc_new w.drew _, hge, grownCap_le_maxLen w (i + m) c e h63', ?_, ?_⟩⟩ (fun ad h => by cases h; exact Nat.le_refl _)⟩
  · rw [List.length_append, htl, hzl2, Nat.add_mul]
  · rw [Array.size_append, Array.size_append, size_zeroCells, size_zeroCells, hzs, List.size_toArray, htl, ← Nat.add_mul, ← Nat.add_mul]; congr 1; omega
  · rw [Array.toList_append, Array.toList_append]
    have : (xs.take (i * ii.size) ++ (Builtin.zeroCells z.cells m).toList).length = (i + m) * ii.size := by rw [List.length_append, htl, hzl2, Nat.add_mul]
    rw [← this]; exact List.take_left
/-- copy into a part of a row of one's own. -/
theorem scpo (p : Option Addr) (n : Nat) {lo cnt m nd cd cy : Nat} {q q2 : Option Addr} {tx : TypeId} {l' : List Value} (news : List Value) (S : St w0 M0 ds a w l bs fs) [Ev ⟨[], l⟩ x (.slice q nd cd)] [Ev ⟨[], l⟩ y (.slice q2 m cy)] [ht : Und P t (.slice e)] [hti : TI P e z sz by_] [hr : HasRow bs p n e sz c xs]
    [hrep : ReplI bs (row e sz p n c xs) (row e sz p n c (xs.take (lo * sz) ++ news ++ xs.drop (lo * sz + news.length))) bs'] [hp : PutO l d (.int .i64 cnt) l'] (hcnt : Nat.min m nd = cnt) (hq : 0 < cnt → q = p.map (·.add (lo * sz))) (hlo : lo + cnt ≤ n) (hnl : news.length = cnt * sz) (h1 : ∀ u ∈ news, u.oneCell' = true)
    (hsrc : 0 < cnt → ∃ sa, q2 = some sa ∧ ∀ j u, news[j]? = some u → w.cell? (sa.add j) = some u) (K : ∀ a w, St w0 M0 ds a w l' bs' fs → WL P r ops Q rest a w) :
    WL P r ops Q (⟨d, .call { callee := .builtin .copy, args := #[x, y], argTypes := #[t, tx] }, ty, pos, af, none⟩ :: rest) a w := by
  refine wl_plain rfl ?_
  rw [semAt_nd rfl]
  have hrow := S.row p n
  have S' := S.put (d := d) (v := .int .i64 (cnt : Int)) (l' := l')
  suffices h : ∃ w', (Builtin.copy_ #[t, tx] ty #[.slice q nd cd, .slice q2 m cy]).run P w = .ok (.int .i64 cnt) w' ∧ Agree (fun k => ∃ ad, p = some ad ∧ k = ad.block) w w' ∧ w'.ownsRow 0 e sz (.slice p n c) n (xs.take (lo * sz) ++ news ++ xs.drop (lo * sz + news.length)) by
    obtain ⟨w', hrun, hag, hown⟩ := h
    have e1 : (xop a.eval (.call { callee := .builtin .copy, args := #[x, y], argTypes := #[t, tx] }) ty).run P w = .ok (.value (.int .i64 cnt)) w' := by
      simp [xop, execOp, resolve, invoke, builtin, S.fr.ev (x := x) (v := .slice q nd cd), S.fr.ev (x := y) (v := .slice q2 m cy), Sem.run_bind, hrun]
    simp only [e1, Oper.uponIn]
    exact K _ _ (S.reput (x := row e sz p n c xs) (y := row e sz p n c (xs.take (lo * sz) ++ news ++ xs.drop (lo * sz + news.length))) S'.slots S'.defers rfl hag hown (fun k h => .inl h) (row_foot_lt hown) (row_loc _ _ _ _ _ _))
  have hcells : (Builtin.firstCells sz cnt (.slice q2 m cy)).run P w = .ok news.toArray w := by
    rcases Nat.eq_zero_or_pos cnt with h0 | h0
    · subst h0
      have : news = [] := List.eq_nil_of_length_eq_zero (by simpa using hnl)
      subst this
      cases q2 with
      | none => simpa using run_firstCells_none w sz 0 m cy
      | some ad => exact run_firstCells_some w sz 0 ad m cy _ (by simp) (fun j u hj => by simp at hj)
    · obtain ⟨sa, rfl, hs⟩ := hsrc h0
      exact run_firstCells_some w sz cnt sa m cy _ hnl hs
  have hlen : ∀ w' : World, (Builtin.lenOf (.slice q2 m cy)).run P w' = .ok m w' := fun w' => rfl
  have hpre : ∀ w', (∀ ad, q = some ad → (storeCells ad news).run P w = .ok () w') → (q = none → w' = w) → (Builtin.copy_ #[t, tx] ty #[.slice q nd cd, .slice q2 m cy]).run P w = .ok (.int .i64 cnt) w' := by
    intro w' h2 h3
    cases hqq : q with
    | none =>
      have := h3 hqq
      subst this
      simp [Builtin.copy_, Sem.run_bind, run_und, run_size, hlen, hcnt, hcells, goInt]
    | some ad =>
      simp [Builtin.copy_, Sem.run_bind, run_und, run_size, hlen, hcnt, hcells, h2 ad hqq, goInt]
  rcases Nat.eq_zero_or_pos cnt with h0 | h0
  · subst h0
    have : news = [] := List.eq_nil_of_length_eq_zero (by simpa using hnl)
    subst this
    refine ⟨w, hpre w (fun ad _ => by simp [storeCells]) (fun _ => rfl), Agree.refl _ _, ?_⟩
    simpa using hrow
  · obtain ⟨g, cur, hpp, _⟩ := own_cells hrow (show 0 < n by omega)
    have hqe := hq h0
    have hlm : lo * sz + news.length ≤ n * sz := by rw [hnl, ← Nat.add_mul]; exact Nat.mul_le_mul_right sz hlo
    obtain ⟨w', hrun, hag, hown⟩ := own_set (P := P) hrow (vs := news) (o := lo * sz) hpp hlm h1
    refine ⟨w', hpre w' (fun ad had => ?_) (fun hn => ?_), hag, hown⟩
    · rw [hqe, hpp] at had
      obtain rfl := Option.some.inj had
      show (storeCells ((⟨g, 0, none⟩ : Addr).add (lo * sz)) news).run P w = _
      rw [add_lit]; exact hrun
    · rw [hqe, hpp] at hn; cases hn
/-- a row taken longer, up to its cap. -/
theorem own_more {w : World} {p : Option Addr} {n m c : Nat} (h : w.ownsRow 0 e sz (.slice p n c) n xs) (hm : n ≤ m) (hmc : m ≤ c) (h0 : 0 < c) (hn : 0 < n) : ∃ ys, ys.length = (m - n) * sz ∧ w.ownsRow 0 e sz (.slice p m c) m (xs ++ ys) := by
  obtain ⟨g, cur, rfl, hg, hnc, hcs, htk, hcm⟩ := own_cells h hn
  have hmm := Nat.mul_le_mul_right sz hmc
  have hnm := Nat.mul_le_mul_right sz hm
  have hcl : cur.toList.length = c * sz := by rw [Array.length_toList, hcs]
  refine ⟨(cur.toList.take (m * sz)).drop (n * sz), ?_, ?_, .inr ⟨g, c, cur, rfl, Nat.zero_le _, hg, hmc, hcm, hcs, ?_⟩⟩
  · rw [List.length_drop, List.length_take, hcl, Nat.sub_mul]; omega
  · rw [List.length_append, h.1, List.length_drop, List.length_take, hcl]; omega
  · have e1 : xs = (cur.toList.take (m * sz)).take (n * sz) := by rw [List.take_take, ← htk, Nat.min_eq_left hnm]
    conv => rhs; rw [e1]
    rw [List.take_append_drop]
theorem St.rowMore (S : St w0 M0 ds a w l bs fs) (p : Option Addr) (n m : Nat) [hr : HasRow bs p n e sz c xs] (hm : n ≤ m) (hmc : m ≤ c) (hn : 0 < n) : ∃ ys, ys.length = (m - n) * sz ∧ ∀ {bs' : List Item} [ReplI bs (Wk.row e sz p n c xs) (Wk.row e sz p m c (xs ++ ys)) bs'], St w0 M0 ds a w l bs' fs := by
  obtain ⟨ys, h1, h2⟩ := own_more (S.row p n) hm hmc (by omega) hn
  refine ⟨ys, h1, fun {bs'} hrep => ?_⟩
  exact S.reput (x := Wk.row e sz p n c xs) (y := Wk.row e sz p m c (xs ++ ys)) S.slots S.defers rfl (Agree.refl _ _) h2 (fun k h => .inl h) (row_foot_lt h2) (row_loc _ _ _ _ _ _)
/-- slices.overlaps at two slices of two blocks. -/
theorem run_apart {f : FuncId} {fn : Func} {eN : Array Value → Sem Value} (hf : P.funcs[f]? = some fn) (hname : (fn.name == "runtime.NumGoroutine") = false) (hb : fn.body.isNone = true) (hn : Extern.findNext fn = none) (he : Extern.find fn = some eN) {tS tR : TypeId} (heN : eN = Extern.SlicesOverlaps.overlaps #[tS, tS] #[tR]) [ht : Und P tS (.slice e)] [hti : TI P e z sz by_] {w : World} {b1 b2 o2 n1 c1 n2 c2 : Nat} {k1 k2 : Array Value} {T1 T2 : TypeId} (hne : b1 ≠ b2) (h1 : w.heap[b1]? = some (.cells k1 T1 (0, 0))) (h2 : w.heap[b2]? = some (.cells k2 T2 (0, 0))) (h0 : k2.size ≠ 0) :
    (callFunc f #[.slice (some ⟨b1, 0, none⟩) n1 c1, .slice (some ⟨b2, o2, none⟩) n2 c2]).run P w = .ok (.value (.bool false)) w := by
  rw [run_callFunc_extern hf hname hb hn he, heN, Lib.run_overlaps_apart w tS tR e ht.eq sz (fun w => run_size (P := P) (t := e) (z := z) (b := by_) w) ⟨b1, 0, none⟩ ⟨b2, o2, none⟩ n1 c1 n2 c2 hne T1 T2 k1.size k2.size (by simp [World.shape?, h1]) (by simp [World.shape?, h2]) h0 (by simp [World.frozen?, h1]) (by simp [World.frozen?, h1])]
  rfl
/-- a call of what the model itself answers. -/
theorem sext {f : FuncId} {ys : List Operand} {vs : List Value} {ts : Array TypeId} {l' : List Value} (S : St w0 M0 ds a w l bs fs) [EvL ⟨[], l⟩ ys vs] [hp : PutO l d v l'] (hrun : (callFunc f vs.toArray).run P w = .ok (.value v) w)
    (K : ∀ a, St w0 M0 ds a w l' bs fs → WL P r ops Q rest a w) :
    WL P r ops Q (⟨d, .call { callee := .value (.func f), args := ys.toArray, argTypes := ts }, ty, pos, af, none⟩ :: rest) a w := by
  refine wl_plain rfl ?_
  rw [semAt_nd rfl]
  have S' := S.put (d := d) (v := v) (l' := l')
  have hev : ys.map a.eval = vs := S.fr.evl
  have e1 : (xop a.eval (.call { callee := .value (.func f), args := ys.toArray, argTypes := ts }) ty).run P w = .ok (.value v) w := by
    simp [xop, execOp, resolve, invoke, Deferred.ofValue, hev, Sem.run_bind, S.fr.ev (x := .func f) (v := .func (.func f) #[] #[]), hrun]
  simp only [e1, Oper.uponIn]
  exact K _ S'
end
end Go.Wk

/- Package fresh: Check, find, copied, Clone, Insert. -/
namespace Go.Proofs.YtieeoakdkbackaaDoor
open Go Go.Wk
set_option synthInstance.maxSize 100000
set_option synthInstance.maxHeartbeats 400000
set_option maxRecDepth 100000

instance (priority := 850) hast_seen {fs : List (World → Prop)} {s : LSeen} [h : HasI fs s] : HasT fs s.root := ⟨fun M w hf => h.of M w hf⟩
instance opFieldR {P : Program} {ty : TypeId} {lc : Cx} {bs : List Wk.Item} {fs : List (World → Prop)} {x : Operand} {p : Option Addr} {o off s f ft : Nat} [Ev lc x (.pointer (some (rAddr p o)))] [hf : Fld P s f off ft] : OpQ P (.fieldAddr s x f) ty lc bs fs (.pointer (some (rAddr p (o + off)))) := ⟨fun ρ w h _ => by
  have e : (rAddr p o).add off = rAddr p (o + off) := by simp only [rAddr, add_add]
  simp [xop, execOp, h.ev (x := x) (v := .pointer (some (rAddr p o))), run_fieldAt, Sem.run_bind, e]⟩
theorem fcheck_c (l : List LSeen) (p : Option Addr) (c : Nat) (w0 : World) (hl : l.length ≤ 1000000) (hx : Stable (fun _ => False) w0 (GlF p l)) :
    Ret Tryd.prog 59 [.slice p l.length c] w0 (fun _ => False) fun v _ => ∃ e : Int, v = .int .i64 e ∧ (e = 0 → ∀ s ∈ l, Good s.root.t) := by
  refine enter Tryd.func59 rfl rfl (Wd.begin (fs := [GlF p l]) (by simpa using hx)) (fun a S => ?_)
  simp only [Tryd.ntmps59, List.length_cons, List.length_nil, Nat.reduceAdd, Nat.reduceSub, List.replicate_succ, List.replicate_zero, List.cons_append, List.nil_append] at S
  refine c_seq ?_
  refine c_region ?_
  refine sq S ?_; clear S; intro a S
  refine wl_nil ?_
  refine xtn ?_
  refine c_seq ?_
  refine c_region ?_
  refine sq S ?_; clear S; intro a S
  refine wl_nil ?_
  refine xtn ?_
  iterate 2 (refine c_seq ?_)
  refine c_region ?_
  iterate 3 (refine sq S ?_; clear S; intro a S)
  refine wl_nil ?_
  refine xtn ?_
  refine c_block ?_
  refine c_fore2 S (fun (k : Nat) (last : Int) uu => [(2, uu 2), (0, .int .i64 last), (1, uu 5), (2, .int .i64 (k : Nat)), (0, uu 9), (0, uu 10), (0, uu 11), (0, uu 12), (0, uu 13), (0, uu 14), (0, uu 15), (0, uu 16), (0, uu 17), (0, uu 18), (0, uu 19), (0, uu 20), (0, uu 21), (0, uu 22), (0, uu 23), (0, uu 24), (0, uu 25), (0, uu 26), (0, uu 27), (0, uu 28), (0, uu 29), (0, uu 30), (0, uu 31), (0, uu 32), (0, uu 33), (0, uu 34), (0, uu 35), (0, uu 36)]) (fun (k : Nat) (last : Int) => []) (fun (k : Nat) (last : Int) => [GlF p l]) (fun (k : Nat) (last : Int) => k ≤ l.length ∧ ∀ i, i < k → Good (nthG l i).root.t) (fun (k : Nat) (last : Int) => l.length - k) (0) (0) ?_ S.uu ?_ ?_
  · exact ⟨Nat.zero_le _, fun i h => absurd h (by omega)⟩
  · first | exact S | exact S.sub _ _
  · clear S; rintro k last uu a w ⟨hk, hrel⟩ S
    refine c_seq ?_
    refine c_region ?_
    refine sq S ?_; clear S; intro a S
    refine wl_nil ?_
    refine xtn ?_
    refine c_seq ?_
    refine c_cond S (fun h3 => ?_) (fun h3 => ?_)
    · refine c_skip ?_
      refine xtn ?_
      refine c_seq ?_
      refine c_block ?_
      refine c_seq ?_
      have hkl : k < l.length := by simp at h3; omega
      have hK : KLt k l.length := ⟨hkl⟩
      refine c_region ?_
      iterate 2 (refine sq S ?_; clear S; intro a S)
      refine sa S ?_; clear S; intro b5 a w S
      refine sw S ?_; clear S; intro a w S
      refine wl_nil ?_
      refine xtn ?_
      iterate 2 (refine c_seq ?_)
      replace S := S.add (Φ := LtF (nthG l k).root) ((S.mem.fact (GlF p l)).imp fun _ h => h.2 _ (nthG_mem hkl))
      refine c_region ?_
      iterate 5 (refine sq S ?_; clear S; intro a S)
      iterate 2 (refine gQ S ?_; clear S; intro a S)
      refine gC S ?_; clear S; intro a w S
      refine gQ S ?_; clear S; intro a S
      iterate 2 (refine sq S ?_; clear S; intro a S)
      iterate 2 (refine gQ S ?_; clear S; intro a S)
      refine gC S ?_; clear S; intro a w S
      refine gQ S ?_; clear S; intro a S
      iterate 2 (refine sq S ?_; clear S; intro a S)
      iterate 2 (refine gQ S ?_; clear S; intro a S)
      refine gC S ?_; clear S; intro a w S
      refine gQ S ?_; clear S; intro a S
      refine sq S ?_; clear S; intro a S
      refine wl_nil ?_
      refine xtn ?_
      refine c_cond S (fun h5 => ?_) (fun h5 => ?_)
      · refine c_seq ?_
        refine c_region ?_
        refine sq S ?_; clear S; intro a S
        refine wl_nil ?_
        refine xtn ?_
        refine c_ret ?_
        refine xtr ?_
        refine xbr ?_
        iterate 2 (refine xtr ?_)
        refine xbr ?_
        refine xtr ?_
        refine end1 S (fun _ => ?_)
        exact ⟨_, rfl, fun h => by cases h⟩
      · refine c_skip ?_
        refine xtn ?_
        refine c_region ?_
        iterate 3 (refine sq S ?_; clear S; intro a S)
        refine wl_nil ?_
        refine xbn ?_
        refine xtn ?_
        refine c_region ?_
        iterate 2 (refine sq S ?_; clear S; intro a S)
        refine wl_nil ?_
        refine xtn ?_
        have hg : Good (nthG l k).root.t := by
          refine good_check.1 ?_
          simp at h5
          exact h5.2
        rw [w64 ((k : Int) + 1) (by omega) (by omega)] at S
        refine ⟨k + 1, _, S.uu, ⟨hkl, fun i hi => ?_⟩, S.sub _ _, by omega⟩
        rcases Nat.lt_succ_iff_lt_or_eq.1 hi with h | rfl
        · exact hrel i h
        · exact hg
    · refine c_exit ?_
      iterate 2 (refine xte ?_)
      refine xbe ?_
      refine xtn ?_
      refine c_seq ?_
      refine c_region ?_
      refine sq S ?_; clear S; intro a S
      refine wl_nil ?_
      refine xtn ?_
      refine c_ret ?_
      refine end1 S (fun _ => ?_)
      refine ⟨0, rfl, fun _ s hs => ?_⟩
      obtain ⟨i, hi, rfl⟩ := List.mem_iff_getElem.1 hs
      have h1 := hrel i (by simp at h3; omega)
      have h2 := nthG_get hi
      rw [List.getElem?_eq_getElem hi] at h2
      rw [Option.some.inj h2]
      exact h1
theorem cisnan_c (x : Int) (w0 : World) : Ret Tryd.prog 123 [.int .i64 x] w0 (fun _ => False) fun v _ => v = .bool false := by
  refine enter Tryd.func123 rfl rfl (Wd.start w0) (fun a S => ?_)
  simp only [Tryd.ntmps123, List.length_cons, List.length_nil, Nat.reduceAdd, Nat.reduceSub, List.replicate_succ, List.replicate_zero, List.cons_append, List.nil_append] at S
  refine c_seq ?_
  refine c_region ?_
  refine sq S ?_; clear S; intro a S
  refine wl_nil ?_
  refine xtn ?_
  refine c_seq ?_
  refine c_region ?_
  iterate 4 (refine sq S ?_; clear S; intro a S)
  refine wl_nil ?_
  refine xtn ?_
  refine c_ret ?_
  refine end1 S (fun _ => ?_)
  simp
def cmpI (x y : Int) : Int := if x < y then -1 else if y < x then 1 else 0
theorem ccmp_c (x y : Int) (w0 : World) : Ret Tryd.prog 96 [.int .i64 x, .int .i64 y] w0 (fun _ => False) fun v _ => v = .int .i64 (cmpI x y) := by
  refine enter Tryd.func96 rfl rfl (Wd.start w0) (fun a S => ?_)
  simp only [Tryd.ntmps96, List.length_cons, List.length_nil, Nat.reduceAdd, Nat.reduceSub, List.replicate_succ, List.replicate_zero, List.cons_append, List.nil_append] at S
  refine c_seq ?_
  refine c_region ?_
  refine sq S ?_; clear S; intro a S
  refine wl_nil ?_
  refine xtn ?_
  refine c_seq ?_
  refine c_region ?_
  refine sq S ?_; clear S; intro a S
  refine sr S (cisnan_c x _) ?_; clear S; rintro _ a w rfl S
  refine sq S ?_; clear S; intro a S
  refine wl_nil ?_
  refine xtn ?_
  refine c_seq ?_
  refine c_region ?_
  refine sq S ?_; clear S; intro a S
  refine sr S (cisnan_c y _) ?_; clear S; rintro _ a w rfl S
  refine sq S ?_; clear S; intro a S
  refine wl_nil ?_
  refine xtn ?_
  iterate 2 (refine c_seq ?_)
  refine c_region ?_
  refine sq S ?_; clear S; intro a S
  refine wl_nil ?_
  refine xtn ?_
  refine c_condF S ?_
  refine c_skip ?_
  refine xtn ?_
  iterate 2 (refine c_seq ?_)
  refine c_region ?_
  refine sq S ?_; clear S; intro a S
  refine wl_nil ?_
  refine xtn ?_
  refine c_condF S ?_
  refine c_skip ?_
  refine xtn ?_
  iterate 2 (refine c_seq ?_)
  refine c_region ?_
  iterate 3 (refine sq S ?_; clear S; intro a S)
  refine wl_nil ?_
  refine xtn ?_
  refine c_cond S (fun h9 => ?_) (fun h9 => ?_)
  · refine c_seq ?_
    refine c_region ?_
    refine sq S ?_; clear S; intro a S
    refine wl_nil ?_
    refine xtn ?_
    refine c_ret ?_
    refine xtr ?_
    have h : x < y := by simpa using h9
    refine end1 S (fun _ => ?_)
    rw [cmpI, if_pos h]
  · refine c_skip ?_
    refine xtn ?_
    iterate 2 (refine c_seq ?_)
    refine c_region ?_
    iterate 3 (refine sq S ?_; clear S; intro a S)
    refine wl_nil ?_
    refine xtn ?_
    refine c_cond S (fun h11 => ?_) (fun h11 => ?_)
    · refine c_seq ?_
      refine c_region ?_
      refine sq S ?_; clear S; intro a S
      refine wl_nil ?_
      refine xtn ?_
      refine c_ret ?_
      refine xtr ?_
      have h : ¬ x < y := by simpa using h9
      have h' : y < x := by simpa using h11
      refine end1 S (fun _ => ?_)
      rw [cmpI, if_neg h, if_pos h']
    · refine c_skip ?_
      refine xtn ?_
      refine c_seq ?_
      refine c_region ?_
      refine sq S ?_; clear S; intro a S
      refine wl_nil ?_
      refine xtn ?_
      refine c_ret ?_
      have h : ¬ x < y := by simpa using h9
      have h' : ¬ y < x := by simpa using h11
      refine end1 S (fun _ => ?_)
      rw [cmpI, if_neg h, if_neg h']
theorem ffind1_c (s : LSeen) (u : Int) (w0 : World) : Ret Tryd.prog 95 [.agg ⟨cSeen s⟩, .int .i64 u] w0 (fun _ => False) fun v _ => v = .int .i64 (cmpI s.user u) := by
  refine enter Tryd.func95 rfl rfl (Wd.start w0) (fun a S => ?_)
  simp only [Tryd.ntmps95, List.length_cons, List.length_nil, Nat.reduceAdd, Nat.reduceSub, List.replicate_succ, List.replicate_zero, List.cons_append, List.nil_append] at S
  refine c_seq ?_
  refine c_region ?_
  refine sa S ?_; clear S; intro b2 a w S
  refine sq S ?_; clear S; intro a S
  refine wl_nil ?_
  refine xtn ?_
  refine c_seq ?_
  refine c_region ?_
  iterate 3 (refine sq S ?_; clear S; intro a S)
  refine sr S (ccmp_c s.user u _) ?_; clear S; rintro _ a w rfl S
  refine sq S ?_; clear S; intro a S
  refine wl_nil ?_
  refine xtn ?_
  refine c_ret ?_
  refine end1 S (fun _ => rfl)
instance {s : LSeen} {u : Int} {bs fs} : CallV Tryd.prog 95 [.agg ⟨[.int .i64 s.user, .int .i64 s.cnt, .int .i64 s.root.kind, .int .i64 s.root.user, .int .i64 s.root.num, str s.root.text, .slice s.root.p s.root.kids.length s.root.cap]⟩, .int .i64 u] bs fs (.int .i64 (cmpI s.user u)) := ⟨fun w _ => ffind1_c s u w⟩
theorem fbs_c (l : List LSeen) (p : Option Addr) (c : Nat) (u : Int) (w0 : World) (hl : l.length ≤ 1000000) (hx : Stable (fun _ => False) w0 (GlF p l)) :
    Ret Tryd.prog 94 [.slice p l.length c, .int .i64 u, .func (.func 95) #[] #[]] w0 (fun _ => False) fun v _ => ∃ (i : Nat) (b : Bool), v = .tuple ⟨[.int .i64 (i : Nat), .bool b]⟩ ∧ i ≤ l.length ∧ (b = true → i < l.length) := by
  refine enter Tryd.func94 rfl rfl (Wd.begin (fs := [GlF p l]) (by simpa using hx)) (fun a S => ?_)
  simp only [Tryd.ntmps94, List.length_cons, List.length_nil, Nat.reduceAdd, Nat.reduceSub, List.replicate_succ, List.replicate_zero, List.cons_append, List.nil_append] at S
  refine c_seq ?_
  refine c_region ?_
  iterate 2 (refine sq S ?_; clear S; intro a S)
  refine wl_nil ?_
  refine xtn ?_
  refine c_seq ?_
  refine c_region ?_
  iterate 3 (refine sq S ?_; clear S; intro a S)
  refine wl_nil ?_
  refine xtn ?_
  refine c_seq ?_
  refine c_region ?_
  iterate 3 (refine sq S ?_; clear S; intro a S)
  refine wl_nil ?_
  refine xtn ?_
  refine c_seq ?_
  refine c_block ?_
  refine c_forb2 S (fun (i : Nat) (j : Nat) uu => [(9, .int .i64 (i : Nat)), (0, .int .i64 (j : Nat)), (0, uu 11), (3, uu 15), (0, uu 16), (0, uu 17), (0, uu 18), (0, uu 19), (0, uu 20), (0, uu 21), (0, uu 22), (0, uu 23), (0, uu 24), (0, uu 25), (0, uu 26), (0, uu 27), (0, uu 28), (0, uu 29), (0, uu 30), (0, uu 31), (0, uu 32), (0, uu 33), (0, uu 34)]) (fun (i : Nat) (j : Nat) => i ≤ j ∧ j ≤ l.length) (fun (i : Nat) (j : Nat) => j - i) (0) (l.length) ?_ S.uu ?_ ?_
  · exact ⟨Nat.zero_le _, Nat.le_refl _⟩
  · first | exact S | exact S.sub _ _
  · clear S; rintro i j uu a w ⟨hij, hjl⟩ S
    iterate 2 (refine c_seq ?_)
    refine c_region ?_
    iterate 3 (refine sq S ?_; clear S; intro a S)
    refine wl_nil ?_
    refine xtn ?_
    refine c_cond S (fun h3 => ?_) (fun h3 => ?_)
    · refine c_skip ?_
      refine xtn ?_
      refine c_block ?_
      refine c_seq ?_
      refine c_region ?_
      iterate 5 (refine sq S ?_; clear S; intro a S)
      rw [half_u i j (by omega)] at S
      refine sq S ?_; clear S; intro a S
      rw [show IntKind.i64.wrap (((i + j) / 2 : Nat) : Int) = (((i + j) / 2 : Nat) : Int) from w64 _ (by omega) (by omega)] at S
      have hKh : KLt ((i + j) / 2) l.length := ⟨by simp at h3; omega⟩
      refine sq S ?_; clear S; intro a S
      refine wl_nil ?_
      refine xtn ?_
      refine c_seq ?_
      refine c_region ?_
      iterate 6 (refine sq S ?_; clear S; intro a S)
      refine sr S (ffind1_c (nthG l ((i + j) / 2)) u _) ?_; clear S; rintro _ a w rfl S
      refine sq S ?_; clear S; intro a S
      refine wl_nil ?_
      refine xtn ?_
      refine c_cond S (fun h5 => ?_) (fun h5 => ?_)
      · refine c_region ?_
        iterate 2 (refine sq S ?_; clear S; intro a S)
        rw [show IntKind.i64.wrap ((((i + j) / 2 : Nat) : Int) + 1) = (((i + j) / 2 + 1 : Nat) : Int) from w64 _ (by omega) (by omega)] at S
        refine sq S ?_; clear S; intro a S
        refine wl_nil ?_
        refine xbn ?_
        refine xtn ?_
        have h3' : i < j := by simp at h3; omega
        exact ⟨(i + j) / 2 + 1, j, S.uu, ⟨by omega, hjl⟩, S.sub _ _, by omega⟩
      · refine c_region ?_
        iterate 2 (refine sq S ?_; clear S; intro a S)
        refine wl_nil ?_
        refine xbn ?_
        refine xtn ?_
        have h3' : i < j := by simp at h3; omega
        exact ⟨i, (i + j) / 2, S.uu, ⟨by omega, by omega⟩, S.sub _ _, by omega⟩
    · refine c_exit ?_
      iterate 2 (refine xte ?_)
      refine xbe ?_
      refine xtn ?_
      refine c_seq ?_
      refine c_region ?_
      iterate 5 (refine sq S ?_; clear S; intro a S)
      iterate 6 (refine gQ S ?_; clear S; intro a S)
      refine gC S ?_; clear S; intro a w S
      refine gQ S ?_; clear S; intro a S
      iterate 3 (refine sq S ?_; clear S; intro a S)
      refine wl_nil ?_
      refine xtn ?_
      refine c_ret ?_
      refine end2 S (fun _ => ?_)
      refine ⟨i, _, rfl, by omega, fun h => ?_⟩
      simp at h
      omega
theorem ffind_c (l : List LSeen) (p : Option Addr) (c : Nat) (u : Int) (w0 : World) (hl : l.length ≤ 1000000) (hx : Stable (fun _ => False) w0 (GlF p l)) :
    Ret Tryd.prog 61 [.slice p l.length c, .int .i64 u] w0 (fun _ => False) fun v _ => ∃ (i : Nat) (b : Bool), v = .tuple ⟨[.int .i64 (i : Nat), .bool b]⟩ ∧ i ≤ l.length ∧ (b = true → i < l.length) := by
  refine enter Tryd.func61 rfl rfl (Wd.begin (fs := [GlF p l]) (by simpa using hx)) (fun a S => ?_)
  simp only [Tryd.ntmps61, List.length_cons, List.length_nil, Nat.reduceAdd, Nat.reduceSub, List.replicate_succ, List.replicate_zero, List.cons_append, List.nil_append] at S
  refine c_seq ?_
  refine c_region ?_
  iterate 2 (refine sq S ?_; clear S; intro a S)
  refine wl_nil ?_
  refine xtn ?_
  refine c_seq ?_
  refine c_region ?_
  iterate 2 (refine sq S ?_; clear S; intro a S)
  refine sr S (fbs_c l p c u _ hl (S.gl0 p)) ?_; clear S; rintro _ a w ⟨i, b, rfl, hi, hb⟩ S
  iterate 4 (refine sq S ?_; clear S; intro a S)
  refine wl_nil ?_
  refine xtn ?_
  refine c_ret ?_
  refine end2 S (fun _ => ?_)
  exact ⟨i, b, rfl, hi, hb⟩
theorem fcopied_c0 (N : Nat) : ∀ (t : LTerm) (M : Nat → Prop) (w0 : World), SizeOf.sizeOf t < N → cnt t.t ≤ 1200 → (∀ k, M k → k < w0.heap.size) → Stable M w0 (LtF t) → Ret Tryd.prog 63 [vL t] w0 (fun _ => False) fun v w' => IsT M w' v t.t := by
  induction N with
  | zero => intro t _ _ h; exact absurd h (Nat.not_lt_zero _)
  | succ N ih =>
  intro t M w0 hN hc hM hf
  have hlen : t.kids.length ≤ 1200 := by have h1 := cnt_kids t; have h2 := cntL_len (t.kids.map LTerm.t); rw [List.length_map] at h2; omega
  have hkc : ∀ x ∈ t.kids, cnt x.t ≤ 1200 := fun x hx => by have h1 := cnt_kids t; have h2 := cntL_mem (List.mem_map.2 ⟨x, hx, rfl⟩ : x.t ∈ t.kids.map LTerm.t); omega
  refine enter Tryd.func63 rfl rfl (Wd.beginM (M := M) (fs := [LtF t]) hM (by simpa using hf)) (fun a S => ?_)
  simp only [Tryd.ntmps63, List.length_cons, List.length_nil, Nat.reduceAdd, Nat.reduceSub, List.replicate_succ, List.replicate_zero, List.cons_append, List.nil_append] at S
  refine c_seq ?_
  refine c_region ?_
  refine sa S ?_; clear S; intro b1 a w S
  refine sa S ?_; clear S; intro b2 a w S
  refine wl_nil ?_
  refine xtn ?_
  refine c_seq ?_
  refine c_region ?_
  iterate 2 (refine sq S ?_; clear S; intro a S)
  refine srn S (clone_c t.kids t.p t.kids.length t.cap _ rfl (by omega) (ls_of_lt (S.t0 t))) ?_; clear S; rintro _ a w ⟨p', c', rfl, hown, hnew⟩ hS -
  have S := hS hown hnew
  clear hS
  refine sq S ?_; clear S; intro a S
  refine sw S ?_; clear S; intro a w S
  refine wl_nil ?_
  refine xtn ?_
  iterate 2 (refine c_seq ?_)
  refine c_region ?_
  iterate 4 (refine sq S ?_; clear S; intro a S)
  refine wl_nil ?_
  refine xtn ?_
  refine c_block ?_
  refine c_fore2 S (fun (k : Nat) (ys : List LTerm) uu => [(3, uu 3), (7, .int .i64 (k : Nat)), (0, uu 12), (0, uu 13), (0, uu 14), (0, uu 15), (0, uu 16), (0, uu 17), (0, uu 18), (0, uu 19), (0, uu 20), (0, uu 21), (0, uu 22), (0, uu 23), (0, uu 24)]) (fun (k : Nat) (ys : List LTerm) => [Wk.row 24 5 p' t.kids.length c' (encL ys), Wk.box b2 24 zeroL.cells, Wk.box b1 24 [.int .i64 t.kind, .int .i64 t.user, .int .i64 t.num, str t.text, .slice p' t.kids.length c'], ext M]) (fun (k : Nat) (ys : List LTerm) => [AllL ys, LtF t]) (fun (k : Nat) (ys : List LTerm) => k ≤ t.kids.length ∧ ys.length = t.kids.length ∧ ys.map LTerm.t = t.kids.map LTerm.t ∧ ys.drop k = t.kids.drop k) (fun (k : Nat) (ys : List LTerm) => t.kids.length - k) (0) (t.kids) ?_ S.uu ?_ ?_
  · exact ⟨Nat.zero_le _, rfl, rfl, rfl⟩
  · exact S.add (Φ := AllL t.kids) (AllL.stable fun x hx => kid_st (S.t t) hx)
  · clear S; rintro k ys uu a w ⟨hk, hyl, hym, hyd⟩ S
    refine c_seq ?_
    refine c_region ?_
    refine sq S ?_; clear S; intro a S
    refine wl_nil ?_
    refine xtn ?_
    refine c_seq ?_
    refine c_cond S (fun h3 => ?_) (fun h3 => ?_)
    · refine c_skip ?_
      refine xtn ?_
      refine c_seq ?_
      refine c_block ?_
      refine c_seq ?_
      have hkl : k < t.kids.length := by simp at h3; omega
      have hK : KLt k t.kids.length := ⟨hkl⟩
      have hyk : ys[k]? = some (nthL t.kids k) := by
        have := congrArg (fun l => l[0]?) hyd
        simp only [List.getElem?_drop, Nat.add_zero] at this
        rw [this, nth_get hkl]
      refine c_region ?_
      iterate 2 (refine sq S ?_; clear S; intro a S)
      refine wl_nil ?_
      refine xtn ?_
      refine c_drwe1 (.q 0 (.q 1 (.q 2 (.q 3 (.q 4 (.q 5 (.l 6 (.l 7 (.l 8 (.l 9 (.l 10 (.e)))))))))))) S (fun (ys' : List LTerm) uu => [(14, uu 14), (0, uu 15), (0, uu 16), (0, uu 17), (0, uu 18), (0, uu 19), (0, uu 20), (0, uu 21), (0, uu 22), (0, uu 23)]) [Wk.box b2 24 zeroL.cells, Wk.box b1 24 [.int .i64 t.kind, .int .i64 t.user, .int .i64 t.num, str t.text, .slice p' t.kids.length c'], ext M] (fun (ys' : List LTerm) => [Wk.row 24 5 p' t.kids.length c' (encL ys'), Wk.box b2 24 zeroL.cells, Wk.box b1 24 [.int .i64 t.kind, .int .i64 t.user, .int .i64 t.num, str t.text, .slice p' t.kids.length c'], ext M]) (fun (ys' : List LTerm) => [AllL ys', LtF t]) (fun (ys' : List LTerm) => ys'.length = t.kids.length ∧ ys'.map LTerm.t = t.kids.map LTerm.t ∧ ys'.drop (k + 1) = t.kids.drop (k + 1)) ?_ ?_
      · intro w S
        iterate 6 (refine tq S ?_; clear S; intro a S)
        refine tl ?_
        refine sq S ?_; clear S; intro a S
        refine te S ?_
        refine tl ?_
        refine slrA (nthL t.kids k).cells S t.kids.length (fun j v hj => ?_) ?_
        · have hj5 : j < 5 := (List.getElem?_eq_some_iff.1 hj).1
          rw [← hj]; exact encL_get ys k _ hyk j hj5
        clear S; intro a S
        refine te S ?_
        refine tl ?_
        refine sr S (ih (nthL t.kids k) _ w (by have := LTerm.kid_lt (nth_mem hkl); omega) (hkc _ (nth_mem hkl)) (foots_lt S) (kid_st (S.t t) (nth_mem hkl))) ?_; clear S; rintro _ a w ⟨r, rfl, hr, hrf⟩ S
        replace S := S.add (Φ := LtF r) hrf
        refine te S ?_
        refine tl ?_
        refine sq S ?_; clear S; intro a S
        refine te S ?_
        refine tl ?_
        refine sws S t.kids.length (by omega) (by omega) ?_; clear S; intro a w S
        rw [encL_set ys k r (by omega)] at S
        refine te S ?_
        refine tn ?_
        refine ⟨ys.set k r, S.uu, ⟨by simpa using hyl, set_map ys k r _ hym (by rw [List.getElem?_map, nth_get hkl, hr]; rfl), ?_⟩, ?_⟩
        · rw [List.drop_set_of_lt (by omega), ← List.drop_drop, hyd, List.drop_drop]
        · have h1 : Stable _ _ (AllL ys) := S.wd.facts (AllL ys) (by simp)
          have h2 := S.t r
          replace S := S.add (Φ := AllL (ys.set k r)) (fun w' hw' x hx => by
            rcases List.mem_or_eq_of_mem_set hx with h | rfl
            · exact h1 w' hw' x h
            · exact h2 w' hw')
          exact S.sub _ _
      clear S; rintro ys' uu a w ⟨hyl', hym', hyd'⟩ S
      refine xbn ?_
      refine xtn ?_
      refine c_region ?_
      iterate 2 (refine sq S ?_; clear S; intro a S)
      refine wl_nil ?_
      refine xtn ?_
      rw [w64 ((k : Int) + 1) (by omega) (by omega)] at S
      exact ⟨k + 1, ys', S.uu, ⟨hkl, hyl', hym', hyd'⟩, S.sub _ _, by omega⟩
    · refine c_exit ?_
      iterate 2 (refine xte ?_)
      refine xbe ?_
      refine xtn ?_
      refine c_seq ?_
      refine c_region ?_
      refine sq S ?_; clear S; intro a S
      refine sw S ?_; clear S; intro a w S
      refine wl_nil ?_
      refine xtn ?_
      refine c_ret ?_
      have hrow := S.row p' t.kids.length
      have hnew := S.rowNew p' t.kids.length
      have hall := S.laterFact (Φ := AllL ys) (by simp)
      refine end1 S (fun _ => ?_)
      refine ⟨.mk t.kind t.user t.num t.text p' c' ys, by simp only [vL, LTerm.kind, LTerm.user, LTerm.num, LTerm.text, LTerm.p, LTerm.cap, LTerm.kids, hyl], ?_, fun w' hw' => ?_⟩
      · rw [t.t_eq, ← hym]; exact LTerm.t_eq _
      · have hls := ls_of_own hrow (fun x hx => AllL.get hall hx) (fun ad h hm => (hnew ad h).elim id (fun h2 => by have := hM _ hm; omega))
        exact ⟨by rw [hyl]; exact own_le hrow, own_cap hrow, hls w' hw'⟩
theorem fcopied_c (t : LTerm) (M : Nat → Prop) (w0 : World) (hc : cnt t.t ≤ 1200) (hM : ∀ k, M k → k < w0.heap.size) (hf : Stable M w0 (LtF t)) : Ret Tryd.prog 63 [vL t] w0 (fun _ => False) fun v w' => IsT M w' v t.t := fcopied_c0 _ t M w0 (Nat.lt_succ_self _) hc hM hf
theorem encL_setS (ys : List LSeen) (i : Nat) (x r : LSeen) (h : ys[i]? = some x) (hu : r.user = x.user) (hc : r.cnt = x.cnt) : (encL ys).take (i * 7 + 2) ++ r.root.cells ++ (encL ys).drop (i * 7 + 2 + r.root.cells.length) = encL (ys.set i r) := by
  induction ys generalizing i with
  | nil => simp at h
  | cons y ys ih =>
    cases i with
    | zero =>
      obtain rfl : y = x := by simpa using h
      obtain ⟨u, n, z⟩ := y
      obtain ⟨u', n', z'⟩ := r
      simp only at hu hc
      subst hu hc
      rw [List.set_cons_zero, encL_cons, encL_cons]
      rfl
    | succ i =>
      have := ih i (by simpa using h)
      rw [List.set_cons_succ, encL_cons, encL_cons, ← this]
      have h7 : (Enc.cells y : List Value).length = 7 := Enc.len y
      rw [List.take_append, List.drop_append, h7, List.take_of_length_le (by rw [h7]; omega), List.drop_of_length_le (by rw [h7]; omega), show (i + 1) * 7 + 2 - 7 = i * 7 + 2 from by omega, show (i + 1) * 7 + 2 + r.root.cells.length - 7 = i * 7 + 2 + r.root.cells.length from by omega]
      simp
theorem fclone_c (xs : List LSeen) (p : Option Addr) (n c : Nat) (w0 : World) (hn : xs.length = n) (hl : n ≤ 1000000) (hx : Stable (fun _ => False) w0 (GlF p xs)) :
    Ret Tryd.prog 62 [.slice p n c] w0 (fun _ => False) fun v w' => ∃ p' c', v = .slice p' n c' ∧ w'.ownsRow 0 92 7 (.slice p' n c') n (encL xs) ∧ ∀ ad, p' = some ad → w0.heap.size ≤ ad.block := by
  refine enter Tryd.func62 rfl rfl (Wd.begin (fs := [GlF p xs]) (by simpa using hx)) (fun a S => ?_)
  simp only [Tryd.ntmps62, List.length_cons, List.length_nil, Nat.reduceAdd, Nat.reduceSub, List.replicate_succ, List.replicate_zero, List.cons_append, List.nil_append] at S
  refine c_seq ?_
  refine c_region ?_
  refine sq S ?_; clear S; intro a S
  refine wl_nil ?_
  refine xtn ?_
  iterate 2 (refine c_seq ?_)
  refine c_region ?_
  iterate 2 (refine sq S ?_; clear S; intro a S)
  refine wl_nil ?_
  refine xtn ?_
  refine c_cond S (fun h1 => ?_) (fun h1 => ?_)
  · refine c_seq ?_
    refine c_region ?_
    refine sq S ?_; clear S; intro a S
    refine wl_nil ?_
    refine xtn ?_
    refine c_ret ?_
    refine xtr ?_
    have hp : p = none := by simpa using h1
    have hn0 : xs = [] := by
      rcases xs with _ | ⟨x, xs⟩
      · rfl
      · have h1 := congrArg List.length (hx.now.1.1 hp)
        rw [encL_len] at h1
        simp [Enc.sz] at h1
    subst hn0
    subst hn
    refine end1 S (fun _ => ?_)
    exact ⟨none, 0, rfl, World.ownsRow_nil _ _ _ _, fun _ h => by cases h⟩
  · refine c_skip ?_
    refine xtn ?_
    refine c_seq ?_
    refine c_region ?_
    refine sn S ?_; clear S; intro b5 a w S
    refine sq S ?_; clear S; intro a S
    replace S := S.boxRow b5 7 0 rfl (by omega)
    have hN : LenN xs n := ⟨hn⟩
    refine sap S (by simp [maxLen]; omega) (by omega) ?_; clear S; rintro p2 c2 a w - S
    rw [List.nil_append, Nat.zero_add] at S
    refine sq S ?_; clear S; intro a S
    refine wl_nil ?_
    refine xtn ?_
    refine c_ret ?_
    have hrow := S.row p2 n
    have hnew := S.rowNew p2 n
    refine end1 S (fun _ => ?_)
    exact ⟨p2, c2, rfl, hrow, fun ad h => (hnew ad h).elim (fun h => h.elim) id⟩
end Go.Proofs.YtieeoakdkbackaaDoor

/- Package fresh: slices.Insert at what was seen. -/
namespace Go.Proofs.YtieeoakdkbackaaDoor
open Go Go.Wk
set_option synthInstance.maxSize 100000
set_option synthInstance.maxHeartbeats 400000
set_option maxRecDepth 100000

theorem ins_grow1 (A Z V : List Value) (T : Nat) (hA : A.length = T) (hV : V.length ≤ Z.length) : (A ++ Z).take T ++ V ++ (A ++ Z).drop (T + V.length) = A ++ V ++ Z.drop V.length := by
  subst hA
  rw [List.take_left, List.drop_append, List.drop_of_length_le (by omega), List.nil_append]
  congr 2; omega
theorem ins_grow2 (A V Z D : List Value) (T : Nat) (hT : (A ++ V).length = T) (hZ : Z.length = D.length) : (A ++ V ++ Z).take T ++ D ++ (A ++ V ++ Z).drop (T + D.length) = A ++ V ++ D := by
  subst hT
  rw [List.take_left, List.drop_append, List.drop_of_length_le (by omega), List.nil_append, List.drop_of_length_le (by omega), List.append_nil]
theorem ins_room (A D Y V : List Value) (T : Nat) (hA : A.length = T) (hY : Y.length = V.length) :
    (((A ++ D) ++ Y).take (T + V.length) ++ D ++ ((A ++ D) ++ Y).drop (T + V.length + D.length)).take T ++ V ++ (((A ++ D) ++ Y).take (T + V.length) ++ D ++ ((A ++ D) ++ Y).drop (T + V.length + D.length)).drop (T + V.length) = A ++ V ++ D := by
  subst hA
  have e1 : ((A ++ D) ++ Y).drop (A.length + V.length + D.length) = [] := List.drop_of_length_le (by simp; omega)
  have e2 : (((A ++ D) ++ Y).take (A.length + V.length)).length = A.length + V.length := by rw [List.length_take]; simp; omega
  rw [e1, List.append_nil, List.take_append_of_le_length (by omega), List.take_take, Nat.min_eq_left (by omega)]
  have e3 : ((A ++ D) ++ Y).take A.length = A := by rw [List.append_assoc, List.take_left]
  rw [e3]
  congr 1
  rw [List.drop_append, List.drop_of_length_le (by omega), List.nil_append, e2, Nat.sub_self, List.drop_zero]
theorem encS_one (s : LSeen) : encL [s] = cSeen s := rfl
theorem finsert_c (xs : List LSeen) (s : LSeen) (i n c b : Nat) (T : TypeId) (p : Option Addr) (w0 : World) (hi : i ≤ n) (hn : n ≤ 1000) (hnc : n ≤ c) (hc : c ≤ maxLen) (hx : xs.length = n) (hown : w0.ownsRow 0 92 7 (.slice p n c) n (encL xs)) (hb : Stable (fun k => ∃ ad, p = some ad ∧ k = ad.block) w0 (BoxF b T (cSeen s))) (hne : ∀ ad, p = some ad → b ≠ ad.block) :
    Ret Tryd.prog 64 [.slice p n c, .int .i64 (i : Int), .slice (some ⟨b, 0, none⟩) 1 1] w0 (fun k => ∃ ad, p = some ad ∧ k = ad.block) fun u w' => ∃ p' c', u = .slice p' (n + 1) c' ∧ w'.ownsRow 0 92 7 (.slice p' (n + 1) c') (n + 1) (encL (xs.take i ++ [s] ++ xs.drop i)) ∧ ∀ ad, p' = some ad → (∃ ad', p = some ad' ∧ ad.block = ad'.block) ∨ w0.heap.size ≤ ad.block := by
  have hle : LeC n c := ⟨hnc⟩
  have hle2 : LeC i c := ⟨by omega⟩
  have hle3 : LeC i n := ⟨hi⟩
  have e0 : encL (xs.take i ++ [s] ++ xs.drop i) = (encL xs).take (i * 7) ++ cSeen s ++ (encL xs).drop (i * 7) := by
    have h1 : encL xs = encL (xs.take i) ++ encL (xs.drop i) := by rw [← encL_append, List.take_append_drop]
    have h2 : (encL (xs.take i)).length = i * 7 := by rw [encL_len, List.length_take, Nat.min_eq_left (by omega)]; rfl
    rw [encL_append, encL_append, encS_one, h1, ← h2, List.take_left, List.drop_left]
  have hxl : (encL xs).length = n * 7 := by rw [encL_len, hx]; rfl
  have hT : ((encL xs).take (i * 7)).length = i * 7 := by rw [List.length_take, hxl]; omega
  have hD : ((encL xs).drop (i * 7)).length = (n - i) * 7 := by rw [List.length_drop, hxl]; omega
  refine enter Tryd.func64 rfl rfl (Wd.rowLent (fs := [BoxF b T (cSeen s)]) hown (by simpa using hb)) (fun a S => ?_)
  simp only [Tryd.ntmps64, List.length_cons, List.length_nil, Nat.reduceAdd, Nat.reduceSub, List.replicate_succ, List.replicate_zero, List.cons_append, List.nil_append] at S
  refine c_seq ?_
  refine c_region ?_
  refine sq S ?_; clear S; intro a S
  refine wl_nil ?_
  refine xtn ?_
  refine c_seq ?_
  refine c_region ?_
  iterate 3 (refine sq S ?_; clear S; intro a S)
  refine wl_nil ?_
  refine xtn ?_
  refine c_seq ?_
  refine c_region ?_
  iterate 3 (refine sq S ?_; clear S; intro a S)
  refine wl_nil ?_
  refine xtn ?_
  iterate 2 (refine c_seq ?_)
  refine c_region ?_
  iterate 2 (refine sq S ?_; clear S; intro a S)
  rw [show decide (((1 : Nat) : Int) = 0) = false from rfl] at S
  refine wl_nil ?_
  refine xtn ?_
  refine c_condF S ?_
  refine c_skip ?_
  refine xtn ?_
  refine c_seq ?_
  refine c_region ?_
  iterate 3 (refine sq S ?_; clear S; intro a S)
  refine wl_nil ?_
  refine xtn ?_
  iterate 2 (refine c_seq ?_)
  refine c_region ?_
  iterate 3 (refine sq S ?_; clear S; intro a S)
  refine wl_nil ?_
  refine xtn ?_
  refine c_cond S (fun h6 => ?_) (fun h6 => ?_)
  · refine c_seq ?_
    have hin : i = n := by simp at h6; omega
    subst hin
    refine c_region ?_
    iterate 2 (refine sq S ?_; clear S; intro a S)
    have hs : SrcV Tryd.prog 42 (.slice (some ⟨b, 0, none⟩) 1 1) [Wk.row 92 7 p i c (encL xs)] [BoxF b T (cSeen s)] 7 1 (cSeen s) := ⟨fun w mm => by
      have hbx : BoxF b T (cSeen s) w := (mm.fact0 (BoxF b T (cSeen s))).now
      refine Src.ofSlice w (Und.eq (P := Tryd.prog) (t := 42)) _ _ _ _ rfl (fun j u hj => ?_) (fun u hu => Enc.one s u hu)
      rw [add_lit, cell_of_row w b j _ T (0, 0) hbx]
      simpa using hj⟩
    refine sap S (by simp [maxLen]; omega) (by omega) ?_; clear S; rintro p7 c7 a w - S
    refine sq S ?_; clear S; intro a S
    refine wl_nil ?_
    refine xtn ?_
    refine c_ret ?_
    refine xtr ?_
    have hrow := S.row p7 (i + 1)
    have hnew := S.rowNew p7 (i + 1)
    refine end1 S (fun _ => ?_)
    refine ⟨p7, c7, rfl, ?_, hnew⟩
    rw [e0, List.take_of_length_le (by omega), List.drop_of_length_le (by omega), List.append_nil]
    exact hrow
  · refine c_skip ?_
    refine xtn ?_
    iterate 2 (refine c_seq ?_)
    refine c_region ?_
    iterate 3 (refine sq S ?_; clear S; intro a S)
    rw [show IntKind.i64.wrap ((n : Int) + ((1 : Nat) : Int)) = ((n + 1 : Nat) : Int) from w64 _ (by omega) (by omega)] at S
    iterate 3 (refine sq S ?_; clear S; intro a S)
    refine wl_nil ?_
    refine xtn ?_
    refine c_cond S (fun h8 => ?_) (fun h8 => ?_)
    · refine c_seq ?_
      have hin : i < n := by simp at h6; omega
      have hgc : c < n + 1 := by simp at h8; omega
      refine c_region ?_
      iterate 6 (refine sq S ?_; clear S; intro a S)
      rw [show IntKind.i64.wrap ((n : Int) + ((1 : Nat) : Int)) = ((n + 1 : Nat) : Int) from w64 _ (by omega) (by omega)] at S
      iterate 2 (refine sq S ?_; clear S; intro a S)
      rw [show IntKind.i64.wrap (((n + 1 : Nat) : Int) - (i : Int)) = ((n + 1 - i : Nat) : Int) from by rw [w64 _ (by omega) (by omega)]; omega] at S
      refine sapzo p n (i := i) (m := n + 1 - i) S hi (by omega) (by omega) (by omega) (by simp only [maxLen]; omega) (by omega) ?_; clear S; intro b9 c9 zs a w hzs S
      rw [show i + (n + 1 - i) = n + 1 from by omega] at S
      have hc9 : n + 1 ≤ c9 := own_le (S.row (some ⟨b9, 0, none⟩) (n + 1))
      have hL9 : LeC i c9 := ⟨by omega⟩
      have hL9b : LeC (n + 1) c9 := ⟨by omega⟩
      have hL9c : LeC i (n + 1) := ⟨by omega⟩
      have hL9d : LeC (i + 1) (n + 1) := ⟨by omega⟩
      refine sq S ?_; clear S; intro a S
      refine wl_nil ?_
      refine xtn ?_
      refine c_seq ?_
      refine c_region ?_
      iterate 4 (refine sq S ?_; clear S; intro a S)
      refine scpo (some ⟨b9, 0, none⟩) (n + 1) (lo := i) (cnt := 1) (cSeen s) S (by show min _ _ = _; omega) (fun _ => by rw [if_neg (by omega)]) (by omega) rfl (fun u hu => Enc.one s u hu) (fun _ => ⟨_, rfl, fun j u hj => ?_⟩) ?_
      · have hbx : BoxF b T (cSeen s) w := (S.mem.fact0 (BoxF b T (cSeen s))).now
        rw [add_lit, cell_of_row w b j _ T (0, 0) hbx]
        simpa using hj
      clear S; intro a w S
      rw [ins_grow1 _ zs (cSeen s) (i * 7) hT (by rw [hzs]; show 7 ≤ _; omega)] at S
      refine wl_nil ?_
      refine xtn ?_
      refine c_seq ?_
      refine c_drawE [(0, true), (1, true), (2, true), (3, true), (4, true), (5, true), (6, true), (7, true), (8, false)] [Wk.row 92 7 p n c (encL xs)] S ?_; clear S; intro w S
      iterate 4 (refine dq S ?_; clear S; intro a S)
      rw [show IntKind.i64.wrap ((i : Int) + ((1 : Nat) : Int)) = ((i + 1 : Nat) : Int) from w64 _ (by omega) (by omega)] at S
      iterate 4 (refine dq S ?_; clear S; intro a S)
      refine dl ?_
      refine scpo (some ⟨b9, 0, none⟩) (n + 1) (lo := i + 1) (cnt := n - i) ((encL xs).drop (i * 7)) S (by show min _ _ = _; omega) (fun h => by rw [if_neg (by omega)]) (by omega) hD (fun u hu => encL_one xs u (List.mem_of_mem_drop hu)) (fun _ => ?_) ?_
      · obtain ⟨g, cur, hpp, -⟩ := own_cells (S.row p n) (show 0 < n by omega)
        refine ⟨⟨g, i * 7, none⟩, by rw [if_neg (by omega), hpp, Option.map_some, add_lit], fun j u hj => ?_⟩
        have h1 := own_cell (S.row p n) (o := i * 7) (j := j) (u := u) (by rw [← hj, List.getElem?_drop])
        rw [rAddr, hpp, Option.getD_some, add_lit] at h1
        exact h1
      clear S; intro a w S
      rw [show (i + 1) * 7 = i * 7 + 7 from by omega, ins_grow2 _ (cSeen s) _ _ (i * 7 + 7) (by rw [List.length_append, hT]; rfl) (by rw [List.length_drop, hzs, hD]; show _ - 7 = _; omega), ← e0] at S
      refine de S ?_
      refine dn ?_
      refine xtn ?_
      refine c_seq ?_
      refine c_region ?_
      iterate 2 (refine sq S ?_; clear S; intro a S)
      refine wl_nil ?_
      refine xtn ?_
      refine c_ret ?_
      refine xtr ?_
      have hrow := S.row (some ⟨b9, 0, none⟩) (n + 1)
      have hnew := S.rowNew (some ⟨b9, 0, none⟩) (n + 1)
      refine end1 S (fun _ => ?_)
      exact ⟨_, c9, rfl, hrow, hnew⟩
    · refine c_skip ?_
      refine xtn ?_
      refine c_seq ?_
      have hin : i < n := by simp at h6; omega
      have hgc : n + 1 ≤ c := by simp at h8; omega
      have hL1 : LeC (n + 1) c := ⟨hgc⟩
      have hL2 : LeC (i + 1) (n + 1) := ⟨by omega⟩
      have hL3 : LeC i (n + 1) := ⟨by omega⟩
      refine c_region ?_
      iterate 4 (refine sq S ?_; clear S; intro a S)
      rw [show IntKind.i64.wrap ((n : Int) + ((1 : Nat) : Int)) = ((n + 1 : Nat) : Int) from w64 _ (by omega) (by omega)] at S
      iterate 2 (refine sq S ?_; clear S; intro a S)
      refine wl_nil ?_
      refine xtn ?_
      iterate 2 (refine c_seq ?_)
      obtain ⟨ys, hys, hM⟩ := S.rowMore p n (n + 1) (by omega) hgc (by omega)
      replace S := hM (bs' := [Wk.row 92 7 p (n + 1) c (encL xs ++ ys)])
      clear hM
      obtain ⟨g, cur, hpp, hgcur, -, hcsz, -, -⟩ := own_cells (S.row p (n + 1)) (show 0 < n + 1 by omega)
      have hbg : b ≠ g := hne ⟨g, 0, none⟩ hpp
      refine c_region ?_
      iterate 5 (refine sq S ?_; clear S; intro a S)
      rw [show IntKind.i64.wrap ((i : Int) + ((1 : Nat) : Int)) = ((i + 1 : Nat) : Int) from w64 _ (by omega) (by omega)] at S
      refine sq S ?_; clear S; intro a S
      rw [show (if c = i + 1 then p else p.map (·.add ((i + 1) * 7))) = some ⟨g, (i + 1) * 7, none⟩ from by rw [if_neg (by omega), hpp, Option.map_some, add_lit]] at S
      refine sext S (run_apart (b1 := b) (b2 := g) (fn := Tryd.f98) (o2 := (i + 1) * 7) Tryd.func98 (by kernel_rfl) (by kernel_rfl) (by kernel_rfl) (by kernel_rfl) (tS := 42) (tR := 4) rfl hbg ((S.mem.fact0 (BoxF b T (cSeen s))).now) hgcur (by rw [hcsz]; omega)) ?_
      clear S; intro a S
      refine sq S ?_; clear S; intro a S
      rw [show (!false) = true from rfl] at S
      refine wl_nil ?_
      refine xtn ?_
      refine c_condT S ?_
      refine c_seq ?_
      refine c_drawE [(0, true), (1, true), (2, true), (3, true), (4, true), (5, true), (6, true), (7, true), (8, false)] [] S ?_; clear S; intro w S
      iterate 4 (refine dq S ?_; clear S; intro a S)
      rw [show IntKind.i64.wrap ((i : Int) + ((1 : Nat) : Int)) = ((i + 1 : Nat) : Int) from w64 _ (by omega) (by omega)] at S
      iterate 4 (refine dq S ?_; clear S; intro a S)
      refine dl ?_
      refine scpo p (n + 1) (lo := i + 1) (cnt := n - i) ((encL xs).drop (i * 7)) S (by show min _ _ = _; omega) (fun h => by rw [if_neg (by omega)]) (by omega) hD (fun u hu => encL_one xs u (List.mem_of_mem_drop hu)) (fun _ => ?_) ?_
      · refine ⟨⟨g, i * 7, none⟩, by rw [if_neg (by omega), hpp, Option.map_some, add_lit], fun j u hj => ?_⟩
        have h1 := own_cell (S.row p (n + 1)) (o := i * 7) (j := j) (u := u) (by rw [← hj, List.getElem?_drop, List.getElem?_append_left (by have := (List.getElem?_eq_some_iff.1 hj).1; rw [hD] at this; rw [hxl]; omega)])
        rw [rAddr, hpp, Option.getD_some, add_lit] at h1
        exact h1
      clear S; intro a w S
      refine de S ?_
      refine dn ?_
      refine xtn ?_
      refine c_seq ?_
      refine c_region ?_
      iterate 4 (refine sq S ?_; clear S; intro a S)
      refine scpo p (n + 1) (lo := i) (cnt := 1) (cSeen s) S (by show min _ _ = _; omega) (fun _ => by rw [if_neg (by omega)]) (by omega) rfl (fun u hu => Enc.one s u hu) (fun _ => ⟨_, rfl, fun j u hj => ?_⟩) ?_
      · have hbx : BoxF b T (cSeen s) w := (S.mem.fact0 (BoxF b T (cSeen s))).now
        rw [add_lit, cell_of_row w b j _ T (0, 0) hbx]
        simpa using hj
      clear S; intro a w S
      have hroom := ins_room ((encL xs).take (i * 7)) ((encL xs).drop (i * 7)) ys (cSeen s) (i * 7) hT (by rw [hys]; show _ = 7; omega)
      rw [List.take_append_drop] at hroom
      rw [show (i + 1) * 7 = i * 7 + (cSeen s).length from by show _ = _ + 7; omega, hroom, ← e0] at S
      refine wl_nil ?_
      refine xtn ?_
      refine c_seq ?_
      refine c_region ?_
      iterate 2 (refine sq S ?_; clear S; intro a S)
      refine wl_nil ?_
      refine xtn ?_
      refine c_ret ?_
      refine xtr ?_
      have hrow := S.row p (n + 1)
      have hnew := S.rowNew p (n + 1)
      refine end1 S (fun _ => ?_)
      exact ⟨_, c, rfl, hrow, hnew⟩
end Go.Proofs.YtieeoakdkbackaaDoor
