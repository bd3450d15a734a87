/- Package fresh: what is signed. -/
import Derived.Test.YtmngicgdgpimlaaDoorTreeH
namespace Go.Proofs.YtmngicgdgpimlaaDoor
open Go Go.Wk
set_option synthInstance.maxSize 100000
set_option synthInstance.maxHeartbeats 400000
set_option maxRecDepth 100000

/-! terms that are signed -/
def signT (u n : Int) (a : Term) : Term := .mk 8 u n [] [a]
theorem good_signK {x : LTerm} (h : Good x.t) (hk : x.kind = 8) : x.kids.length = 1 ∧ x.t = signT x.user x.num (nthL x.kids 0).t ∧ (1 ≤ x.user ∧ x.user ≤ 6) ∧ (0 ≤ x.num ∧ x.num ≤ 65535) := by
  have h' := h
  rw [x.t_eq] at h
  have hp := plain_shape (goodP h)
  rw [hk] at hp
  have hq : 1 ≤ x.user ∧ x.user ≤ 6 ∧ 0 ≤ x.num ∧ x.num ≤ 65535 ∧ x.text = [] ∧ x.kids.length = 1 := by
    rcases hp with q | q | q | q | q | q | q
    all_goals first | (obtain ⟨-, q⟩ := q; simpa using q) | omega
  obtain ⟨q1, q2, q3, q4, q5, q6⟩ := hq
  refine ⟨q6, ?_, ⟨q1, q2⟩, ⟨q3, q4⟩⟩
  obtain ⟨u, hu⟩ : ∃ u, x.kids = [u] := by
    match h : x.kids, q6 with
    | [u], _ => exact ⟨u, rfl⟩
  rw [x.t_eq, hk, q5, hu]; rfl
theorem good_sign {u n : Int} {a : Term} (hu : 1 ≤ u ∧ u ≤ 6) (hn : 0 ≤ n ∧ n ≤ 65535) (ha : Good a) (hc : cnt a ≤ 1199) (h1 : dpt a ≤ 59) : Good (signT u n a) := by
  refine good_mk ?_ (by simp; exact ha) (by simp [cntL]; omega) (by simp [dptL]; omega)
  simp [plainF, show fieldsOf 8 = 14 from rfl, show hasF 14 1 = false from by decide, show hasF 14 2 = true from by decide, show hasF 14 4 = true from by decide, show kidsF 14 = 1 from by decide, knownF, hu.1, hu.2, hn.1, hn.2]
theorem sign_c (u n : Int) (x : LTerm) (M : Nat → Prop) (w0 : World) (hM : ∀ k, M k → k < w0.heap.size) (hx : Stable M w0 (LtF x)) : Ret Tryd.prog 18 [.int .i64 u, .int .i64 n, vL x] w0 (fun _ => False) fun v w' => IsT M w' v (signT u n x.t) := by
  refine enter Tryd.func18 rfl rfl (Wd.beginM (M := M) (fs := [LtF x]) hM (by simpa using hx)) (fun a S => ?_)
  simp only [Tryd.ntmps18, List.length_cons, List.length_nil, Nat.reduceAdd, Nat.reduceSub, List.replicate_succ, List.replicate_zero, List.cons_append, List.nil_append] at S
  refine c_seq ?_
  refine c_region ?_
  refine sa S ?_; clear S; intro b5 a w S
  refine sa S ?_; clear S; intro b6 a w S
  refine wl_nil ?_
  refine xtn ?_
  refine c_seq ?_
  refine c_region ?_
  refine sq S ?_; clear S; intro a S
  refine sn S ?_; clear S; intro b9 a w S
  refine sc S ?_; clear S; intro a w S
  refine sa S ?_; clear S; intro b7 a w S
  refine sw S ?_; clear S; intro a w S
  refine wl_nil ?_
  refine xtn ?_
  refine c_seq ?_
  refine c_region ?_
  iterate 3 (refine sq S ?_; clear S; intro a S)
  refine sw S ?_; clear S; intro a w S
  refine sq S ?_; clear S; intro a S
  refine sw S ?_; clear S; intro a w S
  refine wl_nil ?_
  refine xtn ?_
  refine c_seq ?_
  refine c_region ?_
  refine sq S ?_; clear S; intro a S
  refine sw S ?_; clear S; intro a w S
  refine wl_nil ?_
  refine xtn ?_
  refine c_ret ?_
  refine end1 S (fun _ => ?_)
  refine ⟨.mk 8 u n [] (some ⟨b9, 0, none⟩) 1 [x], rfl, rfl, fun w' hw' => ?_⟩
  have h1 := S.laterFact (Φ := LtF x) (by simp) w' hw'
  exact ⟨by simp, by simp [maxLen], LsIn.of_block [x] (S.laterBox hw' b9) (fun y hy => by obtain rfl := List.mem_singleton.1 hy; exact h1)⟩
/-! package fresh -/
theorem fuser_c (n : Int) (w : World) : Ret Tryd.prog 14 [.int .i64 n] w (fun _ => False) fun v _ => v = .bool (knownF n) := by
  refine enter Tryd.func14 rfl rfl (Wd.start w) (fun a S => ?_)
  simp only [Tryd.ntmps14, List.length_cons, List.length_nil, Nat.reduceAdd, Nat.reduceSub, List.replicate_succ, List.replicate_zero, List.cons_append, List.nil_append] at S
  refine c_seq ?_
  refine c_region ?_
  refine sq S ?_; clear S; intro a S
  refine wl_nil ?_
  refine xtn ?_
  refine c_seq ?_
  refine c_region ?_
  iterate 3 (refine sq S ?_; clear S; intro a S)
  iterate 2 (refine gQ S ?_; clear S; intro a S)
  iterate 2 (refine sq S ?_; clear S; intro a S)
  refine wl_nil ?_
  refine xtn ?_
  refine c_ret ?_
  refine fin1 S (fun _ => ?_)
  first | rfl | simp [knownF]
instance {n : Int} {bs fs} : CallV Tryd.prog 14 [.int .i64 n] bs fs (.bool (knownF n)) := ⟨fun w _ => fuser_c n w⟩
def countF (n : Int) : Bool := decide (1 ≤ n) && decide (n ≤ 65535)
theorem fcounted_c (n : Int) (w : World) : Ret Tryd.prog 15 [.int .i64 n] w (fun _ => False) fun v _ => v = .bool (countF n) := by
  refine enter Tryd.func15 rfl rfl (Wd.start w) (fun a S => ?_)
  simp only [Tryd.ntmps15, List.length_cons, List.length_nil, Nat.reduceAdd, Nat.reduceSub, List.replicate_succ, List.replicate_zero, List.cons_append, List.nil_append] at S
  refine c_seq ?_
  refine c_region ?_
  refine sq S ?_; clear S; intro a S
  refine wl_nil ?_
  refine xtn ?_
  refine c_seq ?_
  refine c_region ?_
  iterate 3 (refine sq S ?_; clear S; intro a S)
  iterate 2 (refine gQ S ?_; clear S; intro a S)
  iterate 2 (refine sq S ?_; clear S; intro a S)
  refine wl_nil ?_
  refine xtn ?_
  refine c_ret ?_
  refine fin1 S (fun _ => ?_)
  first | rfl | simp [countF]
instance {n : Int} {bs fs} : CallV Tryd.prog 15 [.int .i64 n] bs fs (.bool (countF n)) := ⟨fun w _ => fcounted_c n w⟩
def kText (os : List LTerm) (k : Nat) : List UInt8 := if (nthL os k).kind = 1 then (nthL os k).text else []
theorem ftext_c (b k : Nat) (os : List LTerm) (p : Option Addr) (n c : Nat) (w0 : World) (hk : k < os.length) (hn : os.length = n) (hb : Stable (fun _ => False) w0 (BoxF b 26 [.slice p n c])) (hl : Stable (fun _ => False) w0 (LsF p 0 os)) :
    Ret Tryd.prog 42 [.int .i64 (k : Nat), .pointer (some ⟨b, 0, none⟩)] w0 (fun _ => False) fun v _ => v = str (kText os k) := by
  subst hn
  have hK : KLt k os.length := ⟨hk⟩
  refine enter Tryd.func42 rfl rfl (Wd.begin (fs := [BoxF b 26 [.slice p os.length c], LsF p 0 os]) (by simp; exact ⟨hb, hl⟩)) (fun a S => ?_)
  simp only [Tryd.ntmps42, List.length_cons, List.length_nil, Nat.reduceAdd, Nat.reduceSub, List.replicate_succ, List.replicate_zero, List.cons_append, List.nil_append] at S
  refine c_seq ?_
  refine c_region ?_
  refine sq S ?_; clear S; intro a S
  refine wl_nil ?_
  refine xtn ?_
  iterate 2 (refine c_seq ?_)
  refine c_region ?_
  iterate 6 (refine sq S ?_; clear S; intro a S)
  refine wl_nil ?_
  refine xtn ?_
  refine c_cond S (fun h1 => ?_) (fun h1 => ?_)
  · refine c_seq ?_
    refine c_region ?_
    refine sq S ?_; clear S; intro a S
    refine wl_nil ?_
    refine xtn ?_
    refine c_ret ?_
    refine xtr ?_
    have h9 : (nthL os k).kind ≠ 1 := by simpa using h1
    refine end1 S (fun _ => ?_)
    rw [kText, if_neg h9]
  · refine c_skip ?_
    refine xtn ?_
    refine c_seq ?_
    refine c_region ?_
    iterate 6 (refine sq S ?_; clear S; intro a S)
    refine wl_nil ?_
    refine xtn ?_
    refine c_ret ?_
    have h9 : (nthL os k).kind = 1 := by simpa using h1
    refine end1 S (fun _ => ?_)
    rw [kText, if_pos h9]
instance {b k n c : Nat} {m : Int} {p : Option Addr} {os : List LTerm} {bs fs} [hm : IsNat m k] [hb : HasBox bs b 26 [.slice p n c]] [hl : HasLs fs p os] [hn : LenN os n] [hk : KLt k os.length] : CallV Tryd.prog 42 [.int .i64 m, .pointer (some ⟨b, 0, none⟩)] bs fs (str (kText os k)) := ⟨fun w m => by
  rw [hm.eq]
  exact ftext_c b k os p n c w hk.lt hn.eq (BoxF.stable m.box (fun h => h)) ((hl.of _ _ m.facts).less fun _ _ h => h.elim)⟩
theorem good_textK {x : LTerm} (h : Good x.t) (hk : x.kind = 1) : x.t = textT x.text ∧ x.text.length ≤ 64 := by
  rw [x.t_eq] at h
  have hp := plain_shape (goodP h)
  rw [hk] at hp
  have hq : x.user = 0 ∧ x.num = 0 ∧ x.text.length ≤ 64 ∧ x.kids.length = 0 := by
    rcases hp with q | q | q | q | q | q | q
    all_goals first | (obtain ⟨-, q⟩ := q; simpa using q) | omega
  have h0 : x.kids = [] := List.eq_nil_of_length_eq_zero hq.2.2.2
  refine ⟨?_, hq.2.2.1⟩
  rw [x.t_eq, hk, hq.1, hq.2.1, h0]; rfl
theorem kText_of {os : List LTerm} {k : Nat} {s : List UInt8} (h : (nthL os k).t = textT s) : kText os k = s := by
  rw [(nthL os k).t_eq] at h
  simp only [textT, Term.mk.injEq] at h
  rw [kText, if_pos h.1, h.2.2.2.1]
theorem kText_is {os : List LTerm} {k : Nat} (h : Good (nthL os k).t) (hs : kText os k ≠ []) : (nthL os k).t = textT (kText os k) := by
  unfold kText at *
  split at hs
  · rename_i hk
    rw [if_pos hk]; exact (good_textK h hk).1
  · exact absurd rfl hs
def wordR : List UInt8 := [114, 111, 111, 116]
def rootedT (u leaf n : Int) (r : Term) : Term := signT u leaf (listT [textT wordR, textT (Lib.itoa n), r])
def RootedR (M : Nat → Prop) (u : Int) (S : Term) (v : Value) (w : World) : Prop := ∃ (n : Int) (x : LTerm) (b : Bool), v = .tuple ⟨[.int .i64 n, vL x, .bool b]⟩ ∧ Stable M w (LtF x) ∧
  (b = true → Good S ∧ (1 ≤ n ∧ n ≤ 65535) ∧ ∃ leaf, S = rootedT u leaf n x.t) ∧ (b = false → ∀ leaf n r, (1 ≤ n ∧ n ≤ 65535) → S = rootedT u leaf n r → ¬ Good S)
theorem rooted_c (u : Int) (t : LTerm) (M : Nat → Prop) (w0 : World) (hM : ∀ k, M k → k < w0.heap.size) (ht : Stable M w0 LibF) (hf : Stable M w0 (LtF t)) :
    Ret Tryd.prog 22 [.int .i64 u, vL t] w0 (fun _ => False) fun v w' => RootedR M u t.t v w' := by
  refine enter Tryd.func22 rfl rfl (Wd.beginM (M := M) (fs := [TabF, LibF, LtF t]) hM (by simp; exact ⟨ht.imp fun _ h => h.1, ht, hf⟩)) (fun a S => ?_)
  simp only [Tryd.ntmps22, List.length_cons, List.length_nil, Nat.reduceAdd, Nat.reduceSub, List.replicate_succ, List.replicate_zero, List.cons_append, List.nil_append] at S
  refine c_seq ?_
  refine c_region ?_
  refine sa S ?_; clear S; intro b3 a w S
  refine sq S ?_; clear S; intro a S
  refine sa S ?_; clear S; intro b5 a w S
  refine sq S ?_; clear S; intro a S
  refine wl_nil ?_
  refine xtn ?_
  iterate 2 (refine c_seq ?_)
  refine c_region ?_
  refine sq S ?_; clear S; intro a S
  refine sc S ?_; clear S; intro a w S
  iterate 2 (refine sq S ?_; clear S; intro a S)
  iterate 3 (refine gQ S ?_; clear S; intro a S)
  iterate 2 (refine sq S ?_; clear S; intro a S)
  iterate 4 (refine gQ S ?_; clear S; intro a S)
  refine sq S ?_; clear S; intro a S
  refine wl_nil ?_
  refine xtn ?_
  refine c_cond S (fun h1 => ?_) (fun h1 => ?_)
  · refine c_seq ?_
    refine c_region ?_
    iterate 2 (refine sq S ?_; clear S; intro a S)
    refine sw S ?_; clear S; intro a w S
    refine sq S ?_; clear S; intro a S
    refine wl_nil ?_
    refine xtn ?_
    refine c_ret ?_
    refine xtr ?_
    have h9 : ∀ leaf n r, (1 ≤ n ∧ n ≤ 65535) → t.t = rootedT u leaf n r → ¬ Good t.t := by
      intro leaf n r _ he hg
      rw [t.t_eq] at he
      simp only [rootedT, signT, Term.mk.injEq] at he
      rw [good_check.2 hg, he.1, he.2.1] at h1
      simp at h1
    refine end3 S (fun _ => ?_)
    exact ⟨_, zeroL, false, rfl, fun _ _ => zeroL_in _, nofun, fun _ => h9⟩
  · refine c_skip ?_
    refine xtn ?_
    refine c_seq ?_
    have h1' : checkF t.t = 0 ∧ t.kind = 8 ∧ t.user = u := by simpa [and_assoc] using h1
    have hg := good_check.1 h1'.1
    obtain ⟨hl1, hst, hu1, hn1⟩ := good_signK hg h1'.2.1
    have hK0 : KLt 0 t.kids.length := ⟨by omega⟩
    refine c_region ?_
    iterate 4 (refine sq S ?_; clear S; intro a S)
    refine sr S (unlist2_c (nthL t.kids 0) _ w (foots_lt S) (S.t (nthL t.kids 0))) ?_; clear S; rintro _ a w ⟨pu, cu, us, b0, rfl, huf, hul, hb1, hb2⟩ S
    replace S := S.add huf
    have hb0 : ∀ leaf n r, t.t = rootedT u leaf n r → b0 = true ∧ us.map LTerm.t = [textT wordR, textT (Lib.itoa n), r] := fun leaf n r he => by
      have he2 : (nthL t.kids 0).t = listT [textT wordR, textT (Lib.itoa n), r] := by
        rw [hst] at he
        simp only [rootedT, signT, Term.mk.injEq, List.cons.injEq, and_true] at he
        exact he.2.2.2.2
      cases hb : b0 with
      | false =>
        refine absurd ?_ ((hb2 hb).2 _ he2)
        rw [hst] at hg
        exact good_kid hg (by simp)
      | true => exact ⟨rfl, listT_inj (by rw [← (hb1 hb).2, he2])⟩
    iterate 3 (refine sq S ?_; clear S; intro a S)
    refine sa S ?_; clear S; intro b7 a w S
    refine sw S ?_; clear S; intro a w S
    refine sq S ?_; clear S; intro a S
    refine wl_nil ?_
    refine xtn ?_
    iterate 2 (refine c_seq ?_)
    refine c_region ?_
    iterate 3 (refine sq S ?_; clear S; intro a S)
    iterate 3 (refine gQ S ?_; clear S; intro a S)
    refine sq S ?_; clear S; intro a S
    refine wl_nil ?_
    refine xtn ?_
    refine c_cond S (fun h4 => ?_) (fun h4 => ?_)
    · refine c_seq ?_
      refine c_region ?_
      iterate 2 (refine sq S ?_; clear S; intro a S)
      refine sw S ?_; clear S; intro a w S
      refine sq S ?_; clear S; intro a S
      refine wl_nil ?_
      refine xtn ?_
      refine c_ret ?_
      refine xtr ?_
      refine end3 S (fun _ => ?_)
      refine ⟨_, zeroL, false, rfl, fun _ _ => zeroL_in _, nofun, fun _ leaf n r _ he hg => ?_⟩
      obtain ⟨e1, e2⟩ := hb0 leaf n r he
      have := congrArg List.length e2
      rw [List.length_map] at this
      rw [e1, this] at h4; simp at h4
    · refine c_skip ?_
      refine xtn ?_
      refine c_seq ?_
      have h4' : b0 = true ∧ us.length = 3 := by
        cases hb : b0 with
        | false => rw [hb] at h4; simp at h4
        | true => rw [hb] at h4; simp at h4; exact ⟨rfl, by omega⟩
      have hu3 := h4'.2
      have hb1' := hb1 h4'.1
      have hK0' : KLt 0 us.length := ⟨by omega⟩
      have hK1' : KLt 1 us.length := ⟨by omega⟩
      have hK2' : KLt 2 us.length := ⟨by omega⟩
      have hmap : us.map LTerm.t = [(nthL us 0).t, (nthL us 1).t, (nthL us 2).t] := by
        match us, hu3 with
        | [x, y, z], _ => rfl
      have hgk : ∀ k, k < 3 → Good (nthL us k).t := fun k hk => by
        have := hb1'.1
        rw [hb1'.2, hmap] at this
        have q1 : Good (listT [(nthL us 1).t, (nthL us 2).t]) := good_kid this (by simp)
        match k, hk with
        | 0, _ => exact good_kid this (by simp)
        | 1, _ => exact good_kid q1 (by simp)
        | 2, _ => exact good_kid (good_kid q1 (by simp) : Good (listT [(nthL us 2).t])) (by simp)
      have hkl : (kText us 1).length ≤ 1000 := by
        unfold kText
        split
        · rename_i hk
          have := (good_textK (hgk 1 (by omega)) hk).2; omega
        · simp
      have hpos : ∀ leaf n r, (1 ≤ n ∧ n ≤ 65535) → t.t = rootedT u leaf n r → kText us 0 = wordR ∧ kText us 1 = Lib.itoa n := fun leaf n r _ he => by
        have e2 := (hb0 leaf n r he).2
        rw [hmap] at e2
        simp only [List.cons.injEq, and_true] at e2
        exact ⟨kText_of e2.1, kText_of e2.2.1⟩
      refine c_region ?_
      iterate 2 (refine sq S ?_; clear S; intro a S)
      refine wl_nil ?_
      refine xtn ?_
      refine c_seq ?_
      refine c_region ?_
      refine sq S ?_; clear S; intro a S
      refine sc S ?_; clear S; intro a w S
      refine sr S (atoi_c (kText us 1) hkl _ (S.mem.fact0 LibF).now.2.1 (S.mem.fact0 LibF).now.2.2) ?_; clear S; rintro _ a w ⟨n, b1, te, pe, rfl, hn, hbn, hv⟩ S
      have hI : I64 n := ⟨hn.1, hn.2⟩
      iterate 5 (refine sq S ?_; clear S; intro a S)
      refine wl_nil ?_
      refine xtn ?_
      refine c_seq ?_
      refine c_drawD [(0, true), (1, true), (2, true), (3, true), (4, true), (5, true), (6, true), (7, true), (8, false), (9, true), (10, true), (11, true), (12, true), (14, true), (13, false), (15, false), (16, true), (17, true), (18, true), (19, true), (20, false), (21, true), (22, true), (23, false), (24, true)] [b5] S ?_; clear S; intro w S
      iterate 7 (refine dq S ?_; clear S; intro a S)
      refine dqG S ?_; clear S; intro a S
      refine dl ?_
      refine gC S ?_; clear S; intro a w S
      refine de S ?_
      refine dqG S ?_; clear S; intro a S
      iterate 2 (refine dq S ?_; clear S; intro a S)
      iterate 2 (refine dqG S ?_; clear S; intro a S)
      refine dl ?_
      refine gC S ?_; clear S; intro a w S
      refine de S ?_
      refine dl ?_
      refine gC S ?_; clear S; intro a w S
      refine de S ?_
      refine dqG S ?_; clear S; intro a S
      iterate 2 (refine dq S ?_; clear S; intro a S)
      refine dqG S ?_; clear S; intro a S
      refine dl ?_
      refine gC S ?_; clear S; intro a w S
      refine de S ?_
      iterate 2 (refine dq S ?_; clear S; intro a S)
      refine dl ?_
      refine sw S ?_; clear S; intro a w S
      refine de S ?_
      refine dq S ?_; clear S; intro a S
      refine dn ?_
      refine xtn ?_
      refine c_ret ?_
      have hlat := S.laterT (M := M) (nthL us 2)
      refine end3 S (fun _ => ?_)
      refine ⟨n, nthL us 2, (b1 && decide (kText us 0 = wordR) && decide (Lib.itoa n = kText us 1) && countF n), ?_, hlat, fun hb => ?_, fun hb leaf n' r hn' he hg' => ?_⟩
      · rfl
      · simp only [Bool.and_eq_true, decide_eq_true_eq] at hb
        obtain ⟨⟨⟨q1, q2⟩, q3⟩, q4⟩ := hb
        have hc : 1 ≤ n ∧ n ≤ 65535 := by simpa [countF] using q4
        refine ⟨hg, hc, t.num, ?_⟩
        have k0 := kText_is (hgk 0 (by omega)) (by rw [q2]; decide)
        have k1 := kText_is (hgk 1 (by omega)) (by
          intro h0
          obtain ⟨m, hm⟩ := hbn.1 q1
          rw [h0] at hm
          cases hm)
        rw [hst, h1'.2.2, hb1'.2, hmap, k0, k1, q2, ← q3]; rfl
      · obtain ⟨p1, p2⟩ := hpos leaf n' r hn' he
        have ha := atoi_itoa (n := n') ⟨by omega, hn'.2⟩
        rw [← p2] at ha
        have e1 := hv _ ha
        have e2 := hbn.2 ⟨_, ha⟩
        subst e1
        rw [e2, p1, p2] at hb
        simp [countF, hn'.1, hn'.2] at hb
end Go.Proofs.YtmngicgdgpimlaaDoor
