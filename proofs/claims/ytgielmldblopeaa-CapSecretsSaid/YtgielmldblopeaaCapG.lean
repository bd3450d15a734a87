/- Package cap: Open. -/
import Derived.Test.YtgielmldblopeaaCapF
namespace Go.Proofs.Ytgielmldblopeaa
open Go Go.Wk
set_option synthInstance.maxSize 100000
set_option synthInstance.maxHeartbeats 400000
set_option maxRecDepth 100000

theorem indexBox_c (F : Nat) [EntF Try.prog F] (ca : List Value) (q : LBox → Bool) (xs : List LBox) (p : Option Addr) (n c : Nat) (w0 : World) (hn : xs.length = n) (hl : n ≤ 9223372036854775807) (hx : Stable (fun _ => False) w0 (GlF p xs))
    (hF : ∀ x ∈ xs, ∀ w, Agree (fun _ => False) w0 w → Ret Try.prog F (vBox x :: ca) w (fun _ => False) fun v _ => v = .bool (q x)) :
    Ret Try.prog 109 [.slice p n c, .func (.func F) #[] ⟨ca⟩] w0 (fun _ => False) fun v _ => v = .int .i64 (idxG q xs 0) := by
  refine enter Try.func109 rfl rfl (Wd.begin (fs := [GlF p xs]) (by simpa using hx)) (fun a S => ?_)
  simp only [Try.ntmps109, List.length_cons, List.length_nil, Nat.reduceAdd, Nat.reduceSub, List.replicate_succ, List.replicate_zero, List.cons_append, List.nil_append] at S
  refine c_seq ?_
  refine c_region ?_
  refine sq S ?_; clear S; intro a S
  refine wl_nil ?_
  refine xtn ?_
  iterate 2 (refine c_seq ?_)
  refine c_region ?_
  iterate 3 (refine sq S ?_; clear S; intro a S)
  refine wl_nil ?_
  refine xtn ?_
  refine c_block ?_
  refine c_forb1 S (fun (k : Nat) uu => [(4, uu 4), (0, uu 5), (2, .int .i64 (k : Nat)), (0, uu 9), (0, uu 10), (0, uu 11), (0, uu 12), (0, uu 13), (0, uu 14), (0, uu 15), (0, uu 16), (0, uu 17), (0, uu 18)]) (fun (k : Nat) => k ≤ n ∧ idxG q (xs.drop k) k = idxG q xs 0) (fun (k : Nat) => n - k) (0) ?_ S.uu ?_ ?_
  · exact ⟨Nat.zero_le _, rfl⟩
  · first | exact S | exact S.sub _ _
  · clear S; rintro k uu a w ⟨hk, hrel⟩ S
    refine c_seq ?_
    refine c_region ?_
    refine sq S ?_; clear S; intro a S
    refine wl_nil ?_
    refine xtn ?_
    refine c_seq ?_
    refine c_cond S (fun h2 => ?_) (fun h2 => ?_)
    · refine c_skip ?_
      refine xtn ?_
      refine c_seq ?_
      refine c_block ?_
      refine c_seq ?_
      refine c_region ?_
      iterate 2 (refine sq S ?_; clear S; intro a S)
      refine wl_nil ?_
      refine xtn ?_
      refine c_seq ?_
      have hkl : k < n := by simp at h2; omega
      have hK : KLt k n := ⟨hkl⟩
      have hK2 : KLt k xs.length := ⟨by omega⟩
      rw [nthG_drop (show k < xs.length by omega), idxG] at hrel
      refine c_region ?_
      iterate 5 (refine sq S ?_; clear S; intro a S)
      refine sr S (hF (nthG xs k) (nthG_mem (by omega)) w S.wd.agree) ?_; clear S; rintro _ a w rfl S
      refine wl_nil ?_
      refine xtn ?_
      refine c_cond S (fun h4 => ?_) (fun h4 => ?_)
      · refine c_seq ?_
        refine c_region ?_
        iterate 2 (refine sq S ?_; clear S; intro a S)
        refine wl_nil ?_
        refine xtn ?_
        refine c_ret ?_
        refine xbr ?_
        iterate 2 (refine xtr ?_)
        refine xbr ?_
        refine xtr ?_
        rw [if_pos h4] at hrel
        refine end1 S (fun _ => ?_)
        rw [hrel]
      · refine c_skip ?_
        refine xbn ?_
        refine xtn ?_
        refine c_region ?_
        iterate 2 (refine sq S ?_; clear S; intro a S)
        refine wl_nil ?_
        refine xtn ?_
        rw [if_neg (by simpa using h4)] at hrel
        rw [w64 ((k : Int) + 1) (by omega) (by omega)] at S
        exact ⟨k + 1, S.uu, ⟨hkl, by rw [← hrel]; rfl⟩, S.sub _ _, by omega⟩
    · refine c_exit ?_
      iterate 2 (refine xte ?_)
      refine xbe ?_
      refine xtn ?_
      refine c_seq ?_
      refine c_region ?_
      refine sq S ?_; clear S; intro a S
      refine wl_nil ?_
      refine xtn ?_
      refine c_ret ?_
      rw [List.drop_of_length_le (by simp at h2; omega)] at hrel
      refine end1 S (fun _ => ?_)
      rw [← hrel]; rfl
theorem findBox_c (F : Nat) [EntF Try.prog F] (ca : List Value) (q : LBox → Bool) (xs : List LBox) (p : Option Addr) (n c : Nat) (w0 : World) (hn : xs.length = n) (hl : n ≤ 9223372036854775807) (hx : Stable (fun _ => False) w0 (GlF p xs))
    (hF : ∀ x ∈ xs, ∀ w, Agree (fun _ => False) w0 w → Ret Try.prog F (vBox x :: ca) w (fun _ => False) fun v _ => v = .bool (q x)) :
    Ret Try.prog 73 [.slice p n c, .func (.func F) #[] ⟨ca⟩] w0 (fun _ => False) fun v _ => v = .tuple ⟨[.agg ⟨cBox (findG q xs).1⟩, .bool (findG q xs).2]⟩ := by
  subst hn
  refine enter Try.func73 rfl rfl (Wd.begin (fs := [GlF p xs]) (by simpa using hx)) (fun a S => ?_)
  simp only [Try.ntmps73, List.length_cons, List.length_nil, Nat.reduceAdd, Nat.reduceSub, List.replicate_succ, List.replicate_zero, List.cons_append, List.nil_append] at S
  refine c_seq ?_
  refine c_region ?_
  refine sa S ?_; clear S; intro b4 a w S
  refine sq S ?_; clear S; intro a S
  refine wl_nil ?_
  refine xtn ?_
  iterate 2 (refine c_seq ?_)
  refine c_region ?_
  iterate 2 (refine sq S ?_; clear S; intro a S)
  refine sr S (indexBox_c F ca q xs p xs.length c _ rfl hl (S.gl0 p) fun x hx w' hw' => hF x hx w' (S.wd.agree.trans hw')) ?_; clear S; rintro _ a w rfl S
  refine sq S ?_; clear S; intro a S
  refine wl_nil ?_
  refine xtn ?_
  refine c_seq ?_
  refine c_region ?_
  iterate 2 (refine sq S ?_; clear S; intro a S)
  refine wl_nil ?_
  refine xtn ?_
  refine c_cond S (fun h2 => ?_) (fun h2 => ?_)
  · refine c_seq ?_
    obtain ⟨i, hi, hil, hfi⟩ : ∃ i : Nat, idxG q xs 0 = (i : Int) ∧ i < xs.length ∧ findG q xs = (nthG xs i, true) := by
      rcases findG_idx q xs 0 with ⟨h3, -⟩ | ⟨i, h3, h4, h5⟩
      · rw [show ((0 : Nat) : Int) = 0 from rfl] at h3; rw [h3] at h2; simp at h2
      · exact ⟨i, by simpa using h3, h4, h5⟩
    have hK : KLt i xs.length := ⟨hil⟩
    rw [hi] at S
    refine c_region ?_
    iterate 4 (refine sq S ?_; clear S; intro a S)
    refine sw S ?_; clear S; intro a w S
    refine sq S ?_; clear S; intro a S
    refine wl_nil ?_
    refine xtn ?_
    refine c_ret ?_
    refine xtr ?_
    refine end2 S (fun _ => ?_)
    rw [hfi]
  · refine c_skip ?_
    refine xtn ?_
    refine c_seq ?_
    refine c_region ?_
    refine sa S ?_; clear S; intro b7 a w S
    refine wl_nil ?_
    refine xtn ?_
    refine c_seq ?_
    refine c_region ?_
    refine sq S ?_; clear S; intro a S
    refine sw S ?_; clear S; intro a w S
    refine sq S ?_; clear S; intro a S
    refine wl_nil ?_
    refine xtn ?_
    refine c_ret ?_
    have hfi : findG q xs = (Lay.dflt, false) := by
      rcases findG_idx q xs 0 with ⟨-, h4⟩ | ⟨i, h3, h4, h5⟩
      · exact h4
      · rw [show ((0 : Nat) : Int) = 0 from rfl] at h3; rw [h3] at h2; simp at h2
    refine end2 S (fun _ => ?_)
    rw [hfi]; rfl
theorem open1_c (b4 : Nat) (u : Int) (b : LBox) (w0 : World) (hb : Stable (fun _ => False) w0 (BoxF b4 3 [.int .i64 u])) : Ret Try.prog 74 [vBox b, .pointer (some ⟨b4, 0, none⟩)] w0 (fun _ => False) fun v _ => v = .bool (decide (0 < u) && decide (b.user = u)) := by
  refine enter Try.func74 rfl rfl (Wd.begin (fs := [BoxF b4 3 [.int .i64 u]]) (by simpa using hb)) (fun a S => ?_)
  simp only [Try.ntmps74, List.length_cons, List.length_nil, Nat.reduceAdd, Nat.reduceSub, List.replicate_succ, List.replicate_zero, List.cons_append, List.nil_append] at S
  refine c_seq ?_
  refine c_region ?_
  refine sa S ?_; clear S; intro b2 a w S
  refine sq S ?_; clear S; intro a S
  refine wl_nil ?_
  refine xtn ?_
  refine c_seq ?_
  refine c_region ?_
  iterate 3 (refine sq S ?_; clear S; intro a S)
  iterate 4 (refine gQ S ?_; clear S; intro a S)
  iterate 2 (refine sq S ?_; clear S; intro a S)
  refine wl_nil ?_
  refine xtn ?_
  refine c_ret ?_
  refine end1 S (fun _ => rfl)
def fitB (b : LBox) (k : LKey) : Bool := decide (0 < b.group) && decide (k.group = b.group) && sameF k.key.t (nthL b.term.kids 0).t
theorem open21_c (b2 : Nat) (b : LBox) (k : LKey) (hk0 : 0 < b.term.kids.length) (w0 : World) (hb : Stable (fun _ => False) w0 (BoxF b2 110 (cBox b))) (hi : Stable (fun _ => False) w0 (InF b)) (hk : Stable (fun _ => False) w0 (InF k)) : Ret Try.prog 76 [vKey k, .pointer (some ⟨b2, 0, none⟩)] w0 (fun _ => False) fun v _ => v = .bool (fitB b k) := by
  have hK0 : KLt 0 b.term.kids.length := ⟨hk0⟩
  refine enter Try.func76 rfl rfl (Wd.begin (fs := [BoxF b2 110 (cBox b), InF b, InF k]) (by simp; exact ⟨hb, hi, hk⟩)) (fun a S => ?_)
  simp only [Try.ntmps76, List.length_cons, List.length_nil, Nat.reduceAdd, Nat.reduceSub, List.replicate_succ, List.replicate_zero, List.cons_append, List.nil_append] at S
  refine c_seq ?_
  refine c_region ?_
  refine sa S ?_; clear S; intro b2 a w S
  refine sq S ?_; clear S; intro a S
  refine wl_nil ?_
  refine xtn ?_
  refine c_seq ?_
  refine c_drawD [(0, true), (1, true), (2, true), (3, true), (4, true), (5, true), (6, true), (7, true), (8, true), (9, true), (10, true), (11, true), (12, true), (13, true), (14, true), (15, true), (16, true), (17, true), (18, false), (19, true), (20, true)] [] S ?_; clear S; intro w S
  iterate 4 (refine dq S ?_; clear S; intro a S)
  iterate 5 (refine dqG S ?_; clear S; intro a S)
  iterate 2 (refine dq S ?_; clear S; intro a S)
  iterate 7 (refine dqG S ?_; clear S; intro a S)
  refine dl ?_
  refine gC S ?_; clear S; intro a w S
  refine de S ?_
  iterate 2 (refine dq S ?_; clear S; intro a S)
  refine dn ?_
  refine xtn ?_
  refine c_ret ?_
  refine end1 S (fun _ => rfl)
theorem open2_c (b5 : Nat) (b : LBox) (keys : List LKey) (kp : Option Addr) (kc : Nat) (hk0 : 0 < b.term.kids.length) (hkl : keys.length ≤ 1000) (w0 : World) (hb : Stable (fun _ => False) w0 (BoxF b5 62 [.slice kp keys.length kc])) (hi : Stable (fun _ => False) w0 (InF b)) (hk : Stable (fun _ => False) w0 (GlF kp keys)) : Ret Try.prog 75 [vBox b, .pointer (some ⟨b5, 0, none⟩)] w0 (fun _ => False) fun v _ => v = .bool (keys.any (fitB b)) := by
  refine enter Try.func75 rfl rfl (Wd.begin (fs := [BoxF b5 62 [.slice kp keys.length kc], InF b, GlF kp keys]) (by simp; exact ⟨hb, hi, hk⟩)) (fun a S => ?_)
  simp only [Try.ntmps75, List.length_cons, List.length_nil, Nat.reduceAdd, Nat.reduceSub, List.replicate_succ, List.replicate_zero, List.cons_append, List.nil_append] at S
  refine c_seq ?_
  refine c_region ?_
  refine sa S ?_; clear S; intro b2 a w S
  refine sq S ?_; clear S; intro a S
  refine wl_nil ?_
  refine xtn ?_
  refine c_seq ?_
  refine c_region ?_
  iterate 2 (refine sq S ?_; clear S; intro a S)
  refine sr S (findKey_c 76 [.pointer (some ⟨b2, 0, none⟩)] (fitB b) keys kp keys.length kc _ rfl (by omega) (S.gl0 kp) fun x hx w' hw' => open21_c b2 b x hk0 w' ((BoxF.stable (S.boxF b2) (fun h => h)).later hw') ((S.i0 b).later hw') (((S.gl0 kp (xs := keys)).imp fun _ h => h.2 x hx).later hw')) ?_
  clear S; rintro _ a w rfl S
  iterate 3 (refine sq S ?_; clear S; intro a S)
  refine sa S ?_; clear S; intro b4 a w S
  refine sw S ?_; clear S; intro a w S
  refine sq S ?_; clear S; intro a S
  refine wl_nil ?_
  refine xtn ?_
  refine c_seq ?_
  refine c_region ?_
  iterate 2 (refine sq S ?_; clear S; intro a S)
  refine wl_nil ?_
  refine xtn ?_
  refine c_ret ?_
  refine end1 S (fun _ => ?_)
  rw [findG]
  cases h : keys.find? (fitB b) with
  | some x => rw [List.any_eq_true.2 ⟨x, List.mem_of_find?_eq_some h, List.find?_some h⟩]
  | none => rw [List.any_eq_false.2 fun x hx => by simpa using List.find?_eq_none.1 h x hx]
def kidT (i : Nat) : Term → Term
  | .mk _ _ _ _ ks => ks.getD i zeroT
theorem kidT_eq {x : LTerm} {i : Nat} (h : i < x.kids.length) : kidT i x.t = (nthL x.kids i).t := by
  rw [x.t_eq]
  simp [kidT, nthL, h]
def isU (u : Int) (b : SBox) : Bool := decide (0 < u) && decide (b.user = u)
def isK (ks : List (Int × Term)) (b : SBox) : Bool := ks.any fun k => decide (0 < b.group) && decide (k.1 = b.group) && sameF k.2 (kidT 0 b.term)
def openF (sb : List SBox) (u : Int) (ks : List (Int × Term)) : Option Term :=
  match sb.find? (isU u) with
  | some b => some (kidT 0 b.term)
  | none => (sb.find? (isK ks)).map fun b => kidT 1 b.term
def LKey.s (k : LKey) : Int × Term := (k.group, k.key.t)
def OpenR (M : Nat → Prop) (o : Option Term) (v : Value) (w : World) : Prop := (o = none ∧ v = .tuple ⟨[vL zeroL, .int .i64 4]⟩) ∨ ∃ T r, o = some T ∧ v = .tuple ⟨[vL r, .int .i64 0]⟩ ∧ r.t = T ∧ Stable M w (LtF r)
theorem box_kids {b : LBox} (h : b.s.ok) : 0 < b.term.kids.length ∧ (0 < b.group → 1 < b.term.kids.length) := by
  have e : b.s.term = b.term.t := rfl
  rcases h with ⟨-, -, h3, s, h⟩ | ⟨-, -, -, k, s, h⟩
  · have h3' : b.group = 0 := h3
    rw [e, b.term.t_eq] at h
    simp only [sealT, Term.mk.injEq] at h
    have := congrArg List.length h.2.2.2.2
    simp at this
    omega
  · rw [e, b.term.t_eq] at h
    simp only [lockT, Term.mk.injEq] at h
    have := congrArg List.length h.2.2.2.2
    simp at this
    omega
theorem find_map_eq {q : LBox → Bool} {q' : SBox → Bool} : ∀ {bx : List LBox}, (∀ b ∈ bx, q b = q' b.s) → (bx.map LBox.s).find? q' = (bx.find? q).map LBox.s
  | [], _ => rfl
  | x :: xs, hq => by
    rw [List.map_cons, List.find?, List.find?, ← hq x (by simp)]
    cases q x with
    | true => rfl
    | false => exact find_map_eq fun b hb => hq b (by simp [hb])
theorem findG_s {bx : List LBox} {sb : List SBox} (h : bx.map LBox.s = sb) {q : LBox → Bool} {q' : SBox → Bool} (hq : ∀ b ∈ bx, q b = q' b.s) :
    (findG q bx = (Lay.dflt, false) ∧ sb.find? q' = none) ∨ ∃ b ∈ bx, findG q bx = (b, true) ∧ sb.find? q' = some b.s ∧ q b = true := by
  subst h
  have e := find_map_eq hq
  unfold findG
  cases hf : bx.find? q with
  | none => exact .inl ⟨rfl, by rw [e, hf]; rfl⟩
  | some b => exact .inr ⟨b, List.mem_of_find?_eq_some hf, rfl, by rw [e, hf]; rfl, List.find?_some hf⟩
theorem open_c (t : LTerm) (sb : List SBox) (u : Int) (keys : List LKey) (kp : Option Addr) (kc : Nat) (hkl : keys.length ≤ 1000) (ht : t.t = listT (sb.map SBox.t)) (hg : Good t.t) (hl : sb.length ≤ 100) (hok : ∀ b ∈ sb, b.ok) (hr : (sb.map SBox.place).Pairwise (· < ·)) (hne : sb ≠ []) (M : Nat → Prop) (w0 : World) (hM : ∀ k, M k → k < w0.heap.size) (hf : Stable M w0 (LtF t)) (hk : Stable M w0 (GlF kp keys)) :
    Ret Try.prog 30 [vL t, .int .i64 u, .slice kp keys.length kc] w0 (fun _ => False) fun v w' => OpenR M (openF sb u (keys.map LKey.s)) v w' := by
  refine enter Try.func30 rfl rfl (Wd.beginM (M := M) (fs := [LtF t, GlF kp keys]) hM (by simp; exact ⟨hf, hk⟩)) (fun a S => ?_)
  simp only [Try.ntmps30, List.length_cons, List.length_nil, Nat.reduceAdd, Nat.reduceSub, List.replicate_succ, List.replicate_zero, List.cons_append, List.nil_append] at S
  refine c_seq ?_
  refine c_region ?_
  refine sa S ?_; clear S; intro b3 a w S
  refine sa S ?_; clear S; intro b4 a w S
  refine sa S ?_; clear S; intro b5 a w S
  refine sa S ?_; clear S; intro b6 a w S
  refine sq S ?_; clear S; intro a S
  refine wl_nil ?_
  refine xtn ?_
  refine c_seq ?_
  refine c_region ?_
  refine sq S ?_; clear S; intro a S
  refine sr S (read_c t sb ht hg hl hok hr hne _ w (foots_lt S) (S.t t)) ?_; clear S; rintro _ a w ⟨p, c, bx, rfl, hbs, hgl⟩ S
  replace S := S.add hgl
  have hokb : ∀ b ∈ bx, b.s.ok := fun b hb => hok _ (by rw [← hbs]; exact List.mem_map.2 ⟨b, hb, rfl⟩)
  have hbl : bx.length ≤ 100 := by have := congrArg List.length hbs; simp at this; omega
  iterate 5 (refine sq S ?_; clear S; intro a S)
  refine wl_nil ?_
  refine xtn ?_
  iterate 2 (refine c_seq ?_)
  refine c_region ?_
  iterate 2 (refine sq S ?_; clear S; intro a S)
  rw [show (!true) = false from rfl] at S
  refine wl_nil ?_
  refine xtn ?_
  refine c_condF S ?_
  refine c_skip ?_
  refine xtn ?_
  iterate 2 (refine c_seq ?_)
  refine c_region ?_
  iterate 2 (refine sq S ?_; clear S; intro a S)
  refine sr S (findBox_c 74 [.pointer (some ⟨b4, 0, none⟩)] (fun b => decide (0 < u) && decide (b.user = u)) bx p bx.length c _ rfl (by omega) (S.gl0 p) fun x hx w' hw' => open1_c b4 u x w' ((BoxF.stable (S.boxF b4) (fun h => h)).later hw')) ?_
  clear S; rintro _ a w rfl S
  have hf1 := findG_s hbs (q := fun b => decide (0 < u) && decide (b.user = u)) (q' := isU u) fun _ _ => rfl
  obtain ⟨r1, hr1⟩ : ∃ r1, r1 = findG (fun b : LBox => decide (0 < u) && decide (b.user = u)) bx := ⟨_, rfl⟩
  rw [← hr1] at S hf1
  obtain ⟨x1, f1⟩ := r1
  iterate 3 (refine sq S ?_; clear S; intro a S)
  refine sa S ?_; clear S; intro b10 a w S
  refine sw S ?_; clear S; intro a w S
  refine sq S ?_; clear S; intro a S
  refine wl_nil ?_
  refine xtn ?_
  refine c_seq ?_
  refine c_region ?_
  refine sq S ?_; clear S; intro a S
  refine wl_nil ?_
  refine xtn ?_
  refine c_cond S (fun h5 => ?_) (fun h5 => ?_)
  · refine c_seq ?_
    obtain ⟨hxb, hfd⟩ : x1 ∈ bx ∧ sb.find? (isU u) = some x1.s := by
      rcases hf1 with ⟨q1, -⟩ | ⟨b, q1, q2, q3, -⟩
      · simp only [Prod.mk.injEq] at q1; rw [q1.2] at h5; cases h5
      · simp only [Prod.mk.injEq] at q2; rw [q2.1]; exact ⟨q1, q3⟩
    have hK0 : KLt 0 x1.term.kids.length := ⟨(box_kids (hokb _ hxb)).1⟩
    replace S := S.add (Φ := InF x1) ((S.gl p (xs := bx)).imp fun _ h => h.2 x1 hxb)
    refine c_region ?_
    iterate 5 (refine sq S ?_; clear S; intro a S)
    refine sw S ?_; clear S; intro a w S
    refine sq S ?_; clear S; intro a S
    refine wl_nil ?_
    refine xtn ?_
    refine c_ret ?_
    refine xtr ?_
    have hlat := S.laterT (M := M) (nthL x1.term.kids 0)
    refine end2 S (fun _ => .inr ⟨_, _, ?_, rfl, rfl, hlat⟩)
    rw [openF, hfd]
    show some (kidT 0 x1.term.t) = _
    rw [kidT_eq hK0.lt]
  · refine c_skip ?_
    refine xtn ?_
    refine c_seq ?_
    refine c_region ?_
    iterate 2 (refine sq S ?_; clear S; intro a S)
    have hno : sb.find? (isU u) = none := by
      rcases hf1 with ⟨-, q1⟩ | ⟨b, -, q2, -⟩
      · exact q1
      · simp only [Prod.mk.injEq] at q2; rw [q2.2] at h5; cases h5
    refine sr S (findBox_c 75 [.pointer (some ⟨b5, 0, none⟩)] (fun b => keys.any (fitB b)) bx p bx.length c _ rfl (by omega) (S.gl0 p) fun x hx w' hw' => open2_c b5 x keys kp kc (box_kids (hokb _ hx)).1 hkl w' ((BoxF.stable (S.boxF b5) (fun h => h)).later hw') (((S.gl0 p (xs := bx)).imp fun _ h => h.2 x hx).later hw') ((S.gl0 kp (xs := keys)).later hw')) ?_
    clear S; rintro _ a w rfl S
    have hf2 := findG_s hbs (q := fun b => keys.any (fitB b)) (q' := isK (keys.map LKey.s)) fun b hb => by
      rw [isK, List.any_map]
      show keys.any (fitB b) = keys.any _
      congr 1
      funext k
      show _ = (decide (0 < b.group) && decide (k.group = b.group) && sameF k.key.t (kidT 0 b.term.t))
      rw [kidT_eq (box_kids (hokb _ hb)).1]; rfl
    obtain ⟨r2, hr2⟩ : ∃ r2, r2 = findG (fun b : LBox => keys.any (fitB b)) bx := ⟨_, rfl⟩
    rw [← hr2] at S hf2
    obtain ⟨x2, f2⟩ := r2
    iterate 3 (refine sq S ?_; clear S; intro a S)
    refine sa S ?_; clear S; intro b12 a w S
    refine sw S ?_; clear S; intro a w S
    refine sq S ?_; clear S; intro a S
    refine wl_nil ?_
    refine xtn ?_
    iterate 2 (refine c_seq ?_)
    refine c_region ?_
    iterate 2 (refine sq S ?_; clear S; intro a S)
    refine wl_nil ?_
    refine xtn ?_
    refine c_cond S (fun h8 => ?_) (fun h8 => ?_)
    · refine c_seq ?_
      refine c_region ?_
      refine sq S ?_; clear S; intro a S
      refine sw S ?_; clear S; intro a w S
      refine sq S ?_; clear S; intro a S
      refine wl_nil ?_
      refine xtn ?_
      refine c_ret ?_
      refine xtr ?_
      have hno2 : sb.find? (isK (keys.map LKey.s)) = none := by
        rcases hf2 with ⟨-, q1⟩ | ⟨b, -, q2, -⟩
        · exact q1
        · simp only [Prod.mk.injEq] at q2; rw [q2.2] at h8; simp at h8
      refine end2 S (fun _ => .inl ⟨?_, rfl⟩)
      rw [openF, hno, hno2]; rfl
    · refine c_skip ?_
      refine xtn ?_
      refine c_seq ?_
      obtain ⟨hxb, hfd, hqt⟩ : x2 ∈ bx ∧ sb.find? (isK (keys.map LKey.s)) = some x2.s ∧ keys.any (fitB x2) = true := by
        rcases hf2 with ⟨q1, -⟩ | ⟨b, q1, q2, q3, q4⟩
        · simp only [Prod.mk.injEq] at q1; rw [q1.2] at h8; simp at h8
        · simp only [Prod.mk.injEq] at q2; rw [q2.1]; exact ⟨q1, q3, q4⟩
      have hgp : 0 < x2.group := by
        obtain ⟨k, -, h⟩ := List.any_eq_true.1 hqt
        simp [fitB] at h; omega
      have hK1 : KLt 1 x2.term.kids.length := ⟨(box_kids (hokb _ hxb)).2 hgp⟩
      replace S := S.add (Φ := InF x2) ((S.gl p (xs := bx)).imp fun _ h => h.2 x2 hxb)
      refine c_region ?_
      iterate 5 (refine sq S ?_; clear S; intro a S)
      refine sw S ?_; clear S; intro a w S
      refine sq S ?_; clear S; intro a S
      refine wl_nil ?_
      refine xtn ?_
      refine c_ret ?_
      have hlat := S.laterT (M := M) (nthL x2.term.kids 1)
      refine end2 S (fun _ => .inr ⟨_, _, ?_, rfl, rfl, hlat⟩)
      rw [openF, hno, hfd]
      show some (kidT 1 x2.term.t) = _
      rw [kidT_eq hK1.lt]
end Go.Proofs.Ytgielmldblopeaa
