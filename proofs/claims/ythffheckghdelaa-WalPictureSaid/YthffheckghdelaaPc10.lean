/- 1: a part of this claim's texts, joined: WalLawP WalLawQ RowWalC. -/
import Derived.Test.YthffheckghdelaaPc9
/- The laws of layer 4: what came is told as it was. -/
namespace Go.Proofs.Ythffheckghdelaa
open Go Go.Wk
set_option synthInstance.maxSize 100000
set_option synthInstance.maxHeartbeats 400000
set_option maxRecDepth 100000

theorem append_pure (L : LG) (n : Nat) (t : Int) (said : List (List UInt8)) (y : LBy) (h : LgOk L n t said) :
    roomF L.x y.bs = wantF n t said false y.bs ∧ (roomF L.x y.bs = 0 → ∀ (y' : LBy) p' c' q' e', y'.bs = y.bs → TakeR L ⟨L.m, p', c', (layF L.s ((fromN L.x.n L.x.turn + L.x.fin : Nat) : Int) (leavesF L.x.turn (L.x.said.length : Int) y.bs)).1, q', e', appS L.x y' (layF L.s ((fromN L.x.n L.x.turn + L.x.fin : Nat) : Int) (leavesF L.x.turn (L.x.said.length : Int) y.bs)).2⟩ n t said false y.bs (layF L.s ((fromN L.x.n L.x.turn + L.x.fin : Nat) : Int) (leavesF L.x.turn (L.x.said.length : Int) y.bs)).2) := by
  obtain ⟨m, p, c, s, q, e, x⟩ := L
  have hs := h.tells
  have hsl := says_len hs
  have hs0 := List.length_pos_iff.2 hs.some_
  have hsf := hs.few
  obtain ⟨tail, hL, hfr⟩ := h.live
  have hn := hL.hn
  have hlen := hL.len
  have h1 : x.n = n := h.num
  have h2 : x.turn = t := h.turn
  have h3 : x.fin = endF t said := h.fin
  have h4 : x.broken = false := h.broken
  have h5 : bsL x.said = said := h.says
  have hl0 : s.loose = [] := hL.loose
  simp only [] at hsl
  have href : refF x y.bs = if 40000 < y.bs.length then 3 else 0 := by rw [refF, h4]; rfl
  have hroom : roomF x y.bs = wantF n t said false y.bs := by
    rw [roomF, href, wantF]
    by_cases hq : 40000 < y.bs.length
    · rw [if_pos hq, if_pos hq, if_neg (by decide)]
    · rw [if_neg hq, if_neg hq, if_pos rfl, h1, h3]; rfl
  refine ⟨hroom, fun ha y' p' c' q' e' hy' => ?_⟩
  · replace ha : roomF x y.bs = 0 := ha
    rw [hroom] at ha
    have hb4 : y.bs.length ≤ 40000 := by
      unfold wantF at ha
      split at ha
      · cases ha
      · omega
    have hro : endF t said + secN y.bs.length ≤ n := by
      unfold wantF at ha
      rw [if_neg (by omega), if_neg Bool.false_ne_true] at ha
      split at ha
      · cases ha
      · have := secN_pos y.bs.length
        omega
    have hal := append_live ⟨tail, hL, hfr⟩ y.bs hb4 hro
    have hlo := layF_loose s ((fromN n t + endF t said : Nat) : Int) (leavesF t (said.length : Nat) y.bs)
    rw [leavesF_len] at hlo
    have hse := secN_le _ hb4
    show TakeR ⟨m, p, c, s, q, e, x⟩ ⟨m, p', c', (layF s ((fromN x.n x.turn + x.fin : Nat) : Int) (leavesF x.turn (x.said.length : Int) y.bs)).1, q', e', appS x y' (layF s ((fromN x.n x.turn + x.fin : Nat) : Int) (leavesF x.turn (x.said.length : Int) y.bs)).2⟩ n t said false y.bs (layF s ((fromN x.n x.turn + x.fin : Nat) : Int) (leavesF x.turn (x.said.length : Int) y.bs)).2
    rw [h1, h2, h3, hsl]
    obtain ⟨R, hR⟩ : ∃ R, R = layF s ((fromN n t + endF t said : Nat) : Int) (leavesF t (said.length : Nat) y.bs) := ⟨_, rfl⟩
    rw [← hR] at hal hlo ⊢
    rw [hl0] at hlo
    rcases hal with ⟨a1, a2, a3⟩ | ⟨a0, a1, a2, a3⟩
    · refine .inr (.inl ⟨ha, a1, rfl, ⟨?_, ?_, ?_, ?_, ?_, a2⟩, a3⟩)
      · show (appS x y' R.2).n = n; rw [appS, if_pos a1]; exact h1
      · show (appS x y' R.2).turn = t; rw [appS, if_pos a1]; exact h2
      · show bsL (appS x y' R.2).said = said ++ [y.bs]; rw [appS, if_pos a1, ← hy', ← h5, bsL, List.map_append]; rfl
      · show (appS x y' R.2).fin = endF t (said ++ [y.bs])
        rw [appS, if_pos a1, endF, laidF_snoc, List.length_append, leavesF_len, hy']
        show x.fin + _ = _
        rw [h3]; rfl
      · show (appS x y' R.2).broken = false; rw [appS, if_pos a1]; exact h4
    · refine .inr (.inr ⟨ha, a0, a1, rfl, a2, by simp only [List.length_nil] at hlo; show R.1.loose.length ≤ 2000; omega, ⟨?_, hs.some_, hs.few, hs.short⟩, a3⟩)
      show bsL (appS x y' R.2).said = said; rw [appS, if_neg (by rw [a1]; decide)]; exact h5
theorem chk_pure (L : LG) (n : Nat) (t : Int) (said : List (List UInt8)) (y : LBy) (h : LgOk L n t said) (ht1 : t + 1 ≤ 4294967295) :
    roomC L.x y.bs = wantF n t said true y.bs ∧ (roomC L.x y.bs = 0 → ∀ (y' : LBy) p' c' q' e', y'.bs = y.bs → TakeR L ⟨L.m, p', c', (begF L.x.n (upT L.x.turn) y.bs L.s).1, q', e', chkS L.x y' (begF L.x.n (upT L.x.turn) y.bs L.s).2⟩ n t said true y.bs (begF L.x.n (upT L.x.turn) y.bs L.s).2) := by
  obtain ⟨m, p, c, s, q, e, x⟩ := L
  have hs := h.tells
  obtain ⟨tail, hL, hfr⟩ := h.live
  have hn := hL.hn
  have htt := hL.ht
  have h1 : x.n = n := h.num
  have h2 : x.turn = t := h.turn
  have h4 : x.broken = false := h.broken
  have h5 : bsL x.said = said := h.says
  have hl0 : s.loose = [] := hL.loose
  have hup : upT x.turn = t + 1 := by rw [h2, upT, wu32 _ (by omega) ht1]
  have href : refF x y.bs = if 40000 < y.bs.length then 3 else 0 := by rw [refF, h4]; rfl
  have hroom : roomC x y.bs = wantF n t said true y.bs := by
    rw [roomC, href, wantF]
    by_cases hq : 40000 < y.bs.length
    · rw [if_pos hq, if_pos hq, if_neg (by decide)]
    · rw [if_neg hq, if_neg hq, if_pos rfl, h1, hup, if_pos rfl]
      by_cases hz : n < secN y.bs.length
      · rw [if_pos (.inl hz), if_pos hz]
      · rw [if_neg (by omega), if_neg hz]
  refine ⟨hroom, fun ha y' p' c' q' e' hy' => ?_⟩
  · replace ha : roomC x y.bs = 0 := ha
    rw [hroom] at ha
    have hb4 : y.bs.length ≤ 40000 := by
      unfold wantF at ha
      split at ha
      · cases ha
      · omega
    have hro : secN y.bs.length ≤ n := by
      unfold wantF at ha
      rw [if_neg (by omega), if_pos rfl] at ha
      split at ha
      · cases ha
      · omega
    have hal := chk_live ⟨tail, hL, hfr⟩ y.bs hb4 hro ht1
    have hlo := begF_loose n (t + 1) y.bs hb4 s
    show TakeR ⟨m, p, c, s, q, e, x⟩ ⟨m, p', c', (begF x.n (upT x.turn) y.bs s).1, q', e', chkS x y' (begF x.n (upT x.turn) y.bs s).2⟩ n t said true y.bs (begF x.n (upT x.turn) y.bs s).2
    rw [h1, hup]
    obtain ⟨R, hR⟩ : ∃ R, R = begF n (t + 1) y.bs s := ⟨_, rfl⟩
    rw [← hR] at hal hlo ⊢
    rw [hl0] at hlo
    rcases hal with ⟨a1, a2, a3⟩ | ⟨a0, a1, a2, a3⟩
    · refine .inr (.inl ⟨ha, a1, rfl, ⟨?_, ?_, ?_, ?_, ?_, a2⟩, a3⟩)
      · show (chkS x y' R.2).n = n; rw [chkS, if_pos a1]; exact h1
      · show (chkS x y' R.2).turn = t + 1; rw [chkS, if_pos a1]; exact hup
      · show bsL (chkS x y' R.2).said = [y.bs]; rw [chkS, if_pos a1, ← hy']; rfl
      · show (chkS x y' R.2).fin = endF (t + 1) [y.bs]
        rw [chkS, if_pos a1, endF, laidF, laidF, List.append_nil, leavesF_len, ← hy']
      · show (chkS x y' R.2).broken = false; rw [chkS, if_pos a1]; exact h4
    · refine .inr (.inr ⟨ha, a0, a1, rfl, a2, by simp only [List.length_nil] at hlo; show R.1.loose.length ≤ 2000; omega, ⟨?_, hs.some_, hs.few, hs.short⟩, a3⟩)
      show bsL (chkS x y' R.2).said = said; rw [chkS, if_neg (by rw [a1]; decide)]; exact h5
/-! logs whose entries are read alone -/
abbrev zI (b g : Nat) (L : LG) : Wk.Item := both (dkI b L.m L.p L.c L.s) (Wk.box g 73 (cWal b L.q L.e L.x))
/-- what is known of such a log's entries. -/
def ZF (L : LG) (M : Nat → Prop) (w : World) : Prop := L.x.said.length ≤ L.e ∧ Stable M w (GlF L.q L.x.said) ∧ Stable M w (AllBy L.x.said)
theorem St.hold2 {w0 : World} {M0 : Nat → Prop} {ds : List Deferred} {a : Act} {w : World} {l : List Value} {bs : List Wk.Item} {fs : List (World → Prop)} (S : St w0 M0 ds a w l bs fs) (x y : Wk.Item) [SubL [y, x] bs] [h1 : HasIt bs x] [h2 : HasIt bs y] : (both x y).holds w := ⟨S.it x, S.it y, fun k hx hy => St.apart2 S y x k hy hx⟩
theorem St.new2 {w0 : World} {M0 : Nat → Prop} {ds : List Deferred} {a : Act} {w : World} {l : List Value} {bs : List Wk.Item} {fs : List (World → Prop)} (S : St w0 M0 ds a w l bs fs) (x y : Wk.Item) [h1 : HasIt bs x] [h2 : HasIt bs y] (hx : x.own = true := by rfl) (hy : y.own = true := by rfl) : ∀ k, (both x y).foot k → M0 k ∨ w0.heap.size ≤ k := fun k hk => hk.elim (S.itNew x hx k) (S.itNew y hy k)
theorem St.lend2 {w0 : World} {M0 : Nat → Prop} {ds : List Deferred} {a : Act} {w : World} {l : List Value} {bs : List Wk.Item} {fs : List (World → Prop)} (_ : St w0 M0 ds a w l bs fs) (x y : Wk.Item) (Mr : Nat → Prop) [h1 : HasIt bs x] [h2 : HasIt bs y] [h3 : HasIt bs (ext Mr)] {Φ : World → Prop} (h : Stable (foots bs) w Φ) : Stable (fun k => (both x y).foot k ∨ Mr k) w Φ :=
  h.less fun _ _ hk => hk.elim (fun h => h.elim (fun h => ⟨x, h1.mem, h⟩) (fun h => ⟨y, h2.mem, h⟩)) (fun h => ⟨ext Mr, h3.mem, h⟩)
theorem St.entFact {w0 : World} {M0 : Nat → Prop} {ds : List Deferred} {a : Act} {w : World} {l : List Value} {bs bs' : List Wk.Item} {fs : List (World → Prop)} (S : St w0 M0 ds a w l bs fs) (ys : List LBy) [hd : DropI bs (entI ys) bs'] : St w0 M0 ds a w l bs' (AllBy ys :: fs) := by
  have S1 := S.perm _ hd.perm
  have hap := List.pairwise_cons.1 S1.wd.apart
  have hr : (entI ys).holds w := S1.wd.held _ (by simp)
  have S2 : St w0 M0 ds a w l bs' fs := ⟨S1.slots, S1.defers, S1.wd.sub (.cons _ (.refl _)) (.refl _)⟩
  exact S2.add fun w' ha y hy => gl_loc (fun ad hp => ha.blk ((hr y hy).1 ad hp) (fun ⟨it, hi, hk⟩ => hap.1 it hi ad.block ⟨y, hy, ad, hp, rfl⟩ hk)) (hr y hy).2
theorem append_z (g b m : Nat) (p : Option Addr) (c : Nat) (s : DS) (q : Option Addr) (e : Nat) (x : WS) (y : LBy) (Mr : Nat → Prop) (w0 : World) (hn : x.n ≤ 1000) (hfi : x.fin ≤ x.n) (hs0 : 0 < x.said.length) (hsl : x.said.length ≤ 1000000) (ht : 0 ≤ x.turn ∧ x.turn ≤ 4294967295) (hyl : y.bs.length ≤ 1000000) (hl : s.loose.length ≤ 980000)
    (hMr : ∀ k, Mr k → k < w0.heap.size ∧ ¬ (zI b g ⟨m, p, c, s, q, e, x⟩).foot k) (hd : (zI b g ⟨m, p, c, s, q, e, x⟩).holds w0) (f0 : Stable (fun k => (zI b g ⟨m, p, c, s, q, e, x⟩).foot k ∨ Mr k) w0 (GlF y.p y.bs)) (hz : ZF ⟨m, p, c, s, q, e, x⟩ (fun k => (zI b g ⟨m, p, c, s, q, e, x⟩).foot k ∨ Mr k) w0) :
    Ret Try.prog 24 [.pointer (some ⟨g, 0, none⟩), .slice y.p y.bs.length y.c] w0 (zI b g ⟨m, p, c, s, q, e, x⟩).foot fun v w' => ∃ L' : LG, (zI b g L').holds w' ∧ (∀ k, (zI b g L').foot k → (zI b g ⟨m, p, c, s, q, e, x⟩).foot k ∨ w0.heap.size ≤ k) ∧ ZF L' (fun k => (zI b g L').foot k ∨ Mr k) w' ∧
      ((roomF x y.bs ≠ 0 ∧ v = .int .i64 (roomF x y.bs) ∧ L' = ⟨m, p, c, s, q, e, x⟩) ∨ (roomF x y.bs = 0 ∧ v = .int .i64 (layF s ((fromN x.n x.turn + x.fin : Nat) : Int) (leavesF x.turn (x.said.length : Int) y.bs)).2 ∧ ∃ y' p' c' q' e', y'.bs = y.bs ∧ L' = ⟨m, p', c', (layF s ((fromN x.n x.turn + x.fin : Nat) : Int) (leavesF x.turn (x.said.length : Int) y.bs)).1, q', e', appS x y' (layF s ((fromN x.n x.turn + x.fin : Nat) : Int) (leavesF x.turn (x.said.length : Int) y.bs)).2⟩)) := by
  obtain ⟨hzc, hz1, hz2⟩ := hz
  replace hzc : x.said.length ≤ e := hzc
  have hfr : fromN x.n x.turn ≤ 1002 := by
    unfold fromN
    rcases (show (x.turn % 2).toNat = 0 ∨ (x.turn % 2).toNat = 1 by omega) with h | h <;> rw [h] <;> omega
  refine enterD Try.func24 rfl rfl (Wd.it2LentM (x := dkI b m p c s) (y := Wk.box g 73 (cWal b q e x)) (fs := [GlF q x.said, AllBy x.said, GlF y.p y.bs]) hd rfl rfl hMr (by simp only [List.mem_cons, List.not_mem_nil, or_false]; rintro Φ (rfl | rfl | rfl); exact hz1; exact hz2; exact f0)) (fun a S => ?_)
  simp only [Try.ntmps24, List.length_cons, List.length_nil, Nat.reduceAdd, Nat.reduceSub, List.replicate_succ, List.replicate_zero, List.cons_append, List.nil_append] at S
  replace S := S.front (Wk.box g 73 (cWal b q e x))
  refine c_seq ?_
  refine c_region ?_
  refine sa S ?_; clear S; intro b4 a w S
  refine wl_nil ?_
  refine xtn ?_
  iterate 2 (refine c_seq ?_)
  refine c_region ?_
  iterate 2 (refine sq S ?_; clear S; intro a S)
  refine sr S (refuses_c g b q e x y _ (BoxF.stable (S.boxF g) (fun h => h))) ?_; clear S; rintro _ a w rfl S
  refine sq S ?_; clear S; intro a S
  refine wl_nil ?_
  refine xtn ?_
  refine c_seq ?_
  refine c_region ?_
  iterate 2 (refine sq S ?_; clear S; intro a S)
  refine wl_nil ?_
  refine xtn ?_
  refine c_cond S (fun h2 => ?_) (fun h2 => ?_)
  · refine c_seq ?_
    refine c_region ?_
    refine sq S ?_; clear S; intro a S
    refine sw S ?_; clear S; intro a w S
    refine wl_nil ?_
    refine xtn ?_
    refine c_ret ?_
    refine xtr ?_
    have he : refF x y.bs ≠ 0 := by simpa using h2
    have hR : roomF x y.bs = refF x y.bs := by rw [roomF, if_neg he]
    have hh := St.hold2 S (dkI b m p c s) (Wk.box g 73 (cWal b q e x))
    have hg1 := St.lend2 S (dkI b m p c s) (Wk.box g 73 (cWal b q e x)) Mr (S.mem.fact (GlF q x.said))
    have hg2 := St.lend2 S (dkI b m p c s) (Wk.box g 73 (cWal b q e x)) Mr (S.mem.fact (AllBy x.said))
    refine endD1 S ⟨⟨m, p, c, s, q, e, x⟩, hh, fun k hk => .inl hk, ⟨hzc, hg1, hg2⟩, .inl ?_⟩
    rw [hR]
    exact ⟨he, rfl, rfl⟩
  · refine c_skip ?_
    refine xtn ?_
    refine c_seq ?_
    have he : refF x y.bs = 0 := by simpa using h2
    obtain ⟨hy4, hbk⟩ := refF_zero he
    refine c_region ?_
    iterate 2 (refine sq S ?_; clear S; intro a S)
    refine sr S (sectors_c (y.bs.length : Int) _) ?_; clear S; rintro _ a w rfl S
    rw [secF_nat _ hy4] at S
    refine sq S ?_; clear S; intro a S
    refine wl_nil ?_
    refine xtn ?_
    iterate 2 (refine c_seq ?_)
    refine c_drawD [(0, true), (1, true), (2, true), (3, true), (4, true), (5, true), (6, true), (7, true), (8, true), (9, true), (10, true), (11, true)] [] S ?_; clear S; intro w S
    iterate 12 (refine dq S ?_; clear S; intro a S)
    refine dn ?_
    refine xtn ?_
    refine c_cond S (fun h5 => ?_) (fun h5 => ?_)
    · refine c_seq ?_
      refine c_region ?_
      refine sw S ?_; clear S; intro a w S
      refine wl_nil ?_
      refine xtn ?_
      refine c_ret ?_
      refine xtr ?_
      have hro : x.n - x.fin < secN y.bs.length := by
        have := of_decide_eq_true h5
        rw [w64 _ (by omega) (by omega)] at this; omega
      have hR : roomF x y.bs = 6 := by rw [roomF, if_pos he, if_pos hro]
      have hh := St.hold2 S (dkI b m p c s) (Wk.box g 73 (cWal b q e x))
      have hg1 := St.lend2 S (dkI b m p c s) (Wk.box g 73 (cWal b q e x)) Mr (S.mem.fact (GlF q x.said))
      have hg2 := St.lend2 S (dkI b m p c s) (Wk.box g 73 (cWal b q e x)) Mr (S.mem.fact (AllBy x.said))
      refine endD1 S ⟨⟨m, p, c, s, q, e, x⟩, hh, fun k hk => .inl hk, ⟨hzc, hg1, hg2⟩, .inl ?_⟩
      rw [hR]
      exact ⟨by decide, rfl, rfl⟩
    · refine c_skip ?_
      refine xtn ?_
      refine c_seq ?_
      have hro : ¬ x.n - x.fin < secN y.bs.length := by
        have := of_decide_eq_false h5
        rw [w64 _ (by omega) (by omega)] at this; omega
      refine c_region ?_
      refine sq S ?_; clear S; intro a S
      refine sdefc S ?_; clear S; intro a S
      refine wl_nil ?_
      refine xtn ?_
      refine c_seq ?_
      refine c_region ?_
      refine sq S ?_; clear S; intro a S
      replace S := S.addNil 5 1
      refine sap S (by simp only [maxLen]; omega) (by omega) ?_; clear S; rintro p8 c8 a w - S
      rw [show ([] : List Value) ++ encL y.bs = encL y.bs from rfl, Nat.zero_add] at S
      have hc8 := own_le (S.row p8 y.bs.length)
      replace S := St.rowEnt S ⟨p8, c8, y.bs⟩ (S.row p8 y.bs.length)
      obtain ⟨y', hy'⟩ : ∃ y' : LBy, y' = ⟨p8, c8, y.bs⟩ := ⟨_, rfl⟩
      rw [← hy'] at S
      obtain ⟨R, hR⟩ : ∃ R, R = layF s ((fromN x.n x.turn + x.fin : Nat) : Int) (leavesF x.turn (x.said.length : Int) y.bs) := ⟨_, rfl⟩
      have hro0 : roomF x y.bs = 0 := by rw [roomF, if_pos he, if_neg hro]
      have hll : (leavesF x.turn (x.said.length : Int) y.bs).length ≤ 834 := by rw [leavesF_len]; exact secN_le _ hy4
      refine sq S ?_; clear S; intro a S
      refine wl_nil ?_
      refine xtn ?_
      iterate 2 (refine c_seq ?_)
      refine c_drawL 29 [(0, true), (1, true), (2, true), (3, true), (4, true), (5, true), (6, true), (7, true), (8, true), (10, true), (11, true), (12, true), (13, true), (15, true), (16, true), (17, true), (18, true), (19, true), (20, true), (21, true), (22, true), (23, true), (24, true), (25, true), (26, true), (9, false), (14, true), (27, false), (28, false), (29, false)] [Wk.box g 73 (cWal b q e x)] S ?_; clear S; intro w S
      iterate 24 (refine dqL S ?_; clear S; intro a S)
      rw [wu32 (x.said.length : Int) (by omega) (by omega)] at S
      refine dqL S ?_; clear S; intro a S
      refine dlL ?_
      refine sr S (from_c b x.n x.turn hn ht _) ?_; clear S; rintro _ a w rfl S
      refine deL S ?_
      refine dqL S ?_; clear S; intro a S
      rw [show IntKind.i64.wrap ((fromN x.n x.turn : Int) + (x.fin : Int)) = ((fromN x.n x.turn + x.fin : Nat) : Int) from by rw [w64 _ (by omega) (by omega)]; rfl] at S
      refine dlL ?_
      have hlt := foots_lt S
      refine sr S (leaves_f x.turn (x.said.length : Int) p8 y.bs.length c8 _) ?_; clear S; rintro _ a w ⟨h0, h1, h2', rfl, ⟨n0, n1, n2⟩, e0, e1, e2⟩ S
      replace S := S.add (Φ := BoxF h0 35 [.slice p8 y.bs.length c8]) (BoxF.stable e0 (fun hm => by have := hlt _ hm; omega))
      replace S := S.add (Φ := BoxF h1 30 [.int .u32 x.turn]) (BoxF.stable e1 (fun hm => by have := hlt _ hm; omega))
      replace S := S.add (Φ := BoxF h2' 30 [.int .u32 (x.said.length : Int)]) (BoxF.stable e2 (fun hm => by have := hlt _ hm; omega))
      refine deL S ?_
      refine dlL ?_
      have hgl : Stable (dkI b m p c s).foot w (GlF y'.p y'.bs) := St.entGl S (fun k hk hk2 => St.apart2 S (entI [y']) (dkI b m p c s) k hk hk2) (by simp)
      rw [hy'] at hgl
      refine sit (dkI b m p c s) S (lay_c 74 [.pointer (some ⟨h0, 0, none⟩), .pointer (some ⟨h1, 0, none⟩), .pointer (some ⟨h2', 0, none⟩)] (leavesF x.turn (x.said.length : Int) y.bs) b m p c s (fromN x.n x.turn + x.fin) [GlF p8 y.bs, BoxF h2' 30 [.int .u32 (x.said.length : Int)], BoxF h1 30 [.int .u32 x.turn], BoxF h0 35 [.slice p8 y.bs.length c8]] _ (by omega) (by omega) (S.it (dkI b m p c s)) (fun Φ hΦ => by
        rcases List.mem_cons.1 hΦ with rfl | hΦ
        · exact hgl
        · exact S.lend (dkI b m p c s) (S.wd.facts Φ (List.mem_append_left _ hΦ))) (fun M w1 hM hF => leaves_it x.turn (x.said.length : Int) ht (by omega) h0 h1 h2' y.bs p8 c8 hy4 hc8 w1 M hM (hF _ (by simp)) (hF _ (by simp)) (hF _ (by simp)) (hF _ (by simp)))) rfl ?_; clear S hgl; rintro _ a w ⟨rfl, p2, c2, hh, hn2⟩ hS
      have S := hS (dkI b m p2 c2 (layF s ((fromN x.n x.turn + x.fin : Nat) : Int) (leavesF x.turn (x.said.length : Int) y.bs)).1) hh hn2
      clear hS
      rw [← hR] at S
      refine deL S ?_
      refine dlL ?_
      refine sw S ?_; clear S; intro a w S
      refine dzL ?_
      refine xtn ?_
      refine c_seq ?_
      refine c_region ?_
      iterate 2 (refine sq S ?_; clear S; intro a S)
      refine wl_nil ?_
      refine xtn ?_
      refine c_cond S (fun h10 => ?_) (fun h10 => ?_)
      · refine c_seq ?_
        have hR2 : R.2 = 0 := of_decide_eq_true h10
        obtain ⟨aq, hq⟩ := gl_some (S.mem.fact (GlF q x.said)).now hs0 (by decide)
        have hLe : LeC x.said.length e := ⟨hzc⟩
        have hLl : LeC x.said.length x.said.length := ⟨Nat.le_refl _⟩
        have hL0 : LeC 0 x.said.length := ⟨Nat.zero_le _⟩
        subst hq
        refine c_drawL 21 [(0, true), (1, true), (2, true), (3, true), (4, true), (5, true), (6, true), (7, true), (8, true), (9, true), (10, true), (11, true), (12, true), (13, true), (14, true), (15, true), (16, true), (17, false), (18, false), (19, false), (20, true), (21, false)] [Wk.box g 73 (cWal b (some aq) e x)] S ?_; clear S; intro w S
        iterate 17 (refine dqL S ?_; clear S; intro a S)
        refine dlL ?_
        refine sn S ?_; clear S; intro b80 a w S
        refine deL S ?_
        refine dlL ?_
        have hrow := (S.mem.fact (GlF (some aq) x.said)).now.1
        refine sapG aq x.said.length (encL x.said) S (by rw [encL_len]; rfl) (fun j u hj => hrow.2 _ rfl j u hj) (by omega) (by simp only [maxLen]; omega) (by omega) ?_
        clear S; intro g2 c2' a w S
        rw [show encL x.said ++ [.slice p8 y.bs.length c8] = encL (x.said ++ [y']) from by rw [hy', encL_append]; rfl] at S
        refine deL S ?_
        refine dlL ?_
        refine sq S ?_; clear S; intro a S
        refine deL S ?_
        refine dqL S ?_; clear S; intro a S
        refine dlL ?_
        refine sw S ?_; clear S; intro a w S
        refine dzL ?_
        refine xtn ?_
        refine c_region ?_
        iterate 6 (refine sq S ?_; clear S; intro a S)
        rw [show IntKind.i64.wrap ((x.fin : Int) + (secN y.bs.length : Int)) = ((x.fin + secN y.bs.length : Nat) : Int) from by rw [w64 _ (by omega) (by omega)]; rfl] at S
        iterate 2 (refine sq S ?_; clear S; intro a S)
        refine sw S ?_; clear S; intro a w S
        refine wl_nil ?_
        refine xtn ?_
        refine c_seq ?_
        refine c_region ?_
        refine sq S ?_; clear S; intro a S
        refine sw S ?_; clear S; intro a w S
        refine wl_nil ?_
        refine xtn ?_
        refine c_ret ?_
        obtain ⟨x', hx'⟩ : ∃ x' : WS, x' = { x with said := x.said ++ [y'], fin := x.fin + secN y.bs.length } := ⟨_, rfl⟩
        have hya : y'.bs = y.bs := by rw [hy']
        have hap : appS x y' R.2 = x' := by rw [appS, if_pos hR2, hx', hya]
        have hbr : brkF x' R.2 = x' := by rw [brkF, hR2]; simp
        have hcap := own_le (S.row (some ⟨g2, 0, none⟩) (x.said.length + 1))
        replace S := S.rowToGl (some ⟨g2, 0, none⟩) (x.said ++ [y']) (e := 35) (sz := 1) (n := x.said.length + 1) (c := c2') (fun _ _ _ _ => trivial)
        replace S := St.entFact S [y']
        replace S := S.add (Φ := AllBy (x.said ++ [y'])) (fun w' ha z hz => by
          rcases List.mem_append.1 hz with hz | hz
          · exact (S.mem.fact (AllBy x.said)) w' ha z hz
          · exact (S.mem.fact (AllBy [y'])) w' ha z hz)
        replace S := S.sub [Wk.box b4 38 [.int .i64 R.2], Wk.box g 73 [.pointer (some ⟨b, 0, none⟩), .int .i64 (x.n : Int), .int .u32 x.turn, .slice (some ⟨g2, 0, none⟩) (x.said.length + 1) c2', .int .i64 ((x.fin + secN y.bs.length : Nat) : Int), .bool x.broken], dkI b m p2 c2 R.1, ext Mr] [AllBy (x.said ++ [y']), GlF (some ⟨g2, 0, none⟩) (x.said ++ [y'])]
        rw [show x.said.length + 1 = x'.said.length from by rw [hx']; simp] at S hcap
        replace S := St.items S (bs' := [Wk.box b4 38 [.int .i64 R.2], Wk.box g 73 (cWal b (some ⟨g2, 0, none⟩) c2' x'), dkI b m p2 c2 R.1, ext Mr]) (by rw [hx'])
        have hne : ¬ b4 = g := St.apart2 S (Wk.box b4 38 [.int .i64 R.2]) (Wk.box g 73 (cWal b (some ⟨g2, 0, none⟩) c2' x')) b4 rfl
        refine endDef1 (Wk.box g 73 (cWal b (some ⟨g2, 0, none⟩) c2' x')) (Wk.box g 73 (cWal b (some ⟨g2, 0, none⟩) c2' (brkF x' R.2))) S rfl ((breaks_d g b4 b (some ⟨g2, 0, none⟩) c2' x' R.2 .returning w (S.box g) (BoxF.stable (S.boxF b4) hne)).mono fun _ _ _ h => h) (fun _ h => h) (fun w' hwd => ?_)
        rw [hbr] at hwd
        have S3 := St.ofWd hwd
        have hh := St.hold2 S3 (dkI b m p2 c2 R.1) (Wk.box g 73 (cWal b (some ⟨g2, 0, none⟩) c2' x'))
        have h1 := St.new2 S3 (dkI b m p2 c2 R.1) (Wk.box g 73 (cWal b (some ⟨g2, 0, none⟩) c2' x'))
        have hg1 := St.lend2 S3 (dkI b m p2 c2 R.1) (Wk.box g 73 (cWal b (some ⟨g2, 0, none⟩) c2' x')) Mr (S3.mem.fact (GlF (some ⟨g2, 0, none⟩) (x.said ++ [y'])))
        have hg2 := St.lend2 S3 (dkI b m p2 c2 R.1) (Wk.box g 73 (cWal b (some ⟨g2, 0, none⟩) c2' x')) Mr (S3.mem.fact (AllBy (x.said ++ [y'])))
        have hsd : x'.said = x.said ++ [y'] := by rw [hx']
        refine ⟨⟨m, p2, c2, R.1, some ⟨g2, 0, none⟩, c2', x'⟩, hh, h1, ⟨hcap, by show Stable _ w' (GlF _ x'.said); rw [hsd]; exact hg1, by show Stable _ w' (AllBy x'.said); rw [hsd]; exact hg2⟩, .inr ⟨hro0, by rw [hR], y', p2, c2, some ⟨g2, 0, none⟩, c2', hya, ?_⟩⟩
        rw [← hR, hap]
      · refine c_skip ?_
        refine xtn ?_
        refine c_seq ?_
        refine c_region ?_
        refine sq S ?_; clear S; intro a S
        refine sw S ?_; clear S; intro a w S
        refine wl_nil ?_
        refine xtn ?_
        refine c_ret ?_
        have hR2 : R.2 ≠ 0 := of_decide_eq_false h10
        have hap : appS x y' R.2 = { x with broken := true } := by rw [appS, if_neg hR2]
        have hbr : brkF x R.2 = { x with broken := true } := by simp [brkF, hR2]
        have S := S.sub [Wk.box b4 38 [.int .i64 R.2], Wk.box g 73 (cWal b q e x), dkI b m p2 c2 R.1, ext Mr] [GlF q x.said, AllBy x.said]
        have hne : ¬ b4 = g := St.apart2 S (Wk.box b4 38 [.int .i64 R.2]) (Wk.box g 73 (cWal b q e x)) b4 rfl
        refine endDef1 (Wk.box g 73 (cWal b q e x)) (Wk.box g 73 (cWal b q e (brkF x R.2))) S rfl ((breaks_d g b4 b q e x R.2 .returning w (S.box g) (BoxF.stable (S.boxF b4) hne)).mono fun _ _ _ h => h) (fun _ h => h) (fun w' hwd => ?_)
        rw [hbr] at hwd
        have S3 := St.ofWd hwd
        have hh := St.hold2 S3 (dkI b m p2 c2 R.1) (Wk.box g 73 (cWal b q e { x with broken := true }))
        have h1 := St.new2 S3 (dkI b m p2 c2 R.1) (Wk.box g 73 (cWal b q e { x with broken := true }))
        have hg1 := St.lend2 S3 (dkI b m p2 c2 R.1) (Wk.box g 73 (cWal b q e { x with broken := true })) Mr (S3.mem.fact (GlF q x.said))
        have hg2 := St.lend2 S3 (dkI b m p2 c2 R.1) (Wk.box g 73 (cWal b q e { x with broken := true })) Mr (S3.mem.fact (AllBy x.said))
        refine ⟨⟨m, p2, c2, R.1, q, e, { x with broken := true }⟩, hh, h1, ⟨hzc, hg1, hg2⟩, .inr ⟨hro0, by rw [hR], y', p2, c2, q, e, by rw [hy'], ?_⟩⟩
        rw [← hR, hap]
theorem chk_z (g b m : Nat) (p : Option Addr) (c : Nat) (s : DS) (q : Option Addr) (e : Nat) (x : WS) (y : LBy) (Mr : Nat → Prop) (w0 : World) (hn : x.n ≤ 1000) (ht : 0 ≤ x.turn ∧ x.turn ≤ 4294967295) (hyl : y.bs.length ≤ 1000000) (hl : s.loose.length ≤ 980000)
    (hMr : ∀ k, Mr k → k < w0.heap.size ∧ ¬ (zI b g ⟨m, p, c, s, q, e, x⟩).foot k) (hd : (zI b g ⟨m, p, c, s, q, e, x⟩).holds w0) (f0 : Stable (fun k => (zI b g ⟨m, p, c, s, q, e, x⟩).foot k ∨ Mr k) w0 (GlF y.p y.bs)) (hz : ZF ⟨m, p, c, s, q, e, x⟩ (fun k => (zI b g ⟨m, p, c, s, q, e, x⟩).foot k ∨ Mr k) w0) :
    Ret Try.prog 25 [.pointer (some ⟨g, 0, none⟩), .slice y.p y.bs.length y.c] w0 (zI b g ⟨m, p, c, s, q, e, x⟩).foot fun v w' => ∃ L' : LG, (zI b g L').holds w' ∧ (∀ k, (zI b g L').foot k → (zI b g ⟨m, p, c, s, q, e, x⟩).foot k ∨ w0.heap.size ≤ k) ∧ ZF L' (fun k => (zI b g L').foot k ∨ Mr k) w' ∧
      ((roomC x y.bs ≠ 0 ∧ v = .int .i64 (roomC x y.bs) ∧ L' = ⟨m, p, c, s, q, e, x⟩) ∨ (roomC x y.bs = 0 ∧ v = .int .i64 (begF x.n (upT x.turn) y.bs s).2 ∧ ∃ y' p' c' q' e', y'.bs = y.bs ∧ L' = ⟨m, p', c', (begF x.n (upT x.turn) y.bs s).1, q', e', chkS x y' (begF x.n (upT x.turn) y.bs s).2⟩)) := by
  obtain ⟨hzc, hz1, hz2⟩ := hz
  replace hzc : x.said.length ≤ e := hzc
  have hut := upT_range x.turn
  refine enterD Try.func25 rfl rfl (Wd.it2LentM (x := dkI b m p c s) (y := Wk.box g 73 (cWal b q e x)) (fs := [GlF q x.said, AllBy x.said, GlF y.p y.bs]) hd rfl rfl hMr (by simp only [List.mem_cons, List.not_mem_nil, or_false]; rintro Φ (rfl | rfl | rfl); exact hz1; exact hz2; exact f0)) (fun a S => ?_)
  simp only [Try.ntmps25, List.length_cons, List.length_nil, Nat.reduceAdd, Nat.reduceSub, List.replicate_succ, List.replicate_zero, List.cons_append, List.nil_append] at S
  replace S := S.front (Wk.box g 73 (cWal b q e x))
  refine c_seq ?_
  refine c_region ?_
  refine sa S ?_; clear S; intro b4 a w S
  refine wl_nil ?_
  refine xtn ?_
  iterate 2 (refine c_seq ?_)
  refine c_region ?_
  iterate 2 (refine sq S ?_; clear S; intro a S)
  refine sr S (refuses_c g b q e x y _ (BoxF.stable (S.boxF g) (fun h => h))) ?_; clear S; rintro _ a w rfl S
  refine sq S ?_; clear S; intro a S
  refine wl_nil ?_
  refine xtn ?_
  refine c_seq ?_
  refine c_region ?_
  iterate 2 (refine sq S ?_; clear S; intro a S)
  refine wl_nil ?_
  refine xtn ?_
  refine c_cond S (fun h2 => ?_) (fun h2 => ?_)
  · refine c_seq ?_
    refine c_region ?_
    refine sq S ?_; clear S; intro a S
    refine sw S ?_; clear S; intro a w S
    refine wl_nil ?_
    refine xtn ?_
    refine c_ret ?_
    refine xtr ?_
    have he : refF x y.bs ≠ 0 := by simpa using h2
    have hR : roomC x y.bs = refF x y.bs := by rw [roomC, if_neg he]
    have hh := St.hold2 S (dkI b m p c s) (Wk.box g 73 (cWal b q e x))
    have hg1 := St.lend2 S (dkI b m p c s) (Wk.box g 73 (cWal b q e x)) Mr (S.mem.fact (GlF q x.said))
    have hg2 := St.lend2 S (dkI b m p c s) (Wk.box g 73 (cWal b q e x)) Mr (S.mem.fact (AllBy x.said))
    refine endD1 S ⟨⟨m, p, c, s, q, e, x⟩, hh, fun k hk => .inl hk, ⟨hzc, hg1, hg2⟩, .inl ?_⟩
    rw [hR]
    exact ⟨he, rfl, rfl⟩
  · refine c_skip ?_
    refine xtn ?_
    refine c_seq ?_
    have he : refF x y.bs = 0 := by simpa using h2
    obtain ⟨hy4, hbk⟩ := refF_zero he
    refine c_region ?_
    iterate 2 (refine sq S ?_; clear S; intro a S)
    refine sr S (sectors_c (y.bs.length : Int) _) ?_; clear S; rintro _ a w rfl S
    rw [secF_nat _ hy4] at S
    refine sq S ?_; clear S; intro a S
    refine wl_nil ?_
    refine xtn ?_
    iterate 2 (refine c_seq ?_)
    refine c_region ?_
    iterate 8 (refine sq S ?_; clear S; intro a S)
    iterate 7 (refine gQ S ?_; clear S; intro a S)
    refine sq S ?_; clear S; intro a S
    refine wl_nil ?_
    refine xtn ?_
    refine c_cond S (fun h5 => ?_) (fun h5 => ?_)
    · refine c_seq ?_
      refine c_region ?_
      refine sw S ?_; clear S; intro a w S
      refine wl_nil ?_
      refine xtn ?_
      refine c_ret ?_
      refine xtr ?_
      have hro : x.n < secN y.bs.length ∨ upT x.turn = 0 := by
        rw [show IntKind.u32.wrap (x.turn + 1) = upT x.turn from rfl] at h5
        simp at h5; omega
      have hR : roomC x y.bs = 6 := by rw [roomC, if_pos he, if_pos hro]
      have hh := St.hold2 S (dkI b m p c s) (Wk.box g 73 (cWal b q e x))
      have hg1 := St.lend2 S (dkI b m p c s) (Wk.box g 73 (cWal b q e x)) Mr (S.mem.fact (GlF q x.said))
      have hg2 := St.lend2 S (dkI b m p c s) (Wk.box g 73 (cWal b q e x)) Mr (S.mem.fact (AllBy x.said))
      refine endD1 S ⟨⟨m, p, c, s, q, e, x⟩, hh, fun k hk => .inl hk, ⟨hzc, hg1, hg2⟩, .inl ?_⟩
      rw [hR]
      exact ⟨by decide, rfl, rfl⟩
    · refine c_skip ?_
      refine xtn ?_
      refine c_seq ?_
      have hro : ¬ (x.n < secN y.bs.length ∨ upT x.turn = 0) := by
        rw [show IntKind.u32.wrap (x.turn + 1) = upT x.turn from rfl] at h5
        simp at h5; omega
      refine c_region ?_
      refine sq S ?_; clear S; intro a S
      refine sdefc S ?_; clear S; intro a S
      refine wl_nil ?_
      refine xtn ?_
      refine c_seq ?_
      refine c_region ?_
      refine sq S ?_; clear S; intro a S
      replace S := S.addNil 5 1
      refine sap S (by simp only [maxLen]; omega) (by omega) ?_; clear S; rintro p8 c8 a w - S
      rw [show ([] : List Value) ++ encL y.bs = encL y.bs from rfl, Nat.zero_add] at S
      have hc8 := own_le (S.row p8 y.bs.length)
      replace S := St.rowEnt S ⟨p8, c8, y.bs⟩ (S.row p8 y.bs.length)
      obtain ⟨y', hy'⟩ : ∃ y' : LBy, y' = ⟨p8, c8, y.bs⟩ := ⟨_, rfl⟩
      rw [← hy'] at S
      obtain ⟨R, hR⟩ : ∃ R, R = begF x.n (upT x.turn) y.bs s := ⟨_, rfl⟩
      have hro0 : roomC x y.bs = 0 := by rw [roomC, if_pos he, if_neg hro]
      refine sq S ?_; clear S; intro a S
      refine wl_nil ?_
      refine xtn ?_
      refine c_seq ?_
      refine c_region ?_
      iterate 4 (refine sq S ?_; clear S; intro a S)
      refine sr S (next_c b x.n x.turn _) ?_; clear S; rintro _ a w rfl S
      refine sa S ?_; clear S; intro b8 a w S
      refine sw S ?_; clear S; intro a w S
      refine wl_nil ?_
      refine xtn ?_
      iterate 2 (refine c_seq ?_)
      refine c_region ?_
      iterate 2 (refine sq S ?_; clear S; intro a S)
      have hgl : Stable (dkI b m p c s).foot w (GlF y'.p y'.bs) := St.entGl S (fun k hk hk2 => St.apart2 S (entI [y']) (dkI b m p c s) k hk hk2) (by simp)
      rw [hy'] at hgl
      refine sit (dkI b m p c s) S (begin_c b m x.n p c s (upT x.turn) y.bs p8 c8 _ hn hut hy4 hc8 (by omega) (S.it (dkI b m p c s)) hgl) rfl ?_; clear S hgl; rintro _ a w ⟨rfl, p2, c2, hh, hn2⟩ hS
      have S := hS (dkI b m p2 c2 (begF x.n (upT x.turn) y.bs s).1) hh hn2
      clear hS
      rw [← hR] at S
      refine sw S ?_; clear S; intro a w S
      refine wl_nil ?_
      refine xtn ?_
      refine c_seq ?_
      refine c_region ?_
      iterate 2 (refine sq S ?_; clear S; intro a S)
      refine wl_nil ?_
      refine xtn ?_
      refine c_cond S (fun h11 => ?_) (fun h11 => ?_)
      · refine c_region ?_
        iterate 5 (refine sq S ?_; clear S; intro a S)
        refine sn S ?_; clear S; intro b52 a w S
        iterate 3 (refine sq S ?_; clear S; intro a S)
        refine sw S ?_; clear S; intro a w S
        iterate 2 (refine sq S ?_; clear S; intro a S)
        refine sw S ?_; clear S; intro a w S
        iterate 2 (refine sq S ?_; clear S; intro a S)
        refine sw S ?_; clear S; intro a w S
        refine wl_nil ?_
        refine xtn ?_
        refine c_seq ?_
        refine c_region ?_
        refine sq S ?_; clear S; intro a S
        refine sw S ?_; clear S; intro a w S
        refine wl_nil ?_
        refine xtn ?_
        refine c_ret ?_
        have hR2 : R.2 = 0 := of_decide_eq_true h11
        obtain ⟨x', hx'⟩ : ∃ x' : WS, x' = { x with turn := upT x.turn, said := [y'], fin := secN y.bs.length } := ⟨_, rfl⟩
        have hya : y'.bs = y.bs := by rw [hy']
        have hap : chkS x y' R.2 = x' := by rw [chkS, if_pos hR2, hx', hya]
        have hbr : brkF x' R.2 = x' := by rw [brkF, hR2]; simp
        replace S := S.boxRow b52 1 1 rfl (by decide)
        rw [show ([.slice p8 y.bs.length c8] : List Value) = encL [y'] from by rw [hy']; rfl] at S
        replace S := S.rowToGl (some ⟨b52, 0, none⟩) [y'] (e := 35) (sz := 1) (n := 1) (c := 1) (fun _ _ _ _ => trivial)
        replace S := St.entFact S [y']
        replace S := S.sub [Wk.box b4 38 [.int .i64 R.2], Wk.box g 73 [.pointer (some ⟨b, 0, none⟩), .int .i64 (x.n : Int), .int .u32 (upT x.turn), .slice (some ⟨b52, 0, none⟩) 1 1, .int .i64 (secN y.bs.length : Int), .bool x.broken], dkI b m p2 c2 R.1, ext Mr] [AllBy [y'], GlF (some ⟨b52, 0, none⟩) [y']]
        replace S := St.items S (bs' := [Wk.box b4 38 [.int .i64 R.2], Wk.box g 73 (cWal b (some ⟨b52, 0, none⟩) 1 x'), dkI b m p2 c2 R.1, ext Mr]) (by rw [hx']; rfl)
        have hne : ¬ b4 = g := St.apart2 S (Wk.box b4 38 [.int .i64 R.2]) (Wk.box g 73 (cWal b (some ⟨b52, 0, none⟩) 1 x')) b4 rfl
        refine endDef1 (Wk.box g 73 (cWal b (some ⟨b52, 0, none⟩) 1 x')) (Wk.box g 73 (cWal b (some ⟨b52, 0, none⟩) 1 (brkF x' R.2))) S rfl ((breaks_d g b4 b (some ⟨b52, 0, none⟩) 1 x' R.2 .returning w (S.box g) (BoxF.stable (S.boxF b4) hne)).mono fun _ _ _ h => h) (fun _ h => h) (fun w' hwd => ?_)
        rw [hbr] at hwd
        have S3 := St.ofWd hwd
        have hh := St.hold2 S3 (dkI b m p2 c2 R.1) (Wk.box g 73 (cWal b (some ⟨b52, 0, none⟩) 1 x'))
        have h1 := St.new2 S3 (dkI b m p2 c2 R.1) (Wk.box g 73 (cWal b (some ⟨b52, 0, none⟩) 1 x'))
        have hg1 := St.lend2 S3 (dkI b m p2 c2 R.1) (Wk.box g 73 (cWal b (some ⟨b52, 0, none⟩) 1 x')) Mr (S3.mem.fact (GlF (some ⟨b52, 0, none⟩) [y']))
        have hg2 := St.lend2 S3 (dkI b m p2 c2 R.1) (Wk.box g 73 (cWal b (some ⟨b52, 0, none⟩) 1 x')) Mr (S3.mem.fact (AllBy [y']))
        have hsd : x'.said = [y'] := by rw [hx']
        refine ⟨⟨m, p2, c2, R.1, some ⟨b52, 0, none⟩, 1, x'⟩, hh, h1, ⟨by show x'.said.length ≤ 1; rw [hsd]; simp, by show Stable _ w' (GlF _ x'.said); rw [hsd]; exact hg1, by show Stable _ w' (AllBy x'.said); rw [hsd]; exact hg2⟩, .inr ⟨hro0, by rw [hR], y', p2, c2, some ⟨b52, 0, none⟩, 1, hya, ?_⟩⟩
        rw [← hR, hap]
      · refine c_skip ?_
        refine xtn ?_
        refine c_seq ?_
        refine c_region ?_
        refine sq S ?_; clear S; intro a S
        refine sw S ?_; clear S; intro a w S
        refine wl_nil ?_
        refine xtn ?_
        refine c_ret ?_
        have hR2 : R.2 ≠ 0 := of_decide_eq_false h11
        have hap : chkS x y' R.2 = { x with broken := true } := by rw [chkS, if_neg hR2]
        have hbr : brkF x R.2 = { x with broken := true } := by simp [brkF, hR2]
        have S := S.sub [Wk.box b4 38 [.int .i64 R.2], Wk.box g 73 (cWal b q e x), dkI b m p2 c2 R.1, ext Mr] [GlF q x.said, AllBy x.said]
        have hne : ¬ b4 = g := St.apart2 S (Wk.box b4 38 [.int .i64 R.2]) (Wk.box g 73 (cWal b q e x)) b4 rfl
        refine endDef1 (Wk.box g 73 (cWal b q e x)) (Wk.box g 73 (cWal b q e (brkF x R.2))) S rfl ((breaks_d g b4 b q e x R.2 .returning w (S.box g) (BoxF.stable (S.boxF b4) hne)).mono fun _ _ _ h => h) (fun _ h => h) (fun w' hwd => ?_)
        rw [hbr] at hwd
        have S3 := St.ofWd hwd
        have hh := St.hold2 S3 (dkI b m p2 c2 R.1) (Wk.box g 73 (cWal b q e { x with broken := true }))
        have h1 := St.new2 S3 (dkI b m p2 c2 R.1) (Wk.box g 73 (cWal b q e { x with broken := true }))
        have hg1 := St.lend2 S3 (dkI b m p2 c2 R.1) (Wk.box g 73 (cWal b q e { x with broken := true })) Mr (S3.mem.fact (GlF q x.said))
        have hg2 := St.lend2 S3 (dkI b m p2 c2 R.1) (Wk.box g 73 (cWal b q e { x with broken := true })) Mr (S3.mem.fact (AllBy x.said))
        refine ⟨⟨m, p2, c2, R.1, q, e, { x with broken := true }⟩, hh, h1, ⟨hzc, hg1, hg2⟩, .inr ⟨hro0, by rw [hR], y', p2, c2, q, e, by rw [hy'], ?_⟩⟩
        rw [← hR, hap]
end Go.Proofs.Ythffheckghdelaa

/- The laws of layer 4: what came is told as it was when it was asked for. -/
namespace Go.Proofs.Ythffheckghdelaa
open Go Go.Wk
set_option synthInstance.maxSize 100000
set_option synthInstance.maxHeartbeats 400000
set_option maxRecDepth 100000

section
variable {P : Program} {r : Option Nat} {Q : Exit → Act → World → Prop} {w0 : World} {M0 : Nat → Prop} {ds : List Deferred} {a : Act} {w : World} {l : List Value} {bs : List Wk.Item} {fs : List (World → Prop)}
theorem c_ford5 {c : Code} {ι1 : Type} {ι2 : Type} {ι3 : Type} {ι4 : Type} {ι5 : Type} (S : St w0 M0 ds a w l bs fs) (mods : ι1 → ι2 → ι3 → ι4 → ι5 → (Nat → Value) → List (Nat × Value)) {l1 : ι1 → ι2 → ι3 → ι4 → ι5 → (Nat → Value) → List Value} [∀ x1 x2 x3 x4 x5 uu, SetG l (mods x1 x2 x3 x4 x5 uu) (l1 x1 x2 x3 x4 x5 uu)] (bs1 : ι1 → ι2 → ι3 → ι4 → ι5 → List Wk.Item) (fs1 : ι1 → ι2 → ι3 → ι4 → ι5 → List (World → Prop)) (dd : ι1 → ι2 → ι3 → ι4 → ι5 → List Deferred) (rel : ι1 → ι2 → ι3 → ι4 → ι5 → Prop) (μ : ι1 → ι2 → ι3 → ι4 → ι5 → Nat) (z1 : ι1) (z2 : ι2) (z3 : ι3) (z4 : ι4) (z5 : ι5) (h0 : rel z1 z2 z3 z4 z5) (uu0 : Nat → Value) (S0 : St w0 M0 (dd z1 z2 z3 z4 z5) a w (l1 z1 z2 z3 z4 z5 uu0) (bs1 z1 z2 z3 z4 z5) (fs1 z1 z2 z3 z4 z5))
    (hr : ∀ x1 x2 x3 x4 x5 uu a w, rel x1 x2 x3 x4 x5 → St w0 M0 (dd x1 x2 x3 x4 x5) a w (l1 x1 x2 x3 x4 x5 uu) (bs1 x1 x2 x3 x4 x5) (fs1 x1 x2 x3 x4 x5) → Wp P r c (Exit.then (fun a w => ∃ y1 y2 y3 y4 y5 vv, rel y1 y2 y3 y4 y5 ∧ St w0 M0 (dd y1 y2 y3 y4 y5) a w (l1 y1 y2 y3 y4 y5 vv) (bs1 y1 y2 y3 y4 y5) (fs1 y1 y2 y3 y4 y5) ∧ μ y1 y2 y3 y4 y5 < μ x1 x2 x3 x4 x5) Q) a w) : Wp P r (.loop c) Q a w := by
  refine c_loop (ι := ι1 × ι2 × ι3 × ι4 × ι5) (fun p a w => rel (p.1) (p.2.1) (p.2.2.1) (p.2.2.2.1) (p.2.2.2.2) ∧ ∃ uu, St w0 M0 (dd (p.1) (p.2.1) (p.2.2.1) (p.2.2.2.1) (p.2.2.2.2)) a w (l1 (p.1) (p.2.1) (p.2.2.1) (p.2.2.2.1) (p.2.2.2.2) uu) (bs1 (p.1) (p.2.1) (p.2.2.1) (p.2.2.2.1) (p.2.2.2.2)) (fs1 (p.1) (p.2.1) (p.2.2.1) (p.2.2.2.1) (p.2.2.2.2))) (fun p => μ (p.1) (p.2.1) (p.2.2.1) (p.2.2.2.1) (p.2.2.2.2)) (z1, z2, z3, z4, z5) ⟨h0, uu0, S0⟩ ?_
  rintro p a w ⟨h1, uu, S1⟩
  refine wpIn_mono (hr (p.1) (p.2.1) (p.2.2.1) (p.2.2.2.1) (p.2.2.2.2) uu a w h1 S1) fun e a1 w1 hq => ?_
  cases e <;> first | exact hq | skip
  obtain ⟨y1, y2, y3, y4, y5, vv, h2, S2, hm⟩ := hq
  exact ⟨(y1, y2, y3, y4, y5), ⟨h2, vv, S2⟩, hm⟩
theorem c_mrgd5 {x y : Code} {ι1 : Type} {ι2 : Type} {ι3 : Type} {ι4 : Type} {ι5 : Type} (S : St w0 M0 ds a w l bs fs) (mods : ι1 → ι2 → ι3 → ι4 → ι5 → (Nat → Value) → List (Nat × Value)) {l1 : ι1 → ι2 → ι3 → ι4 → ι5 → (Nat → Value) → List Value} [∀ x1 x2 x3 x4 x5 uu, SetG l (mods x1 x2 x3 x4 x5 uu) (l1 x1 x2 x3 x4 x5 uu)] (bs1 : ι1 → ι2 → ι3 → ι4 → ι5 → List Wk.Item) (fs1 : ι1 → ι2 → ι3 → ι4 → ι5 → List (World → Prop)) (dd : ι1 → ι2 → ι3 → ι4 → ι5 → List Deferred) (rel : ι1 → ι2 → ι3 → ι4 → ι5 → Prop)
    (hx : Wp P r x (Exit.then (fun a w => ∃ y1 y2 y3 y4 y5 vv, rel y1 y2 y3 y4 y5 ∧ St w0 M0 (dd y1 y2 y3 y4 y5) a w (l1 y1 y2 y3 y4 y5 vv) (bs1 y1 y2 y3 y4 y5) (fs1 y1 y2 y3 y4 y5)) Q) a w) (hy : ∀ x1 x2 x3 x4 x5 uu a w, rel x1 x2 x3 x4 x5 → St w0 M0 (dd x1 x2 x3 x4 x5) a w (l1 x1 x2 x3 x4 x5 uu) (bs1 x1 x2 x3 x4 x5) (fs1 x1 x2 x3 x4 x5) → Wp P r y Q a w) : Wp P r (.seq x y) Q a w :=
  c_merge _ hx fun a w h => by obtain ⟨y1, y2, y3, y4, y5, vv, h1, h2⟩ := h; exact hy y1 y2 y3 y4 y5 vv a w h1 h2
end
theorem ZF.less {L : LG} {M N : Nat → Prop} {w : World} (h : ZF L M w) (hN : ∀ k, N k → M k) : ZF L N w := ⟨h.1, h.2.1.less fun k _ hk => hN k hk, h.2.2.less fun k _ hk => hN k hk⟩
theorem take_z (b g : Nat) (L : LG) (n : Nat) (t : Int) (said : List (List UInt8)) (x : LAct) (h : LgOk L n t said) (ht1 : t + 1 ≤ 4294967295) (Mr : Nat → Prop) (w0 : World) (hMr : ∀ k, Mr k → k < w0.heap.size ∧ ¬ (zI b g L).foot k) (hd : (zI b g L).holds w0) (hz : ZF L (fun k => (zI b g L).foot k ∨ Mr k) w0) :
    Ret Try.prog 17 [.pointer (some ⟨g, 0, none⟩), .agg ⟨cAct x⟩] w0 (zI b g L).foot fun v w' => ∃ L' e, v = .int .i64 e ∧ (zI b g L').holds w' ∧ (∀ k, (zI b g L').foot k → (zI b g L).foot k ∨ w0.heap.size ≤ k) ∧ ZF L' (fun k => (zI b g L').foot k ∨ Mr k) w' ∧ TakeR L L' n t said (ckF x) (bytesF x) e := by
  obtain ⟨m, p, c, s, q, e0, X⟩ := L
  have hbl := bytesF_le x
  obtain ⟨hzc, hz1, hz2⟩ := hz
  obtain ⟨tail, hL, hfr⟩ := h.live
  have hn := hL.hn
  have hlen := hL.len
  have h1 : X.n = n := h.num
  have h2 : X.turn = t := h.turn
  have h3 : X.fin = endF t said := h.fin
  have hl0 : s.loose = [] := hL.loose
  have hs0 := List.length_pos_iff.2 h.tells.some_
  have hsl : X.said.length = said.length := says_len h.tells
  have hsf := h.tells.few
  refine enter Try.func17 rfl rfl (Wd.itLentM (x := zI b g ⟨m, p, c, s, q, e0, X⟩) (fs := [GlF q X.said, AllBy X.said]) hd hMr (by simp only [List.mem_cons, List.not_mem_nil, or_false]; rintro Φ (rfl | rfl); exact hz1; exact hz2)) (fun a S => ?_)
  simp only [Try.ntmps17, List.length_cons, List.length_nil, Nat.reduceAdd, Nat.reduceSub, List.replicate_succ, List.replicate_zero, List.cons_append, List.nil_append] at S
  refine c_seq ?_
  refine c_region ?_
  refine sa S ?_; clear S; intro b3 a w S
  refine sq S ?_; clear S; intro a S
  refine wl_nil ?_
  refine xtn ?_
  iterate 2 (refine c_seq ?_)
  refine c_region ?_
  refine sq S ?_; clear S; intro a S
  refine sr S (kind_c x _) ?_; clear S; rintro _ a w rfl S
  refine sq S ?_; clear S; intro a S
  refine wl_nil ?_
  refine xtn ?_
  refine c_cond S (fun h1 => ?_) (fun h1 => ?_)
  · refine c_seq ?_
    refine c_region ?_
    iterate 2 (refine sq S ?_; clear S; intro a S)
    have hck : ckF x = true := h1
    refine snew S (bytes_l x _) ?_; clear S; rintro _ a w - ⟨y, rfl, hy, hh, hnw⟩ hS -
    have S := hS (entI [y]) hh hnw
    clear hS
    replace S := St.entFact S [y]
    replace S := S.add (Φ := GlF y.p y.bs) ((S.mem.fact (AllBy [y])).imp fun _ h => h y (by simp))
    refine sitM (zI b g ⟨m, p, c, s, q, e0, X⟩) S (chk_z g b m p c s q e0 X y (restOf _ (zI b g ⟨m, p, c, s, q, e0, X⟩)) _ (by omega) (by rw [h2]; exact hL.ht) (by rw [hy]; omega) (by rw [hl0]; simp) (S.restOk _) (S.it (zI b g ⟨m, p, c, s, q, e0, X⟩)) (Stable.split (zI b g ⟨m, p, c, s, q, e0, X⟩) (S.mem.fact (GlF y.p y.bs))) ⟨hzc, Stable.split (zI b g ⟨m, p, c, s, q, e0, X⟩) (S.mem.fact (GlF q X.said)), Stable.split (zI b g ⟨m, p, c, s, q, e0, X⟩) (S.mem.fact (AllBy X.said))⟩) rfl ?_; clear S; rintro v a w ⟨L', hh2, hn2, hZ, hcase⟩ hS
    have S := hS (zI b g L') [AllBy L'.x.said, GlF L'.q L'.x.said] hh2 hn2 (by simp only [List.mem_cons, List.not_mem_nil, or_false]; rintro Φ (rfl | rfl); exact hZ.2.2; exact hZ.2.1)
    clear hS
    obtain ⟨hpu1, hpu2⟩ := chk_pure ⟨m, p, c, s, q, e0, X⟩ n t said y h ht1
    obtain ⟨e, rfl, hT⟩ : ∃ e, v = .int .i64 e ∧ TakeR ⟨m, p, c, s, q, e0, X⟩ L' n t said true y.bs e := by
      rcases hcase with ⟨r1, rfl, rfl⟩ | ⟨r1, rfl, y', p', c', q', e', r2, rfl⟩
      · exact ⟨_, rfl, .inl ⟨by rw [← hpu1]; exact r1, hpu1, rfl⟩⟩
      · exact ⟨_, rfl, hpu2 r1 y' p' c' q' e' r2⟩
    refine sq S ?_; clear S; intro a S
    refine wl_nil ?_
    refine xtn ?_
    refine c_ret ?_
    refine xtr ?_
    have h3 := S.itNew (zI b g L') rfl
    have h2 := S.it (zI b g L')
    have hg1 := St.lendM S (zI b g L') Mr (S.mem.fact (GlF L'.q L'.x.said))
    have hg2 := St.lendM S (zI b g L') Mr (S.mem.fact (AllBy L'.x.said))
    refine end1 S (fun _ => ?_)
    rw [hck, ← hy]
    exact ⟨L', e, rfl, h2, h3, ⟨hZ.1, hg1, hg2⟩, hT⟩
  · refine c_skip ?_
    refine xtn ?_
    refine c_seq ?_
    refine c_region ?_
    iterate 2 (refine sq S ?_; clear S; intro a S)
    have hck : ckF x = false := h1
    refine snew S (bytes_l x _) ?_; clear S; rintro _ a w - ⟨y, rfl, hy, hh, hnw⟩ hS -
    have S := hS (entI [y]) hh hnw
    clear hS
    replace S := St.entFact S [y]
    replace S := S.add (Φ := GlF y.p y.bs) ((S.mem.fact (AllBy [y])).imp fun _ h => h y (by simp))
    refine sitM (zI b g ⟨m, p, c, s, q, e0, X⟩) S (append_z g b m p c s q e0 X y (restOf _ (zI b g ⟨m, p, c, s, q, e0, X⟩)) _ (by omega) (by omega) (by omega) (by omega) (by rw [h2]; exact hL.ht) (by rw [hy]; omega) (by rw [hl0]; simp) (S.restOk _) (S.it (zI b g ⟨m, p, c, s, q, e0, X⟩)) (Stable.split (zI b g ⟨m, p, c, s, q, e0, X⟩) (S.mem.fact (GlF y.p y.bs))) ⟨hzc, Stable.split (zI b g ⟨m, p, c, s, q, e0, X⟩) (S.mem.fact (GlF q X.said)), Stable.split (zI b g ⟨m, p, c, s, q, e0, X⟩) (S.mem.fact (AllBy X.said))⟩) rfl ?_; clear S; rintro v a w ⟨L', hh2, hn2, hZ, hcase⟩ hS
    have S := hS (zI b g L') [AllBy L'.x.said, GlF L'.q L'.x.said] hh2 hn2 (by simp only [List.mem_cons, List.not_mem_nil, or_false]; rintro Φ (rfl | rfl); exact hZ.2.2; exact hZ.2.1)
    clear hS
    obtain ⟨hpu1, hpu2⟩ := append_pure ⟨m, p, c, s, q, e0, X⟩ n t said y h
    obtain ⟨e, rfl, hT⟩ : ∃ e, v = .int .i64 e ∧ TakeR ⟨m, p, c, s, q, e0, X⟩ L' n t said false y.bs e := by
      rcases hcase with ⟨r1, rfl, rfl⟩ | ⟨r1, rfl, y', p', c', q', e', r2, rfl⟩
      · exact ⟨_, rfl, .inl ⟨by rw [← hpu1]; exact r1, hpu1, rfl⟩⟩
      · exact ⟨_, rfl, hpu2 r1 y' p' c' q' e' r2⟩
    refine sq S ?_; clear S; intro a S
    refine wl_nil ?_
    refine xtn ?_
    refine c_ret ?_
    have h3 := S.itNew (zI b g L') rfl
    have h2 := S.it (zI b g L')
    have hg1 := St.lendM S (zI b g L') Mr (S.mem.fact (GlF L'.q L'.x.said))
    have hg2 := St.lendM S (zI b g L') Mr (S.mem.fact (AllBy L'.x.said))
    refine end1 S (fun _ => ?_)
    rw [hck, ← hy]
    exact ⟨L', e, rfl, h2, h3, ⟨hZ.1, hg1, hg2⟩, hT⟩
theorem walpicture_c (pl : Option Addr) (cl : Nat) (acts : List LAct) (x : LAct) (far : Int) (hal : acts.length ≤ maxLen) (w0 : World) (f0 : Stable (fun _ => False) w0 (GlF pl acts)) :
    Ret Try.prog 6 [.slice pl acts.length cl, .agg ⟨cAct x⟩, .int .i64 far] w0 (fun _ => False) fun v _ => v = .bool true := by
  refine enterM Try.func6 rfl rfl (Wd.begin (fs := [GlF pl acts]) (by simpa using f0)) (fun a S => ?_)
  simp only [Try.ntmps6, List.length_cons, List.length_nil, Nat.reduceAdd, Nat.reduceSub, List.replicate_succ, List.replicate_zero, List.cons_append, List.nil_append] at S
  refine c_seq ?_
  refine c_region ?_
  refine sa S ?_; clear S; intro b4 a w S
  refine sa S ?_; clear S; intro b5 a w S
  refine sa S ?_; clear S; intro b6 a w S
  refine wl_nil ?_
  refine xtn ?_
  iterate 2 (refine c_seq ?_)
  refine c_region ?_
  refine sr S (wakes_c _) ?_; clear S; rintro _ a w rfl S
  refine sq S ?_; clear S; intro a S
  refine wl_nil ?_
  refine xtn ?_
  refine c_condF S ?_
  refine c_skip ?_
  refine xtn ?_
  refine c_seq ?_
  refine c_region ?_
  refine snew S (fresh_l 22 (by omega) _) ?_; clear S; rintro _ a w - ⟨b, g, L, rfl, hok, hoff, hh, hnw⟩ hS -
  have S := hS (lgI b g L) hh hnw
  clear hS
  iterate 3 (refine sq S ?_; clear S; intro a S)
  refine sa S ?_; clear S; intro b8 a w S
  refine sq S ?_; clear S; intro a S
  refine sw S ?_; clear S; intro a w S
  refine wl_nil ?_
  refine xtn ?_
  iterate 2 (refine c_seq ?_)
  refine c_region ?_
  iterate 2 (refine sq S ?_; clear S; intro a S)
  refine wl_nil ?_
  refine xtn ?_
  refine c_condF S ?_
  refine c_skip ?_
  refine xtn ?_
  refine c_seq ?_
  refine c_region ?_
  iterate 2 (refine sq S ?_; clear S; intro a S)
  refine sitM (lgI b g L) S (lived_c b g L 22 0 [[]] pl cl acts hok hoff (by omega) hal (restOf _ (lgI b g L)) _ (S.restOk _) (S.it (lgI b g L)) (Stable.split (lgI b g L) (S.mem.fact (GlF pl acts)))) rfl ?_; clear S; rintro _ a w ⟨L1, t1, p1, c1, ys, rfl, hm1, hL1, ha1, ht1, hp1, hh1, hn1, g1, g2⟩ hS
  have S := hS (lgI b g L1) [AllBy ys, GlF p1 ys] hh1 hn1 (fun Φ hΦ => by
    rcases List.mem_cons.1 hΦ with rfl | hΦ
    · exact g2
    · obtain rfl := List.mem_singleton.1 hΦ; exact g1)
  clear hS
  iterate 3 (refine sq S ?_; clear S; intro a S)
  refine sa S ?_; clear S; intro b9 a w S
  refine sw S ?_; clear S; intro a w S
  refine sq S ?_; clear S; intro a S
  refine wl_nil ?_
  refine xtn ?_
  iterate 2 (refine c_seq ?_)
  refine c_region ?_
  iterate 2 (refine sq S ?_; clear S; intro a S)
  refine wl_nil ?_
  refine xtn ?_
  refine c_condF S ?_
  refine c_skip ?_
  refine xtn ?_
  refine c_seq ?_
  have hcap1 := lg_cap (S.it (lgI b g L1))
  have hsl1 := says_len hL1.tells
  have hfew1 := hL1.tells.few
  have hsome1 := List.length_pos_iff.2 hL1.tells.some_
  rw [List.length_map] at hsl1 hfew1 hsome1
  replace S := S.front (lgI b g L1)
  replace S := S.ofBoth
  replace S := S.front (walI g b L1.q L1.e L1.x)
  replace S := St.open3 S
  replace S := St.entFact S L1.x.said
  replace S := S.rowToGl L1.q L1.x.said (e := 35) (sz := 1) (n := L1.x.said.length) (c := L1.e) (fun _ _ _ _ => trivial)
  replace S := S.front (dkI b L1.m L1.p L1.c L1.s)
  replace S := S.toBoth
  obtain ⟨came, hcame⟩ : ∃ came, came = L1.x.said.drop 1 := ⟨_, rfl⟩
  have hcl : came.length = L1.x.said.length - 1 := by rw [hcame, List.length_drop]
  refine c_region ?_
  refine sq S ?_; clear S; intro a S
  have hlt := foots_lt S
  refine sr S (all_c g b L1.q L1.e L1.x (by omega) hcap1 _ (BoxF.stable (S.it (zI b g L1)).2.1 (fun h => h))) ?_; clear S; rintro _ a w ⟨h, rfl, n0, e0⟩ S
  replace S := S.add (Φ := BoxF h 51 [.slice (if L1.e = 1 then L1.q else L1.q.map (·.add (1 * 1))) (L1.x.said.length - 1) (L1.e - 1)]) (BoxF.stable e0 (fun hm => by have := hlt _ hm; omega))
  rw [← hcl] at S
  obtain ⟨q2, hq2⟩ : ∃ q2, q2 = (if L1.e = 1 then L1.q else L1.q.map (·.add (1 * 1))) := ⟨_, rfl⟩
  rw [← hq2] at S
  replace S := S.add (Φ := GlF q2 came) ((S.mem.fact (GlF L1.q L1.x.said)).imp fun _ h => by rw [hq2, hcame]; exact h.drop 1 hcap1)
  replace S := S.add (Φ := AllBy came) ((S.mem.fact (AllBy L1.x.said)).imp fun _ h y hy => h y (by rw [hcame] at hy; exact List.mem_of_mem_drop hy))
  have hcb : ∀ y ∈ came, y.bs.length ≤ 40000 := fun y hy => says_by hL1.tells y (by rw [hcame] at hy; exact List.mem_of_mem_drop hy)
  have hcy : ∀ i, i < came.length → (nthG came i).bs = (nthG ys (i + 1)).bs := fun i hi => by
    have e1 : (bsL L1.x.said)[i + 1]? = some (nthG came i).bs := by
      have := nthG_get hi
      rw [hcame, List.getElem?_drop] at this
      rw [List.getElem?_map, show i + 1 = 1 + i from by omega, this, ← hcame]; rfl
    rw [hL1.says, List.getElem?_map, nthG_get (show i + 1 < ys.length by omega)] at e1
    exact (Option.some.inj e1).symm
  refine sq S ?_; clear S; intro a S
  refine wl_nil ?_
  refine xtn ?_
  refine c_seq ?_
  refine c_region ?_
  iterate 4 (refine sq S ?_; clear S; intro a S)
  obtain ⟨fr, hfr⟩ : ∃ fr, fr = IntKind.i64.wrap ((IntKind.u64.wrap far).tmod 6) := ⟨_, rfl⟩
  rw [← hfr] at S
  refine sw S ?_; clear S; intro a w S
  refine wl_nil ?_
  refine xtn ?_
  iterate 2 (refine c_seq ?_)
  refine c_region ?_
  refine sq S ?_; clear S; intro a S
  refine wl_nil ?_
  refine xtn ?_
  refine c_block ?_
  refine c_ford5 S (fun (Ds : List Nat) (r : Nat) (L2 : LG) (t2 : Int) (said2 : List (List UInt8)) uu => [(12, uu 12), (0, uu 13), (0, uu 14), (0, uu 15), (22, .int .i64 (r : Nat)), (0, uu 39), (0, uu 40), (0, uu 41), (0, uu 42), (0, uu 43), (0, uu 44), (0, uu 45), (0, uu 46), (0, uu 47), (0, uu 48), (0, uu 49), (0, uu 50), (0, uu 51), (0, uu 52), (0, uu 53), (0, uu 54), (0, uu 55), (0, uu 56), (0, uu 57), (0, uu 58), (0, uu 59), (0, uu 60), (0, uu 61), (0, uu 62), (0, uu 63), (0, uu 64), (0, uu 65), (0, uu 66), (0, uu 67), (0, uu 68), (0, uu 69), (0, uu 70), (0, uu 71), (0, uu 72), (0, uu 73), (0, uu 74), (0, uu 75), (0, uu 76), (0, uu 77), (0, uu 78), (0, uu 79), (0, uu 80), (0, uu 81), (0, uu 82), (0, uu 83), (0, uu 84)]) (fun (Ds : List Nat) (r : Nat) (L2 : LG) (t2 : Int) (said2 : List (List UInt8)) => [zI b g L2, Wk.box b9 51 [.slice p1 ys.length c1], Wk.box b8 27 [.pointer (some ⟨g, 0, none⟩)], Wk.box b6 4 [.bool false], Wk.box b5 3 [.int .i64 fr], Wk.box b4 33 (cAct x), marks Ds]) (fun (Ds : List Nat) (r : Nat) (L2 : LG) (t2 : Int) (said2 : List (List UInt8)) => [GlF L2.q L2.x.said, AllBy L2.x.said, AllBy came, GlF q2 came, BoxF h 51 [.slice q2 came.length (L1.e - 1)], AllBy ys, GlF p1 ys]) (fun (Ds : List Nat) (r : Nat) (L2 : LG) (t2 : Int) (said2 : List (List UInt8)) => dsOf Ds) (fun (Ds : List Nat) (r : Nat) (L2 : LG) (t2 : Int) (said2 : List (List UInt8)) => r ≤ 3 ∧ t2 ≤ 14 + 1000 * r ∧ LgOk L2 22 t2 said2 ∧ L2.x.said.length ≤ L2.e ∧ L2.s.arms.on = false) (fun (Ds : List Nat) (r : Nat) (L2 : LG) (t2 : Int) (said2 : List (List UInt8)) => 3 - r) ([]) (0) (L1) (t1) (bsL ys) ?_ S.uu ?_ ?_
  · exact ⟨by omega, by omega, hL1, hcap1, ha1⟩
  · have S := S.add (S.mem.fact (AllBy L1.x.said))
    have S := S.add (S.mem.fact (GlF L1.q L1.x.said))
    exact S.sub _ _
  · clear S; rintro Ds r L2 t2 said2 uu a w ⟨hr, ht2, hL2, hcap2, ha2⟩ S
    refine c_seq ?_
    refine c_region ?_
    refine sq S ?_; clear S; intro a S
    refine wl_nil ?_
    refine xtn ?_
    refine c_seq ?_
    refine c_cond S (fun h12 => ?_) (fun h12 => ?_)
    · refine c_skip ?_
      refine xtn ?_
      refine c_seq ?_
      refine c_block ?_
      refine c_seq ?_
      have hr3 : r < 3 := by have := of_decide_eq_true h12; omega
      refine c_region ?_
      refine sq S ?_; clear S; intro a S
      refine sa S ?_; clear S; intro b12 a w S
      refine sw S ?_; clear S; intro a w S
      refine wl_nil ?_
      refine xtn ?_
      refine c_seq ?_
      refine c_region ?_
      refine sa S ?_; clear S; intro b13 a w S
      refine sw S ?_; clear S; intro a w S
      refine wl_nil ?_
      refine xtn ?_
      refine c_mrgd5 S (fun (Es : List Nat) (L3 : LG) (t3 : Int) (said3 : List (List UInt8)) (met : Nat) uu => [(14, uu 14), (0, uu 15), (25, uu 41), (0, uu 42), (0, uu 43), (0, uu 44), (0, uu 45), (0, uu 46), (0, uu 47), (0, uu 48), (0, uu 49), (0, uu 50), (0, uu 51), (0, uu 52), (0, uu 53), (0, uu 54), (0, uu 55), (0, uu 56), (0, uu 57), (0, uu 58), (0, uu 59), (0, uu 60), (0, uu 61), (0, uu 62), (0, uu 63), (0, uu 64), (0, uu 65), (0, uu 66), (0, uu 67), (0, uu 68), (0, uu 69), (0, uu 70), (0, uu 71), (0, uu 72), (0, uu 73), (0, uu 74)]) (fun (Es : List Nat) (L3 : LG) (t3 : Int) (said3 : List (List UInt8)) (met : Nat) => [zI b g L3, Wk.box b13 3 [.int .i64 (met : Int)], Wk.box b12 3 [.int .i64 (r : Int)], Wk.box b9 51 [.slice p1 ys.length c1], Wk.box b8 27 [.pointer (some ⟨g, 0, none⟩)], Wk.box b6 4 [.bool false], Wk.box b5 3 [.int .i64 fr], Wk.box b4 33 (cAct x), marks Es]) (fun (Es : List Nat) (L3 : LG) (t3 : Int) (said3 : List (List UInt8)) (met : Nat) => [GlF L3.q L3.x.said, AllBy L3.x.said, AllBy came, GlF q2 came, BoxF h 51 [.slice q2 came.length (L1.e - 1)], AllBy ys, GlF p1 ys]) (fun (Es : List Nat) (L3 : LG) (t3 : Int) (said3 : List (List UInt8)) (met : Nat) => dsOf Es) (fun (Es : List Nat) (L3 : LG) (t3 : Int) (said3 : List (List UInt8)) (met : Nat) => t3 ≤ 14 + 1000 * r + 1000 ∧ LgOk L3 22 t3 said3 ∧ L3.x.said.length ≤ L3.e ∧ L3.s.arms.on = false ∧ (r = 1 ∨ met = came.length) ∧ met ≤ 1000) ?_ ?_
      · refine c_seq ?_
        refine c_region ?_
        refine sq S ?_; clear S; intro a S
        refine wl_nil ?_
        refine xtn ?_
        refine c_block ?_
        replace S := S.sub [Wk.box b13 3 [.int .i64 0], Wk.box b12 3 [.int .i64 (r : Int)], zI b g L2, Wk.box b9 51 [.slice p1 ys.length c1], Wk.box b8 27 [.pointer (some ⟨g, 0, none⟩)], Wk.box b6 4 [.bool false], Wk.box b5 3 [.int .i64 fr], Wk.box b4 33 (cAct x), marks Ds] [GlF L2.q L2.x.said, AllBy L2.x.said, AllBy came, GlF q2 came, BoxF h 51 [.slice q2 came.length (L1.e - 1)], AllBy ys, GlF p1 ys]
        replace S := S.front (zI b g L2)
        refine c_range (κ := LG × Int × List (List UInt8)) (κx := LG × Int × List (List UInt8) × Nat) (Ds := Ds) (toldL came)
          (fun i k => [zI b g k.1, Wk.box b13 3 [.int .i64 ((i : Nat) : Int)], Wk.box b12 3 [.int .i64 (r : Int)], Wk.box b9 51 [.slice p1 ys.length c1], Wk.box b8 27 [.pointer (some ⟨g, 0, none⟩)], Wk.box b6 4 [.bool false], Wk.box b5 3 [.int .i64 fr], Wk.box b4 33 (cAct x), marks Ds])
          (fun _ k => [GlF k.1.q k.1.x.said, AllBy k.1.x.said, AllBy came, GlF q2 came, BoxF h 51 [.slice q2 came.length (L1.e - 1)], AllBy ys, GlF p1 ys])
          (fun i k => k.2.1 ≤ 14 + 1000 * r + i ∧ LgOk k.1 22 k.2.1 k.2.2 ∧ k.1.x.said.length ≤ k.1.e ∧ k.1.s.arms.on = false)
          (fun k => [zI b g k.1, Wk.box b13 3 [.int .i64 ((k.2.2.2 : Nat) : Int)], Wk.box b12 3 [.int .i64 (r : Int)], Wk.box b9 51 [.slice p1 ys.length c1], Wk.box b8 27 [.pointer (some ⟨g, 0, none⟩)], Wk.box b6 4 [.bool false], Wk.box b5 3 [.int .i64 fr], Wk.box b4 33 (cAct x), marks Ds])
          (fun k => [GlF k.1.q k.1.x.said, AllBy k.1.x.said, AllBy came, GlF q2 came, BoxF h 51 [.slice q2 came.length (L1.e - 1)], AllBy ys, GlF p1 ys])
          (fun cd k => cd = .exit 2 ∧ k.2.1 ≤ 14 + 1000 * r + 1000 ∧ LgOk k.1 22 k.2.1 k.2.2.1 ∧ k.1.x.said.length ≤ k.1.e ∧ k.1.s.arms.on = false ∧ r = 1 ∧ k.2.2.2 ≤ 1000) (L2, t2, said2) S
          (fun M w1 hM hF _ => all_it h came q2 (L1.e - 1) (by omega) (fun y hy => by have := hcb y hy; omega) w1 M hM (hF _ (by simp)) (hF _ (by simp)) (hF _ (by simp))) ⟨⟨by show t2 ≤ _; omega, hL2, hcap2, ha2⟩, rfl, rfl⟩ ?_ ?_ ?_ ?_
        · clear S
          rintro L D bL M' w1 i z vs ⟨L3, t3, said3⟩ W0 w hz ⟨ht3, hL3, hcap3, ha3⟩ hW0 hgr ⟨p2, c2, rfl, hown, hnew⟩
          obtain ⟨hi, rfl⟩ := told_get hz
          simp only [] at ht3 hL3 hcap3 ha3
          obtain ⟨y2, hy2⟩ : ∃ y2 : LBy, y2 = ⟨p2, c2, (nthG came i).bs⟩ := ⟨_, rfl⟩
          have hent : (entI [y2]).holds w := by rw [hy2]; exact ent_row (y := ⟨p2, c2, (nthG came i).bs⟩) hown
          have hwd := hW0.addItem hgr hent (fun k ⟨u, hu, ad, hp, hk⟩ => by
            obtain rfl := List.mem_singleton.1 hu
            rw [hy2] at hp
            exact hk ▸ hnew ad hp) (ItOk.lt w hent) ItOk.loc
          have hKy : KLt (i + 1) ys.length := ⟨by omega⟩
          have hci := hcb _ (nthG_mem hi)
          refine ⟨_, inferInstance, fun a S => ?_⟩
          replace S : St w1 M' [] a w _ (entI [y2] :: lpI L D (lpR bL .ready none) :: _) _ := ⟨S.slots, S.defers, hwd⟩
          replace S := St.entFact S [y2]
          replace S := S.add (Φ := GlF p2 (nthG came i).bs) ((S.mem.fact (AllBy [y2])).imp fun _ h => by have := h y2 (by simp); rw [hy2] at this; exact this)
          refine c_seq ?_
          refine c_region ?_
          refine sq S ?_; clear S; intro a S
          refine wl_nil ?_
          refine xtn ?_
          refine c_region ?_
          refine sq S ?_; clear S; intro a S
          refine wl_nil ?_
          refine xtn ?_
          refine rbegin (D := D) (b := bL) S ?_; clear S; intro a w S
          refine c_block ?_
          iterate 2 (refine c_seq ?_)
          refine c_region ?_
          iterate 2 (refine sq S ?_; clear S; intro a S)
          rw [show IntKind.i64.wrap ((i : Int) + 1) = ((i + 1 : Nat) : Int) from by rw [w64 _ (by omega) (by omega)]; rfl] at S
          refine sw S ?_; clear S; intro a w S
          refine wl_nil ?_
          refine xtn ?_
          refine c_seq ?_
          refine c_region ?_
          iterate 3 (refine sq S ?_; clear S; intro a S)
          rw [show (!decide (((i + 1 : Nat) : Int) = ((i + 1 : Nat) : Int))) = false from by simp] at S
          refine sq S ?_; clear S; intro a S
          refine gT' S ?_
          refine sq S ?_; clear S; intro a S
          refine gT' S ?_
          refine sq S ?_; clear S; intro a S
          refine gT' S ?_
          refine sq S ?_; clear S; intro a S
          refine gT' S ?_
          refine sq S ?_; clear S; intro a S
          rw [show decide ((ys.length : Int) ≤ ((i + 1 : Nat) : Int)) = false from by simp; omega] at S
          iterate 2 (refine sq S ?_; clear S; intro a S)
          refine gT' S ?_
          refine sq S ?_; clear S; intro a S
          refine gT' S ?_
          refine sq S ?_; clear S; intro a S
          refine gT' S ?_
          refine sq S ?_; clear S; intro a S
          refine gT' S ?_
          refine sq S ?_; clear S; intro a S
          refine gT' S ?_
          refine sq S ?_; clear S; intro a S
          refine gT' S ?_
          have hyb : (nthG ys (i + 1)).bs.length ≤ 40000 := by rw [← hcy i hi]; exact hci
          refine sr S (beq_c p2 (nthG ys (i + 1)).p c2 (nthG ys (i + 1)).c (nthG came i).bs (nthG ys (i + 1)).bs ⟨by omega, by omega⟩ _ ((S.mem.fact (GlF p2 (nthG came i).bs)).less fun _ _ h => h.elim) (((S.mem.fact (AllBy ys)).less fun _ _ h => h.elim).imp fun _ h => h _ (nthG_mem (by omega)))) ?_; clear S; rintro _ a w rfl S
          rw [show decide ((nthG came i).bs = (nthG ys (i + 1)).bs) = true from decide_eq_true (hcy i hi)] at S
          refine gT' S ?_
          refine sq S ?_; clear S; intro a S
          rw [show (!true) = false from rfl] at S
          refine sq S ?_; clear S; intro a S
          refine wl_nil ?_
          refine xtn ?_
          refine c_condF S ?_
          refine c_skip ?_
          refine xtn ?_
          refine c_seq ?_
          refine c_drawE [(0, true), (1, true), (2, false), (3, false)] [Wk.box b8 27 [.pointer (some ⟨g, 0, none⟩)], Wk.box b4 33 (cAct x)] S ?_; clear S; intro w S
          iterate 2 (refine dq S ?_; clear S; intro a S)
          refine dl ?_
          refine sr S (taking_c x _) ?_; clear S; rintro _ a w rfl S
          refine de S ?_
          refine dl ?_
          refine sitM (zI b g L3) S (take_z b g L3 22 t3 said3 (takingF x) hL3 (by omega) (restOf _ (zI b g L3)) _ (S.restOk _) (S.it (zI b g L3)) ⟨hcap3, Stable.split (zI b g L3) (S.mem.fact (GlF L3.q L3.x.said)), Stable.split (zI b g L3) (S.mem.fact (AllBy L3.x.said))⟩) rfl ?_; clear S; rintro _ a w ⟨L4, e4, rfl, hh4, hn4, hZ4, hR4⟩ hS
          have S := hS (zI b g L4) [GlF L4.q L4.x.said, AllBy L4.x.said] hh4 hn4 (by simp only [List.mem_cons, List.not_mem_nil, or_false]; rintro Φ (rfl | rfl); exact hZ4.2.1; exact hZ4.2.2)
          clear hS
          obtain ⟨t4, said4, hL4, ht4, ha4⟩ : ∃ t4 said4, LgOk L4 22 t4 said4 ∧ t4 ≤ t3 + 1 ∧ L4.s.arms.on = false := by
            rcases wantF_off hR4 ha3 hL3 with ⟨_, _, rfl⟩ | ⟨_, _, _, q4, q5⟩
            · exact ⟨_, _, hL3, by omega, ha3⟩
            · exact ⟨_, _, q4, by unfold nextT; split <;> omega, q5⟩
          refine de S ?_
          refine dn ?_
          refine xtn ?_
          refine c_seq ?_
          refine c_region ?_
          iterate 3 (refine sq S ?_; clear S; intro a S)
          iterate 3 (refine gQ S ?_; clear S; intro a S)
          refine sq S ?_; clear S; intro a S
          refine wl_nil ?_
          refine xtn ?_
          refine c_cond S (fun h22 => ?_) (fun h22 => ?_)
          · refine c_exit ?_
            refine xbx ?_
            have hr1 : r = 1 := by simp at h22; omega
            refine rexit (D := D) (b := bL) (S.front (lpI L D (lpR bL .busy none)) |>.sub [lpI L D (lpR bL .busy none), zI b g L4, Wk.box b13 3 [.int .i64 ((i + 1 : Nat) : Int)], Wk.box b12 3 [.int .i64 (r : Int)], Wk.box b9 51 [.slice p1 ys.length c1], Wk.box b8 27 [.pointer (some ⟨g, 0, none⟩)], Wk.box b6 4 [.bool false], Wk.box b5 3 [.int .i64 fr], Wk.box b4 33 (cAct x), marks Ds] [GlF L4.q L4.x.said, AllBy L4.x.said, AllBy came, GlF q2 came, BoxF h 51 [.slice q2 came.length (L1.e - 1)], AllBy ys, GlF p1 ys]) fun W hW => ⟨.inr ⟨_, rfl⟩, (L4, t4, said4, i + 1), ⟨rfl, by show t4 ≤ _; omega, hL4, hZ4.1, ha4, hr1, by show i + 1 ≤ 1000; omega⟩, hW⟩
          · refine c_skip ?_
            refine xbn ?_
            refine rnext (D := D) (b := bL) (S.front (lpI L D (lpR bL .busy none)) |>.sub [lpI L D (lpR bL .busy none), zI b g L4, Wk.box b13 3 [.int .i64 ((i + 1 : Nat) : Int)], Wk.box b12 3 [.int .i64 (r : Int)], Wk.box b9 51 [.slice p1 ys.length c1], Wk.box b8 27 [.pointer (some ⟨g, 0, none⟩)], Wk.box b6 4 [.bool false], Wk.box b5 3 [.int .i64 fr], Wk.box b4 33 (cAct x), marks Ds] [GlF L4.q L4.x.said, AllBy L4.x.said, AllBy came, GlF q2 came, BoxF h 51 [.slice q2 came.length (L1.e - 1)], AllBy ys, GlF p1 ys]) fun W hW => ⟨(L4, t4, said4), ⟨by show t4 ≤ _; omega, hL4, hZ4.1, ha4⟩, hW⟩
        · clear S
          rintro D ⟨L3, t3, said3⟩ a w ⟨ht3, hL3, hcap3, ha3⟩ S
          have hlen : (toldL came).length = came.length := by simp [toldL]
          rw [hlen] at ht3 S
          simp only [] at ht3 hL3 hcap3 ha3
          replace S := S.join (Ds := Ds)
          refine xbn ?_
          refine xtn ?_
          exact ⟨[D] ++ Ds, L3, t3, said3, came.length, S.uu, ⟨by omega, hL3, hcap3, ha3, .inr rfl, by omega⟩, S.sub _ _⟩
        · rintro D k a w ⟨h, -⟩; cases h
        · rintro id D ⟨L3, t3, said3, met⟩ a w ⟨h, ht3, hL3, hcap3, ha3, hr1, hm⟩ S
          obtain rfl : id = 2 := by cases h; rfl
          simp only [] at ht3 hL3 hcap3 ha3 hm
          replace S := S.join (Ds := Ds)
          refine xbe ?_
          refine xtn ?_
          exact ⟨[D] ++ Ds, L3, t3, said3, met, S.uu, ⟨ht3, hL3, hcap3, ha3, .inl hr1, hm⟩, S.sub _ _⟩
      · clear S; rintro Es L3 t3 said3 met uu a w ⟨ht3, hL3, hcap3, ha3, hmet, hmet2⟩ S
        refine c_seq ?_
        refine c_region ?_
        iterate 3 (refine sq S ?_; clear S; intro a S)
        iterate 5 (refine gQ S ?_; clear S; intro a S)
        refine sq S ?_; clear S; intro a S
        refine wl_nil ?_
        refine xtn ?_
        refine c_cond S (fun h23 => ?_) (fun h23 => ?_)
        · refine c_seq ?_
          refine c_region ?_
          refine sw S ?_; clear S; intro a w S
          refine wl_nil ?_
          refine xtn ?_
          refine c_ret ?_
          refine xbr ?_
          iterate 2 (refine xtr ?_)
          refine xbr ?_
          refine xtr ?_
          have hbad : ¬ (r = 1 ∨ met = came.length) := by
            rw [w64 ((ys.length : Int) - 1) (by omega) (by omega)] at h23
            simp at h23; omega
          exact absurd hmet hbad
        · refine c_skip ?_
          refine xbn ?_
          refine xtn ?_
          refine c_region ?_
          iterate 2 (refine sq S ?_; clear S; intro a S)
          refine wl_nil ?_
          refine xtn ?_
          rw [w64 ((r : Int) + 1) (by omega) (by omega)] at S
          exact ⟨Es, r + 1, L3, t3, said3, S.uu, ⟨by omega, by omega, hL3, hcap3, ha3⟩, S.sub _ _, by omega⟩
    · refine c_exit ?_
      iterate 2 (refine xte ?_)
      refine xbe ?_
      refine xtn ?_
      refine c_seq ?_
      refine c_region ?_
      refine sw S ?_; clear S; intro a w S
      refine wl_nil ?_
      refine xtn ?_
      refine c_ret ?_
      exact endM1 S (fun _ _ => rfl)
end Go.Proofs.Ythffheckghdelaa

/- WalPicture answers true at every input and leaves it as it was. No condition. -/
namespace Go.Proofs.Ythffheckghdelaa
open Go Go.Wk
open Go.ChangeShapes Go.WideShapes Go.ChangeAt Go.RowKit
set_option maxRecDepth 100000

theorem walpicture_lifted (os : Os) (started : os.Started) (H : Type) (enc : TypeId × Value → H) :
    ReturnsInHanded {} Try.checked os 6 .any (Rows.walPictureSpec.pre6 enc Try.prog Try.f6 Rows.walPictureRow.domain false) (Rows.walPictureSpec.post enc Try.prog Try.f6 false true false false) := by
  refine returnsInHanded_of_change (C := Try.checked) own started (by kernel_rfl) Try.func6
    (ChangeSpec.witness6 (enc := enc) (C := Try.checked) false ⟨#[], #[.slice none 0 0, .agg #[.int .i64 0, .int .i64 0, .int .u8 0, .slice none 0 0], .int .i64 0], []⟩ 8 (by kernel_rfl) (by kernel_rfl) (by kernel_rfl) (by kernel_rfl)) ?_
  intro W base args ds gs before hval0 hW _ _
  have hval : ∀ (j : Nat) t v, Try.f6.params[j]? = some t → args[j]? = some v → Value.okWide Try.prog W .any base t v := hval0
  have hW2 := hW
  obtain ⟨p, q, hA0, hV, rfl, _, _⟩ := hW
  have hA : DataW.TrodAll enc Try.prog W 0 (fun _ => true) true Try.f6.params.toList args.toList ds p := hA0
  rw [Try.params6] at hA hval
  obtain ⟨v0, v1, v2, d0, d1, d2, p0, p1, p2, rfl, rfl, rfl, h0, h1, h2⟩ := trodAll_three hA
  obtain ⟨rfl, rfl⟩ := trodVars_none hV
  obtain ⟨x, rfl, l_x, m_x, h_x⟩ := slice_of_Trod (α := LAct) Try.underlying25 h0 (hval 0 25 v0 rfl rfl)
  obtain ⟨y, rfl, h_y⟩ := struct_of_Trod (α := LAct) Try.underlying33 h1 (hval 1 33 v1 rfl rfl)
  obtain ⟨n, rfl, rfl, rfl, wn⟩ := open_int Try.underlying3 (hval 2 3 v2 rfl rfl) h2
  refine Ret.law (walpicture_c x.p x.cap x.xs y n (by omega) W h_x.stable) fun W1 hag => ?_
  exact ⟨_, rfl, law_post (B := 4) laidOut (by kernel_rfl) rfl rfl rfl hW2 rfl rfl rfl hag⟩
theorem walpicture_holds : Rows.WalPictureSaid :=
  OpenClaim.holds_of_wide 6 Try.f6 rfl rfl rfl rfl rfl rfl rfl ⟨rfl, rfl, rfl, rfl, rfl⟩ rfl rfl rfl rfl rfl (by kernel_rfl) Try.func6 (by kernel_rfl)
    (of_decide_eq_true (by kernel_rfl)) (by unfold Func.isWrapper; rw [if_neg (of_decide_eq_false (by kernel_rfl))]; exact ⟨rfl, rfl⟩)
    (fun os started H enc _ => walpicture_lifted os started H enc)
end Go.Proofs.Ythffheckghdelaa
