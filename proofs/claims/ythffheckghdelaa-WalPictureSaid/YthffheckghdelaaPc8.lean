/- 8: a part of this claim's texts, joined: WalQ WalR PlainDisk PlainWalB PlainWalC PlainWalD WalLawE WalLawF WalLawG WalLawH WalLawI WalLawJ. -/
import Derived.Test.YthffheckghdelaaPc7
/- Package wal: Append. -/
namespace Go.Proofs.Ythffheckghdelaa
open Go Go.Wk
set_option synthInstance.maxSize 100000
set_option synthInstance.maxHeartbeats 400000
set_option maxRecDepth 100000

theorem breaks_d (g r b : Nat) (q : Option Addr) (e : Nat) (x : WS) (v : Int) (u : FrameMode) (w0 : World) (hb : (Wk.box g 73 (cWal b q e x)).holds w0) (hr : Stable (fun k => k = g) w0 (BoxF r 38 [.int .i64 v])) :
    CallsDIn (FW none) 0 Try.prog 52 [.pointer (some ⟨g, 0, none⟩), .pointer (some ⟨r, 0, none⟩)].toArray u w0 fun e' u' w' => u' = u ∧ ∃ v', e' = .returned v' ∧ Agree (fun k => k = g) w0 w' ∧ (Wk.box g 73 (cWal b q e (brkF x v))).holds w' := by
  refine enterDI Try.func52 rfl rfl (Wd.itLent (x := Wk.box g 73 (cWal b q e x)) (fs := [BoxF r 38 [.int .i64 v]]) hb (by intro Φ hΦ; obtain rfl := List.mem_singleton.1 hΦ; exact hr)) (fun a S => ?_)
  simp only [Try.ntmps52, List.length_cons, List.length_nil, Nat.reduceAdd, Nat.reduceSub, List.replicate_succ, List.replicate_zero, List.cons_append, List.nil_append] at S
  refine c_seq ?_
  refine c_region ?_
  iterate 4 (refine sq S ?_; clear S; intro a S)
  refine wl_nil ?_
  refine xtn ?_
  refine c_cond S (fun h0 => ?_) (fun h0 => ?_)
  · refine c_region ?_
    iterate 3 (refine sq S ?_; clear S; intro a S)
    refine sw S ?_; clear S; intro a w S
    refine wl_nil ?_
    have h : v ≠ 0 := by simpa using h0
    have hh := S.box g
    refine end0 (R := fun _ w' => (Wk.box g 73 (cWal b q e (brkF x v))).holds w') S (fun _ => ?_)
    rw [show brkF x v = { x with broken := true } from by simp [brkF, h]]
    exact hh
  · refine c_skip ?_
    have h : v = 0 := by simpa using h0
    have hh := S.box g
    refine end0 (R := fun _ w' => (Wk.box g 73 (cWal b q e (brkF x v))).holds w') S (fun _ => ?_)
    rw [show brkF x v = x from by simp [brkF, h]]
    exact hh
section
variable {w0 : World} {M0 : Nat → Prop} {ds : List Deferred} {a : Act} {w : World} {l : List Value} {bs bs' : List Wk.Item} {fs : List (World → Prop)}
/-- an entry that is held is still there when other memory is written. -/
theorem St.entGl {x : Wk.Item} {ys : List LBy} (S : St w0 M0 ds a w l bs fs) (hap : ∀ k, (entI ys).foot k → ¬ x.foot k) [HasIt bs (entI ys)] {y : LBy} (hy : y ∈ ys) : Stable x.foot w (GlF y.p y.bs) := by
  have h := (S.it (entI ys)) y hy
  exact fun w' ha => gl_loc (fun ad hp => ha.blk (h.1 ad hp) (hap ad.block ⟨y, hy, ad, hp, rfl⟩)) h.2
theorem ent_row {y : LBy} {e : TypeId} (h : (Wk.row e 1 y.p y.bs.length y.c (encL y.bs)).holds w) : (entI [y]).holds w := fun x hx => by
  obtain rfl := List.mem_singleton.1 hx
  exact ⟨fun ad hp => row_foot_lt h ad.block ⟨ad, hp, rfl⟩, (gl_own (M := fun _ => False) h (fun _ _ _ _ => trivial) (fun _ _ h => h)).now⟩
theorem St.rowEnt (S : St w0 M0 ds a w l bs fs) (y : LBy) {e : TypeId} [hr : ReplI bs (Wk.row e 1 y.p y.bs.length y.c (encL y.bs)) (entI [y]) bs'] (h : (Wk.row e 1 y.p y.bs.length y.c (encL y.bs)).holds w) : St w0 M0 ds a w l bs' fs :=
  St.become S (Wk.row e 1 y.p y.bs.length y.c (encL y.bs)) (entI [y]) h ent_row (fun k ⟨x, hx, ad, hp, hk⟩ => by obtain rfl := List.mem_singleton.1 hx; exact ⟨ad, hp, hk.symm⟩)
theorem St.ofWd {w0 : World} {M0 : Nat → Prop} {w : World} {bs : List Wk.Item} {fs : List (World → Prop)} (h : Wd w0 M0 w bs fs) : St w0 M0 [] ⟨#[], []⟩ w [] bs fs := ⟨rfl, rfl, h⟩
end
/-- why bytes are not taken down, if they are not. -/
def roomF (x : WS) (bs : List UInt8) : Int := if refF x bs = 0 then (if x.n - x.fin < secN bs.length then 6 else 0) else refF x bs
theorem refF_zero {x : WS} {bs : List UInt8} (h : refF x bs = 0) : bs.length ≤ 40000 ∧ x.broken = false := by
  unfold refF at h
  split at h
  · cases h
  · split at h
    · cases h
    · exact ⟨by omega, by rename_i h2; simpa using h2⟩
/-- a log behind an appending. -/
def appS (x : WS) (y : LBy) (r : Int) : WS := if r = 0 then { x with said := x.said ++ [y], fin := x.fin + secN y.bs.length } else { x with broken := true }
theorem append_nil (y : LBy) (w0 : World) : Ret Try.prog 24 [.pointer none, .slice y.p y.bs.length y.c] w0 (fun _ => False) fun v _ => v = .int .i64 1 := by
  refine enterD Try.func24 rfl rfl (Wd.start w0) (fun a S => ?_)
  simp only [Try.ntmps24, List.length_cons, List.length_nil, Nat.reduceAdd, Nat.reduceSub, List.replicate_succ, List.replicate_zero, List.cons_append, List.nil_append] at S
  refine c_seq ?_
  refine c_region ?_
  refine sa S ?_; clear S; intro b4 a w S
  refine wl_nil ?_
  refine xtn ?_
  iterate 2 (refine c_seq ?_)
  refine c_region ?_
  iterate 2 (refine sq S ?_; clear S; intro a S)
  refine sr S (refuses_nil y _) ?_; clear S; rintro _ a w rfl S
  refine sq S ?_; clear S; intro a S
  refine wl_nil ?_
  refine xtn ?_
  refine c_seq ?_
  refine c_region ?_
  iterate 2 (refine sq S ?_; clear S; intro a S)
  refine wl_nil ?_
  refine xtn ?_
  refine c_condT S ?_
  refine c_seq ?_
  refine c_region ?_
  refine sq S ?_; clear S; intro a S
  refine sw S ?_; clear S; intro a w S
  refine wl_nil ?_
  refine xtn ?_
  refine c_ret ?_
  refine xtr ?_
  exact endD1 S rfl
theorem append_c (g b m : Nat) (p : Option Addr) (c : Nat) (s : DS) (q : Option Addr) (e : Nat) (x : WS) (y : LBy) (w0 : World) (hn : x.n ≤ 1000) (hfi : x.fin ≤ x.n) (hsl : x.said.length ≤ 1000000 ∧ x.said.length ≤ e) (hs0 : 0 < x.said.length) (ht : 0 ≤ x.turn ∧ x.turn ≤ 4294967295) (hyl : y.bs.length ≤ 1000000) (hl : s.loose.length ≤ 980000)
    (hd : (both (dkI b m p c s) (walI g b q e x)).holds w0) (f0 : Stable (both (dkI b m p c s) (walI g b q e x)).foot w0 (GlF y.p y.bs)) :
    Ret Try.prog 24 [.pointer (some ⟨g, 0, none⟩), .slice y.p y.bs.length y.c] w0 (both (dkI b m p c s) (walI g b q e x)).foot fun v w' =>
      (roomF x y.bs ≠ 0 ∧ v = .int .i64 (roomF x y.bs) ∧ (both (dkI b m p c s) (walI g b q e x)).holds w') ∨
      (roomF x y.bs = 0 ∧ v = .int .i64 (layF s ((fromN x.n x.turn + x.fin : Nat) : Int) (leavesF x.turn (x.said.length : Int) y.bs)).2 ∧ ∃ p' c' q' e', ∃ y' : LBy, y'.bs = y.bs ∧ (x.said.length ≤ e') ∧
        (both (dkI b m p' c' (layF s ((fromN x.n x.turn + x.fin : Nat) : Int) (leavesF x.turn (x.said.length : Int) y.bs)).1) (walI g b q' e' (appS x y' (layF s ((fromN x.n x.turn + x.fin : Nat) : Int) (leavesF x.turn (x.said.length : Int) y.bs)).2))).holds w' ∧
        ∀ k, (both (dkI b m p' c' (layF s ((fromN x.n x.turn + x.fin : Nat) : Int) (leavesF x.turn (x.said.length : Int) y.bs)).1) (walI g b q' e' (appS x y' (layF s ((fromN x.n x.turn + x.fin : Nat) : Int) (leavesF x.turn (x.said.length : Int) y.bs)).2))).foot k → (both (dkI b m p c s) (walI g b q e x)).foot k ∨ w0.heap.size ≤ k) := by
  have hfr : fromN x.n x.turn ≤ 1002 := by
    unfold fromN
    rcases (show (x.turn % 2).toNat = 0 ∨ (x.turn % 2).toNat = 1 by omega) with h | h <;> rw [h] <;> omega
  refine enterD Try.func24 rfl rfl (Wd.it2Lent (x := dkI b m p c s) (y := walI g b q e x) (fs := [GlF y.p y.bs]) hd rfl rfl (by intro Φ hΦ; obtain rfl := List.mem_singleton.1 hΦ; exact f0)) (fun a S => ?_)
  simp only [Try.ntmps24, List.length_cons, List.length_nil, Nat.reduceAdd, Nat.reduceSub, List.replicate_succ, List.replicate_zero, List.cons_append, List.nil_append] at S
  replace S := S.front (walI g b q e x)
  replace S := St.open3 S
  refine c_seq ?_
  refine c_region ?_
  refine sa S ?_; clear S; intro b4 a w S
  refine wl_nil ?_
  refine xtn ?_
  iterate 2 (refine c_seq ?_)
  refine c_region ?_
  iterate 2 (refine sq S ?_; clear S; intro a S)
  refine sr S (refuses_c g b q e x y _ (BoxF.stable (S.boxF g) (fun h => h))) ?_; clear S; rintro _ a w rfl S
  refine sq S ?_; clear S; intro a S
  refine wl_nil ?_
  refine xtn ?_
  refine c_seq ?_
  refine c_region ?_
  iterate 2 (refine sq S ?_; clear S; intro a S)
  refine wl_nil ?_
  refine xtn ?_
  refine c_cond S (fun h2 => ?_) (fun h2 => ?_)
  · refine c_seq ?_
    refine c_region ?_
    refine sq S ?_; clear S; intro a S
    refine sw S ?_; clear S; intro a w S
    refine wl_nil ?_
    refine xtn ?_
    refine c_ret ?_
    refine xtr ?_
    have he : refF x y.bs ≠ 0 := by simpa using h2
    have hR : roomF x y.bs = refF x y.bs := by rw [roomF, if_neg he]
    have hh := St.hold4 (S.sub [Wk.box g 73 (cWal b q e x), Wk.row 35 1 q x.said.length e (encL x.said), entI x.said, dkI b m p c s] []) rfl rfl rfl rfl
    refine endD1 S (.inl ?_)
    rw [hR]
    exact ⟨he, rfl, hh⟩
  · refine c_skip ?_
    refine xtn ?_
    refine c_seq ?_
    have he : refF x y.bs = 0 := by simpa using h2
    obtain ⟨hy4, hbk⟩ := refF_zero he
    refine c_region ?_
    iterate 2 (refine sq S ?_; clear S; intro a S)
    refine sr S (sectors_c (y.bs.length : Int) _) ?_; clear S; rintro _ a w rfl S
    rw [secF_nat _ hy4] at S
    refine sq S ?_; clear S; intro a S
    refine wl_nil ?_
    refine xtn ?_
    iterate 2 (refine c_seq ?_)
    refine c_drawD [(0, true), (1, true), (2, true), (3, true), (4, true), (5, true), (6, true), (7, true), (8, true), (9, true), (10, true), (11, true)] [] S ?_; clear S; intro w S
    iterate 12 (refine dq S ?_; clear S; intro a S)
    refine dn ?_
    refine xtn ?_
    refine c_cond S (fun h5 => ?_) (fun h5 => ?_)
    · refine c_seq ?_
      refine c_region ?_
      refine sw S ?_; clear S; intro a w S
      refine wl_nil ?_
      refine xtn ?_
      refine c_ret ?_
      refine xtr ?_
      have hro : x.n - x.fin < secN y.bs.length := by
        have := of_decide_eq_true h5
        rw [w64 _ (by omega) (by omega)] at this; omega
      have hR : roomF x y.bs = 6 := by rw [roomF, if_pos he, if_pos hro]
      have hh := St.hold4 (S.sub [Wk.box g 73 (cWal b q e x), Wk.row 35 1 q x.said.length e (encL x.said), entI x.said, dkI b m p c s] []) rfl rfl rfl rfl
      refine endD1 S (.inl ?_)
      rw [hR]
      exact ⟨by decide, rfl, hh⟩
    · refine c_skip ?_
      refine xtn ?_
      refine c_seq ?_
      have hro : ¬ x.n - x.fin < secN y.bs.length := by
        have := of_decide_eq_false h5
        rw [w64 _ (by omega) (by omega)] at this; omega
      refine c_region ?_
      refine sq S ?_; clear S; intro a S
      refine sdefc S ?_; clear S; intro a S
      refine wl_nil ?_
      refine xtn ?_
      refine c_seq ?_
      refine c_region ?_
      refine sq S ?_; clear S; intro a S
      replace S := S.addNil 5 1
      refine sap S (by simp only [maxLen]; omega) (by omega) ?_; clear S; rintro p8 c8 a w - S
      rw [show ([] : List Value) ++ encL y.bs = encL y.bs from rfl, Nat.zero_add] at S
      have hc8 := own_le (S.row p8 y.bs.length)
      replace S := St.rowEnt S ⟨p8, c8, y.bs⟩ (S.row p8 y.bs.length)
      obtain ⟨y', hy'⟩ : ∃ y' : LBy, y' = ⟨p8, c8, y.bs⟩ := ⟨_, rfl⟩
      rw [← hy'] at S
      obtain ⟨R, hR⟩ : ∃ R, R = layF s ((fromN x.n x.turn + x.fin : Nat) : Int) (leavesF x.turn (x.said.length : Int) y.bs) := ⟨_, rfl⟩
      have hro0 : roomF x y.bs = 0 := by rw [roomF, if_pos he, if_neg hro]
      have hll : (leavesF x.turn (x.said.length : Int) y.bs).length ≤ 834 := by rw [leavesF_len]; exact secN_le _ hy4
      refine sq S ?_; clear S; intro a S
      refine wl_nil ?_
      refine xtn ?_
      iterate 2 (refine c_seq ?_)
      refine c_drawL 29 [(0, true), (1, true), (2, true), (3, true), (4, true), (5, true), (6, true), (7, true), (8, true), (10, true), (11, true), (12, true), (13, true), (15, true), (16, true), (17, true), (18, true), (19, true), (20, true), (21, true), (22, true), (23, true), (24, true), (25, true), (26, true), (9, false), (14, true), (27, false), (28, false), (29, false)] [Wk.box g 73 (cWal b q e x)] S ?_; clear S; intro w S
      iterate 24 (refine dqL S ?_; clear S; intro a S)
      rw [wu32 (x.said.length : Int) (by omega) (by omega)] at S
      refine dqL S ?_; clear S; intro a S
      refine dlL ?_
      refine sr S (from_c b x.n x.turn hn ht _) ?_; clear S; rintro _ a w rfl S
      refine deL S ?_
      refine dqL S ?_; clear S; intro a S
      rw [show IntKind.i64.wrap ((fromN x.n x.turn : Int) + (x.fin : Int)) = ((fromN x.n x.turn + x.fin : Nat) : Int) from by rw [w64 _ (by omega) (by omega)]; rfl] at S
      refine dlL ?_
      have hlt := foots_lt S
      refine sr S (leaves_f x.turn (x.said.length : Int) p8 y.bs.length c8 _) ?_; clear S; rintro _ a w ⟨h0, h1, h2', rfl, ⟨n0, n1, n2⟩, e0, e1, e2⟩ S
      replace S := S.add (Φ := BoxF h0 35 [.slice p8 y.bs.length c8]) (BoxF.stable e0 (fun hm => by have := hlt _ hm; omega))
      replace S := S.add (Φ := BoxF h1 30 [.int .u32 x.turn]) (BoxF.stable e1 (fun hm => by have := hlt _ hm; omega))
      replace S := S.add (Φ := BoxF h2' 30 [.int .u32 (x.said.length : Int)]) (BoxF.stable e2 (fun hm => by have := hlt _ hm; omega))
      refine deL S ?_
      refine dlL ?_
      have hgl : Stable (dkI b m p c s).foot w (GlF y'.p y'.bs) := St.entGl S (fun k hk hk2 => St.apart2 S (entI [y']) (dkI b m p c s) k hk hk2) (by simp)
      rw [hy'] at hgl
      refine sit (dkI b m p c s) S (lay_c 74 [.pointer (some ⟨h0, 0, none⟩), .pointer (some ⟨h1, 0, none⟩), .pointer (some ⟨h2', 0, none⟩)] (leavesF x.turn (x.said.length : Int) y.bs) b m p c s (fromN x.n x.turn + x.fin) [GlF p8 y.bs, BoxF h2' 30 [.int .u32 (x.said.length : Int)], BoxF h1 30 [.int .u32 x.turn], BoxF h0 35 [.slice p8 y.bs.length c8]] _ (by omega) (by omega) (S.it (dkI b m p c s)) (fun Φ hΦ => by
        rcases List.mem_cons.1 hΦ with rfl | hΦ
        · exact hgl
        · exact S.lend (dkI b m p c s) (S.wd.facts Φ (List.mem_append_left _ hΦ))) (fun M w1 hM hF => leaves_it x.turn (x.said.length : Int) ht (by omega) h0 h1 h2' y.bs p8 c8 hy4 hc8 w1 M hM (hF _ (by simp)) (hF _ (by simp)) (hF _ (by simp)) (hF _ (by simp)))) rfl ?_; clear S hgl; rintro _ a w ⟨rfl, p2, c2, hh, hn2⟩ hS
      have S := hS (dkI b m p2 c2 (layF s ((fromN x.n x.turn + x.fin : Nat) : Int) (leavesF x.turn (x.said.length : Int) y.bs)).1) hh hn2
      clear hS
      rw [← hR] at S
      refine deL S ?_
      refine dlL ?_
      refine sw S ?_; clear S; intro a w S
      refine dzL ?_
      refine xtn ?_
      refine c_seq ?_
      refine c_region ?_
      iterate 2 (refine sq S ?_; clear S; intro a S)
      refine wl_nil ?_
      refine xtn ?_
      refine c_cond S (fun h10 => ?_) (fun h10 => ?_)
      · refine c_seq ?_
        have hR2 : R.2 = 0 := of_decide_eq_true h10
        obtain ⟨gq, cur, hq, -⟩ := own_cells (S.row q x.said.length) hs0
        have hLe : LeC x.said.length e := ⟨hsl.2⟩
        have hLl : LeC x.said.length x.said.length := ⟨Nat.le_refl _⟩
        have hL0 : LeC 0 x.said.length := ⟨Nat.zero_le _⟩
        subst hq
        refine c_drawL 21 [(0, true), (1, true), (2, true), (3, true), (4, true), (5, true), (6, true), (7, true), (8, true), (9, true), (10, true), (11, true), (12, true), (13, true), (14, true), (15, true), (16, true), (17, false), (18, false), (19, false), (20, true), (21, false)] [Wk.box g 73 (cWal b (some ⟨gq, 0, none⟩) e x)] S ?_; clear S; intro w S
        iterate 17 (refine dqL S ?_; clear S; intro a S)
        refine dlL ?_
        refine sn S ?_; clear S; intro b80 a w S
        refine deL S ?_
        refine dlL ?_
        have hrow := S.row (some ⟨gq, 0, none⟩) x.said.length
        refine sapG ⟨gq, 0, none⟩ x.said.length (encL x.said) S (by rw [encL_len]; rfl) (fun j u hj => (own_sl hrow).2 _ rfl j u hj) (by omega) (by simp only [maxLen]; omega) (by omega) ?_
        clear S; intro g2 c2' a w S
        rw [show encL x.said ++ [.slice p8 y.bs.length c8] = encL (x.said ++ [y']) from by rw [hy', encL_append]; rfl] at S
        refine deL S ?_
        refine dlL ?_
        refine sq S ?_; clear S; intro a S
        refine deL S ?_
        refine dqL S ?_; clear S; intro a S
        refine dlL ?_
        refine sw S ?_; clear S; intro a w S
        refine dzL ?_
        refine xtn ?_
        refine c_region ?_
        iterate 6 (refine sq S ?_; clear S; intro a S)
        rw [show IntKind.i64.wrap ((x.fin : Int) + (secN y.bs.length : Int)) = ((x.fin + secN y.bs.length : Nat) : Int) from by rw [w64 _ (by omega) (by omega)]; rfl] at S
        iterate 2 (refine sq S ?_; clear S; intro a S)
        refine sw S ?_; clear S; intro a w S
        refine wl_nil ?_
        refine xtn ?_
        refine c_seq ?_
        refine c_region ?_
        refine sq S ?_; clear S; intro a S
        refine sw S ?_; clear S; intro a w S
        refine wl_nil ?_
        refine xtn ?_
        refine c_ret ?_
        obtain ⟨x', hx'⟩ : ∃ x' : WS, x' = { x with said := x.said ++ [y'], fin := x.fin + secN y.bs.length } := ⟨_, rfl⟩
        have hya : y'.bs = y.bs := by rw [hy']
        have hap : appS x y' R.2 = x' := by rw [appS, if_pos hR2, hx', hya]
        have hbr : brkF x' R.2 = x' := by rw [brkF, hR2]; simp
        replace S := S.sub [Wk.row 35 1 (some ⟨g2, 0, none⟩) (x.said.length + 1) c2' (encL (x.said ++ [y'])), entI [y'], Wk.box b4 38 [.int .i64 R.2], Wk.box g 73 [.pointer (some ⟨b, 0, none⟩), .int .i64 (x.n : Int), .int .u32 x.turn, .slice (some ⟨g2, 0, none⟩) (x.said.length + 1) c2', .int .i64 ((x.fin + secN y.bs.length : Nat) : Int), .bool x.broken], entI x.said, dkI b m p2 c2 R.1] []
        replace S := S.front (entI x.said)
        replace S := S.front (entI [y'])
        replace S := St.entAdd S
        rw [show x.said.length + 1 = x'.said.length from by rw [hx']; simp] at S
        replace S := St.items S (bs' := [entI x'.said, Wk.row 35 1 (some ⟨g2, 0, none⟩) x'.said.length c2' (encL x'.said), Wk.box b4 38 [.int .i64 R.2], Wk.box g 73 (cWal b (some ⟨g2, 0, none⟩) c2' x'), dkI b m p2 c2 R.1]) (by rw [hx'])
        have hc2 := own_le (S.row (some ⟨g2, 0, none⟩) x'.said.length)
        have hne : ¬ b4 = g := St.apart2 S (Wk.box b4 38 [.int .i64 R.2]) (Wk.box g 73 (cWal b (some ⟨g2, 0, none⟩) c2' x')) b4 rfl
        refine endDef1 (Wk.box g 73 (cWal b (some ⟨g2, 0, none⟩) c2' x')) (Wk.box g 73 (cWal b (some ⟨g2, 0, none⟩) c2' (brkF x' R.2))) S rfl ((breaks_d g b4 b (some ⟨g2, 0, none⟩) c2' x' R.2 .returning w (S.box g) (BoxF.stable (S.boxF b4) hne)).mono fun _ _ _ h => h) (fun _ h => h) (fun w' hwd => ?_)
        rw [hbr] at hwd
        have S2 := (St.ofWd hwd).sub [entI x'.said, Wk.row 35 1 (some ⟨g2, 0, none⟩) x'.said.length c2' (encL x'.said), Wk.box g 73 (cWal b (some ⟨g2, 0, none⟩) c2' x'), dkI b m p2 c2 R.1] []
        have S3 := S2.perm [Wk.box g 73 (cWal b (some ⟨g2, 0, none⟩) c2' x'), Wk.row 35 1 (some ⟨g2, 0, none⟩) x'.said.length c2' (encL x'.said), entI x'.said, dkI b m p2 c2 R.1] (((List.Perm.swap _ _ _).trans ((List.Perm.cons _ (List.Perm.swap _ _ _)))).trans (List.Perm.swap _ _ _))
        have hh := St.hold4 S3 rfl rfl rfl rfl
        have h1 := St.new4 S3 rfl rfl rfl rfl
        refine .inr ⟨hro0, by rw [hR], p2, c2, some ⟨g2, 0, none⟩, c2', y', hya, by rw [hx'] at hc2; simp at hc2; omega, ?_⟩
        rw [← hR, hap]
        exact ⟨hh, h1⟩
      · refine c_skip ?_
        refine xtn ?_
        refine c_seq ?_
        refine c_region ?_
        refine sq S ?_; clear S; intro a S
        refine sw S ?_; clear S; intro a w S
        refine wl_nil ?_
        refine xtn ?_
        refine c_ret ?_
        have hR2 : R.2 ≠ 0 := of_decide_eq_false h10
        have hap : appS x y' R.2 = { x with broken := true } := by rw [appS, if_neg hR2]
        have hbr : brkF x R.2 = { x with broken := true } := by simp [brkF, hR2]
        have S := S.sub [Wk.box b4 38 [.int .i64 R.2], Wk.box g 73 (cWal b q e x), Wk.row 35 1 q x.said.length e (encL x.said), entI x.said, dkI b m p2 c2 R.1] []
        have hne : ¬ b4 = g := St.apart2 S (Wk.box b4 38 [.int .i64 R.2]) (Wk.box g 73 (cWal b q e x)) b4 rfl
        refine endDef1 (Wk.box g 73 (cWal b q e x)) (Wk.box g 73 (cWal b q e (brkF x R.2))) S rfl ((breaks_d g b4 b q e x R.2 .returning w (S.box g) (BoxF.stable (S.boxF b4) hne)).mono fun _ _ _ h => h) (fun _ h => h) (fun w' hwd => ?_)
        rw [hbr] at hwd
        have S3 := (St.ofWd hwd).sub [Wk.box g 73 (cWal b q e { x with broken := true }), Wk.row 35 1 q x.said.length e (encL x.said), entI x.said, dkI b m p2 c2 R.1] []
        have hh := St.hold4 S3 rfl rfl rfl rfl
        have h1 := St.new4 S3 rfl rfl rfl rfl
        refine .inr ⟨hro0, by rw [hR], p2, c2, q, e, y', by rw [hy'], hsl.2, ?_⟩
        rw [← hR, hap]
        exact ⟨hh, h1⟩
end Go.Proofs.Ythffheckghdelaa

/- Package wal: Checkpoint. -/
namespace Go.Proofs.Ythffheckghdelaa
open Go Go.Wk
set_option synthInstance.maxSize 100000
set_option synthInstance.maxHeartbeats 400000
set_option maxRecDepth 100000

theorem upT_range (t : Int) : 0 ≤ upT t ∧ upT t ≤ 4294967295 := by
  unfold upT IntKind.wrap
  simp only [IntKind.bits, IntKind.signed, Bool.false_and]
  simp; omega
/-- why bytes are not taken down as a checkpoint. -/
def roomC (x : WS) (bs : List UInt8) : Int := if refF x bs = 0 then (if x.n < secN bs.length ∨ upT x.turn = 0 then 6 else 0) else refF x bs
/-- a log behind a checkpoint. -/
def chkS (x : WS) (y : LBy) (r : Int) : WS := if r = 0 then { x with turn := upT x.turn, said := [y], fin := secN y.bs.length } else { x with broken := true }
theorem chk_nil (y : LBy) (w0 : World) : Ret Try.prog 25 [.pointer none, .slice y.p y.bs.length y.c] w0 (fun _ => False) fun v _ => v = .int .i64 1 := by
  refine enterD Try.func25 rfl rfl (Wd.start w0) (fun a S => ?_)
  simp only [Try.ntmps25, List.length_cons, List.length_nil, Nat.reduceAdd, Nat.reduceSub, List.replicate_succ, List.replicate_zero, List.cons_append, List.nil_append] at S
  refine c_seq ?_
  refine c_region ?_
  refine sa S ?_; clear S; intro b4 a w S
  refine wl_nil ?_
  refine xtn ?_
  iterate 2 (refine c_seq ?_)
  refine c_region ?_
  iterate 2 (refine sq S ?_; clear S; intro a S)
  refine sr S (refuses_nil y _) ?_; clear S; rintro _ a w rfl S
  refine sq S ?_; clear S; intro a S
  refine wl_nil ?_
  refine xtn ?_
  refine c_seq ?_
  refine c_region ?_
  iterate 2 (refine sq S ?_; clear S; intro a S)
  refine wl_nil ?_
  refine xtn ?_
  refine c_condT S ?_
  refine c_seq ?_
  refine c_region ?_
  refine sq S ?_; clear S; intro a S
  refine sw S ?_; clear S; intro a w S
  refine wl_nil ?_
  refine xtn ?_
  refine c_ret ?_
  refine xtr ?_
  exact endD1 S rfl
theorem chk_c (g b m : Nat) (p : Option Addr) (c : Nat) (s : DS) (q : Option Addr) (e : Nat) (x : WS) (y : LBy) (w0 : World) (hn : x.n ≤ 1000) (_ht : 0 ≤ x.turn ∧ x.turn ≤ 4294967295) (hyl : y.bs.length ≤ 1000000) (hl : s.loose.length ≤ 980000)
    (hd : (both (dkI b m p c s) (walI g b q e x)).holds w0) (f0 : Stable (both (dkI b m p c s) (walI g b q e x)).foot w0 (GlF y.p y.bs)) :
    Ret Try.prog 25 [.pointer (some ⟨g, 0, none⟩), .slice y.p y.bs.length y.c] w0 (both (dkI b m p c s) (walI g b q e x)).foot fun v w' =>
      (roomC x y.bs ≠ 0 ∧ v = .int .i64 (roomC x y.bs) ∧ (both (dkI b m p c s) (walI g b q e x)).holds w') ∨
      (roomC x y.bs = 0 ∧ v = .int .i64 (begF x.n (upT x.turn) y.bs s).2 ∧ ∃ p' c' q' e', ∃ y' : LBy, y'.bs = y.bs ∧ ((begF x.n (upT x.turn) y.bs s).2 ≠ 0 → q' = q ∧ e' = e) ∧ ((begF x.n (upT x.turn) y.bs s).2 = 0 → 1 ≤ e') ∧
        (both (dkI b m p' c' (begF x.n (upT x.turn) y.bs s).1) (walI g b q' e' (chkS x y' (begF x.n (upT x.turn) y.bs s).2))).holds w' ∧
        ∀ k, (both (dkI b m p' c' (begF x.n (upT x.turn) y.bs s).1) (walI g b q' e' (chkS x y' (begF x.n (upT x.turn) y.bs s).2))).foot k → (both (dkI b m p c s) (walI g b q e x)).foot k ∨ w0.heap.size ≤ k) := by
  have hut := upT_range x.turn
  refine enterD Try.func25 rfl rfl (Wd.it2Lent (x := dkI b m p c s) (y := walI g b q e x) (fs := [GlF y.p y.bs]) hd rfl rfl (by intro Φ hΦ; obtain rfl := List.mem_singleton.1 hΦ; exact f0)) (fun a S => ?_)
  simp only [Try.ntmps25, List.length_cons, List.length_nil, Nat.reduceAdd, Nat.reduceSub, List.replicate_succ, List.replicate_zero, List.cons_append, List.nil_append] at S
  replace S := S.front (walI g b q e x)
  replace S := St.open3 S
  refine c_seq ?_
  refine c_region ?_
  refine sa S ?_; clear S; intro b4 a w S
  refine wl_nil ?_
  refine xtn ?_
  iterate 2 (refine c_seq ?_)
  refine c_region ?_
  iterate 2 (refine sq S ?_; clear S; intro a S)
  refine sr S (refuses_c g b q e x y _ (BoxF.stable (S.boxF g) (fun h => h))) ?_; clear S; rintro _ a w rfl S
  refine sq S ?_; clear S; intro a S
  refine wl_nil ?_
  refine xtn ?_
  refine c_seq ?_
  refine c_region ?_
  iterate 2 (refine sq S ?_; clear S; intro a S)
  refine wl_nil ?_
  refine xtn ?_
  refine c_cond S (fun h2 => ?_) (fun h2 => ?_)
  · refine c_seq ?_
    refine c_region ?_
    refine sq S ?_; clear S; intro a S
    refine sw S ?_; clear S; intro a w S
    refine wl_nil ?_
    refine xtn ?_
    refine c_ret ?_
    refine xtr ?_
    have he : refF x y.bs ≠ 0 := by simpa using h2
    have hR : roomC x y.bs = refF x y.bs := by rw [roomC, if_neg he]
    have hh := St.hold4 (S.sub [Wk.box g 73 (cWal b q e x), Wk.row 35 1 q x.said.length e (encL x.said), entI x.said, dkI b m p c s] []) rfl rfl rfl rfl
    refine endD1 S (.inl ?_)
    rw [hR]
    exact ⟨he, rfl, hh⟩
  · refine c_skip ?_
    refine xtn ?_
    refine c_seq ?_
    have he : refF x y.bs = 0 := by simpa using h2
    obtain ⟨hy4, hbk⟩ := refF_zero he
    refine c_region ?_
    iterate 2 (refine sq S ?_; clear S; intro a S)
    refine sr S (sectors_c (y.bs.length : Int) _) ?_; clear S; rintro _ a w rfl S
    rw [secF_nat _ hy4] at S
    refine sq S ?_; clear S; intro a S
    refine wl_nil ?_
    refine xtn ?_
    iterate 2 (refine c_seq ?_)
    refine c_region ?_
    iterate 8 (refine sq S ?_; clear S; intro a S)
    iterate 7 (refine gQ S ?_; clear S; intro a S)
    refine sq S ?_; clear S; intro a S
    refine wl_nil ?_
    refine xtn ?_
    refine c_cond S (fun h5 => ?_) (fun h5 => ?_)
    · refine c_seq ?_
      refine c_region ?_
      refine sw S ?_; clear S; intro a w S
      refine wl_nil ?_
      refine xtn ?_
      refine c_ret ?_
      refine xtr ?_
      have hro : x.n < secN y.bs.length ∨ upT x.turn = 0 := by
        rw [show IntKind.u32.wrap (x.turn + 1) = upT x.turn from rfl] at h5
        simp at h5; omega
      have hR : roomC x y.bs = 6 := by rw [roomC, if_pos he, if_pos hro]
      have hh := St.hold4 (S.sub [Wk.box g 73 (cWal b q e x), Wk.row 35 1 q x.said.length e (encL x.said), entI x.said, dkI b m p c s] []) rfl rfl rfl rfl
      refine endD1 S (.inl ?_)
      rw [hR]
      exact ⟨by decide, rfl, hh⟩
    · refine c_skip ?_
      refine xtn ?_
      refine c_seq ?_
      have hro : ¬ (x.n < secN y.bs.length ∨ upT x.turn = 0) := by
        rw [show IntKind.u32.wrap (x.turn + 1) = upT x.turn from rfl] at h5
        simp at h5; omega
      refine c_region ?_
      refine sq S ?_; clear S; intro a S
      refine sdefc S ?_; clear S; intro a S
      refine wl_nil ?_
      refine xtn ?_
      refine c_seq ?_
      refine c_region ?_
      refine sq S ?_; clear S; intro a S
      replace S := S.addNil 5 1
      refine sap S (by simp only [maxLen]; omega) (by omega) ?_; clear S; rintro p8 c8 a w - S
      rw [show ([] : List Value) ++ encL y.bs = encL y.bs from rfl, Nat.zero_add] at S
      have hc8 := own_le (S.row p8 y.bs.length)
      replace S := St.rowEnt S ⟨p8, c8, y.bs⟩ (S.row p8 y.bs.length)
      obtain ⟨y', hy'⟩ : ∃ y' : LBy, y' = ⟨p8, c8, y.bs⟩ := ⟨_, rfl⟩
      rw [← hy'] at S
      obtain ⟨R, hR⟩ : ∃ R, R = begF x.n (upT x.turn) y.bs s := ⟨_, rfl⟩
      have hro0 : roomC x y.bs = 0 := by rw [roomC, if_pos he, if_neg hro]
      refine sq S ?_; clear S; intro a S
      refine wl_nil ?_
      refine xtn ?_
      refine c_seq ?_
      refine c_region ?_
      iterate 4 (refine sq S ?_; clear S; intro a S)
      refine sr S (next_c b x.n x.turn _) ?_; clear S; rintro _ a w rfl S
      refine sa S ?_; clear S; intro b8 a w S
      refine sw S ?_; clear S; intro a w S
      refine wl_nil ?_
      refine xtn ?_
      iterate 2 (refine c_seq ?_)
      refine c_region ?_
      iterate 2 (refine sq S ?_; clear S; intro a S)
      have hgl : Stable (dkI b m p c s).foot w (GlF y'.p y'.bs) := St.entGl S (fun k hk hk2 => St.apart2 S (entI [y']) (dkI b m p c s) k hk hk2) (by simp)
      rw [hy'] at hgl
      refine sit (dkI b m p c s) S (begin_c b m x.n p c s (upT x.turn) y.bs p8 c8 _ hn hut hy4 hc8 (by omega) (S.it (dkI b m p c s)) hgl) rfl ?_; clear S hgl; rintro _ a w ⟨rfl, p2, c2, hh, hn2⟩ hS
      have S := hS (dkI b m p2 c2 (begF x.n (upT x.turn) y.bs s).1) hh hn2
      clear hS
      rw [← hR] at S
      refine sw S ?_; clear S; intro a w S
      refine wl_nil ?_
      refine xtn ?_
      refine c_seq ?_
      refine c_region ?_
      iterate 2 (refine sq S ?_; clear S; intro a S)
      refine wl_nil ?_
      refine xtn ?_
      refine c_cond S (fun h11 => ?_) (fun h11 => ?_)
      · refine c_region ?_
        iterate 5 (refine sq S ?_; clear S; intro a S)
        refine sn S ?_; clear S; intro b52 a w S
        iterate 3 (refine sq S ?_; clear S; intro a S)
        refine sw S ?_; clear S; intro a w S
        iterate 2 (refine sq S ?_; clear S; intro a S)
        refine sw S ?_; clear S; intro a w S
        iterate 2 (refine sq S ?_; clear S; intro a S)
        refine sw S ?_; clear S; intro a w S
        refine wl_nil ?_
        refine xtn ?_
        refine c_seq ?_
        refine c_region ?_
        refine sq S ?_; clear S; intro a S
        refine sw S ?_; clear S; intro a w S
        refine wl_nil ?_
        refine xtn ?_
        refine c_ret ?_
        have hR2 : R.2 = 0 := of_decide_eq_true h11
        obtain ⟨x', hx'⟩ : ∃ x' : WS, x' = { x with turn := upT x.turn, said := [y'], fin := secN y.bs.length } := ⟨_, rfl⟩
        have hya : y'.bs = y.bs := by rw [hy']
        have hap : chkS x y' R.2 = x' := by rw [chkS, if_pos hR2, hx', hya]
        have hbr : brkF x' R.2 = x' := by rw [brkF, hR2]; simp
        replace S := S.boxRow b52 1 1 rfl (by decide)
        replace S := S.sub [Wk.row 35 1 (some ⟨b52, 0, none⟩) 1 1 [.slice p8 y.bs.length c8], entI [y'], Wk.box b4 38 [.int .i64 R.2], Wk.box g 73 [.pointer (some ⟨b, 0, none⟩), .int .i64 (x.n : Int), .int .u32 (upT x.turn), .slice (some ⟨b52, 0, none⟩) 1 1, .int .i64 (secN y.bs.length : Int), .bool x.broken], dkI b m p2 c2 R.1] []
        replace S := St.items S (bs' := [Wk.row 35 1 (some ⟨b52, 0, none⟩) x'.said.length 1 (encL x'.said), entI x'.said, Wk.box b4 38 [.int .i64 R.2], Wk.box g 73 (cWal b (some ⟨b52, 0, none⟩) 1 x'), dkI b m p2 c2 R.1]) (by rw [hx', hy']; rfl)
        have hne : ¬ b4 = g := St.apart2 S (Wk.box b4 38 [.int .i64 R.2]) (Wk.box g 73 (cWal b (some ⟨b52, 0, none⟩) 1 x')) b4 rfl
        refine endDef1 (Wk.box g 73 (cWal b (some ⟨b52, 0, none⟩) 1 x')) (Wk.box g 73 (cWal b (some ⟨b52, 0, none⟩) 1 (brkF x' R.2))) S rfl ((breaks_d g b4 b (some ⟨b52, 0, none⟩) 1 x' R.2 .returning w (S.box g) (BoxF.stable (S.boxF b4) hne)).mono fun _ _ _ h => h) (fun _ h => h) (fun w' hwd => ?_)
        rw [hbr] at hwd
        have S2 := (St.ofWd hwd).sub [Wk.row 35 1 (some ⟨b52, 0, none⟩) x'.said.length 1 (encL x'.said), entI x'.said, Wk.box g 73 (cWal b (some ⟨b52, 0, none⟩) 1 x'), dkI b m p2 c2 R.1] []
        have S3 := S2.perm [Wk.box g 73 (cWal b (some ⟨b52, 0, none⟩) 1 x'), Wk.row 35 1 (some ⟨b52, 0, none⟩) x'.said.length 1 (encL x'.said), entI x'.said, dkI b m p2 c2 R.1] ((List.Perm.swap _ _ _).trans (List.Perm.cons _ (List.Perm.swap _ _ _)))
        have hh := St.hold4 S3 rfl rfl rfl rfl
        have h1 := St.new4 S3 rfl rfl rfl rfl
        refine .inr ⟨hro0, by rw [hR], p2, c2, some ⟨b52, 0, none⟩, 1, y', hya, fun h => absurd (hR ▸ hR2) h, fun _ => Nat.le_refl _, ?_⟩
        rw [← hR, hap]
        exact ⟨hh, h1⟩
      · refine c_skip ?_
        refine xtn ?_
        refine c_seq ?_
        refine c_region ?_
        refine sq S ?_; clear S; intro a S
        refine sw S ?_; clear S; intro a w S
        refine wl_nil ?_
        refine xtn ?_
        refine c_ret ?_
        have hR2 : R.2 ≠ 0 := of_decide_eq_false h11
        have hap : chkS x y' R.2 = { x with broken := true } := by rw [chkS, if_neg hR2]
        have hbr : brkF x R.2 = { x with broken := true } := by simp [brkF, hR2]
        have S := S.sub [Wk.box b4 38 [.int .i64 R.2], Wk.box g 73 (cWal b q e x), Wk.row 35 1 q x.said.length e (encL x.said), entI x.said, dkI b m p2 c2 R.1] []
        have hne : ¬ b4 = g := St.apart2 S (Wk.box b4 38 [.int .i64 R.2]) (Wk.box g 73 (cWal b q e x)) b4 rfl
        refine endDef1 (Wk.box g 73 (cWal b q e x)) (Wk.box g 73 (cWal b q e (brkF x R.2))) S rfl ((breaks_d g b4 b q e x R.2 .returning w (S.box g) (BoxF.stable (S.boxF b4) hne)).mono fun _ _ _ h => h) (fun _ h => h) (fun w' hwd => ?_)
        rw [hbr] at hwd
        have S3 := (St.ofWd hwd).sub [Wk.box g 73 (cWal b q e { x with broken := true }), Wk.row 35 1 q x.said.length e (encL x.said), entI x.said, dkI b m p2 c2 R.1] []
        have hh := St.hold4 S3 rfl rfl rfl rfl
        have h1 := St.new4 S3 rfl rfl rfl rfl
        refine .inr ⟨hro0, by rw [hR], p2, c2, q, e, y', by rw [hy'], fun _ => ⟨rfl, rfl⟩, fun h => absurd h (by rw [← hR]; exact hR2), ?_⟩
        rw [← hR, hap]
        exact ⟨hh, h1⟩
end Go.Proofs.Ythffheckghdelaa

/- Disks in plain words: what they hold, behind writes, a sync, a crash. -/
namespace Go.Proofs.Ythffheckghdelaa
open Go Go.Wk
set_option maxRecDepth 100000

theorem getB_put (k u : Int) (v : Blk) : ∀ f, getB k (putB u v f) = if k = u then some v else getB k f
  | [] => by simp [putB, getB]
  | (w, x) :: f => by
    rw [putB]
    split
    · rename_i h
      subst h
      rw [getB, getB]
      split <;> rfl
    · rename_i h
      rw [getB, getB, getB_put k u v f]
      by_cases hw : k = w
      · subst hw; rw [if_pos rfl, if_pos rfl, if_neg (fun e => h e.symm)]
      · rw [if_neg hw, if_neg hw]
theorem findB_snoc (k : Int) (x : LWr) : ∀ l, findB k (l ++ [x]) = (if x.at_ = k then some x.b else none).or (findB k l)
  | [] => by simp [findB]
  | y :: l => by rw [List.cons_append, findB, findB_snoc k x l, findB, Option.or_assoc]
theorem settle_all (j : Int) (l : List LWr) (f : List (Int × Blk)) : ∀ k, k ≤ l.length → getB j (settleK (fun _ => true) l f k) = (findB j (l.take k)).or (getB j f)
  | 0, _ => by rw [settleK, List.take_zero, findB, Option.none_or]
  | k + 1, h => by
    rw [settleK, if_pos rfl, getB_put, take_snocW (by omega), findB_snoc, settle_all j l f k (by omega)]
    by_cases e : j = (nthG l k).at_
    · rw [if_pos e, if_pos e.symm]; rfl
    · rw [if_neg e, if_neg (fun h => e h.symm)]; rfl
theorem settle_any (j : Int) (st : Nat → Bool) (l : List LWr) (f : List (Int × Blk)) : ∀ k, k ≤ l.length → getB j (settleK st l f k) = getB j f ∨ ∃ x ∈ l, x.at_ = j ∧ getB j (settleK st l f k) = some x.b
  | 0, _ => .inl rfl
  | k + 1, h => by
    rw [settleK]
    split
    · rw [getB_put]
      by_cases e : j = (nthG l k).at_
      · rw [if_pos e]; exact .inr ⟨nthG l k, nthG_mem (by omega), e.symm, rfl⟩
      · rw [if_neg e]; exact settle_any j st l f k (by omega)
    · exact settle_any j st l f k (by omega)
theorem holds_firm {s : DS} (h : s.loose = []) (k : Int) : holdsF s k = (getB k s.firm).getD zB := by rw [holdsF, h, findB, Option.none_or]
/-- a disk with power, where nothing is to fail. -/
structure Up (s : DS) : Prop where
  on : s.out = false
  fit : s.fails.on = false
/-- does the power go now? -/
def hit (s : DS) : Bool := (metF s.arms).1
theorem met_off {c : Cnt} (h : c.on = false) : metF c = (false, c) := by rw [metF, if_neg (by rw [h]; exact Bool.false_ne_true)]
theorem hit_off {s : DS} (h : s.arms.on = false) : hit s = false := by rw [hit, met_off h]
theorem ask_up {s : DS} (h : Up s) {k : Int} (hk : 0 ≤ k ∧ k < s.size) (b : Bool) : askE s k b = if b && hit s then 9 else 0 := by
  rw [askE, if_neg (by rw [h.on]; exact Bool.false_ne_true), if_neg (by omega), met_off h.fit, if_neg (by exact Bool.false_ne_true)]; rfl
theorem rd_up {s : DS} (h : Up s) {k : Int} (hk : 0 ≤ k ∧ k < s.size) : askE s k false = 0 ∧ rdB s k = holdsF s k ∧ rdD s k = opD s := by
  have h1 : askE s k false = 0 := by rw [ask_up h hk]; rfl
  refine ⟨h1, by rw [rdB, if_pos h1], ?_⟩
  rw [rdD, if_pos h1, askD, if_neg (by rw [h.on]; exact Bool.false_ne_true), if_neg (by omega), met_off h.fit, if_neg (by exact Bool.false_ne_true), if_neg (by exact Bool.false_ne_true)]
theorem askD_up {s : DS} (h : Up s) {k : Int} (hk : 0 ≤ k ∧ k < s.size) : askD s k true = if hit s then { s with arms := (metF s.arms).2, out := true } else { s with arms := (metF s.arms).2 } := by
  rw [askD, if_neg (by rw [h.on]; exact Bool.false_ne_true), if_neg (by omega), met_off h.fit, if_neg (by exact Bool.false_ne_true), if_pos rfl]
  rfl
theorem asked_up {s : DS} (h : Up s) {k : Int} (hk : 0 ≤ k ∧ k < s.size) (g : DS → DS) : (hit s = false ∧ askE s k true = 0 ∧ askedD g s k = opD (g { s with arms := (metF s.arms).2 })) ∨ (hit s = true ∧ askE s k true = 9 ∧ askedD g s k = { s with arms := (metF s.arms).2, out := true }) := by
  have h1 := ask_up h hk true
  have h2 := askD_up h hk
  cases hh : hit s with
  | false =>
    rw [hh] at h1 h2
    replace h1 : askE s k true = 0 := h1
    refine .inl ⟨rfl, h1, ?_⟩
    rw [askedD, if_pos h1, h2]; rfl
  | true =>
    rw [hh] at h1 h2
    replace h1 : askE s k true = 9 := h1
    refine .inr ⟨rfl, h1, ?_⟩
    rw [askedD, if_neg (by rw [h1]; decide), h2]; rfl
theorem met_stays {c : Cnt} (h : c.on = false) : (metF c).2.on = false := by rw [met_off h]; exact h
/-- what a disk holds, and how large it is. -/
structure Alike (s s' : DS) : Prop where
  size : s'.size = s.size
  fails : s'.fails = s.fails
  firm : s'.firm = s.firm
/-- writes, one behind the other. -/
def wrs : Nat → List Blk → List LWr
  | _, [] => []
  | k, x :: xs => ⟨(k : Int), x⟩ :: wrs (k + 1) xs
theorem wrs_len : ∀ (xs : List Blk) (k : Nat), (wrs k xs).length = xs.length
  | [], _ => rfl
  | x :: xs, k => by rw [wrs, List.length_cons, wrs_len xs, List.length_cons]
theorem wrs_mem : ∀ {xs : List Blk} {k : Nat} {y : LWr}, y ∈ wrs k xs → ∃ i, y.at_ = ((k + i : Nat) : Int) ∧ xs[i]? = some y.b
  | [], _, _, h => by cases h
  | x :: xs, k, y, h => by
    rw [wrs] at h
    rcases List.mem_cons.1 h with rfl | h
    · exact ⟨0, rfl, rfl⟩
    · obtain ⟨i, h1, h2⟩ := wrs_mem h
      exact ⟨i + 1, by rw [h1]; congr 1; omega, by simpa using h2⟩
theorem wrs_find : ∀ (xs : List Blk) (k : Nat) (j : Int), findB j (wrs k xs) = if (k : Int) ≤ j ∧ j < ((k + xs.length : Nat) : Int) then xs[(j - k).toNat]? else none
  | [], k, j => by rw [wrs, findB, if_neg (by simp only [List.length_nil]; omega)]
  | x :: xs, k, j => by
    rw [wrs, findB, wrs_find xs (k + 1) j]
    by_cases h1 : j = (k : Int)
    · subst h1
      rw [if_neg (by omega), if_pos rfl, if_pos (by simp only [List.length_cons]; omega), Int.sub_self]; rfl
    · rw [if_neg (show ¬ ((⟨(k : Int), x⟩ : LWr).at_ = j) from fun e => h1 e.symm), Option.or_none]
      by_cases h2 : (k : Int) ≤ j ∧ j < ((k + (x :: xs).length : Nat) : Int)
      · rw [if_pos h2, if_pos (by simp only [List.length_cons] at h2; omega)]
        have : (j - (k : Int)).toNat = (j - ((k + 1 : Nat) : Int)).toNat + 1 := by omega
        rw [this, List.getElem?_cons_succ]
      · rw [if_neg h2, if_neg (by simp only [List.length_cons] at h2; omega)]
/-- blocks are laid: all of them, or the power goes behind some. -/
theorem lay_w : ∀ (xs : List Blk) (s : DS) (k : Nat), Up s → ((k + xs.length : Nat) : Int) ≤ s.size →
    Alike s (layW s k xs).1 ∧ (((layW s k xs).2 = 0 ∧ (layW s k xs).1.out = false ∧ (layW s k xs).1.loose = s.loose ++ wrs k xs ∧ (s.arms.on = false → (layW s k xs).1.arms.on = false)) ∨
      (s.arms.on = true ∧ (layW s k xs).2 = 9 ∧ (layW s k xs).1.out = true ∧ ∃ i, (layW s k xs).1.loose = s.loose ++ wrs k (xs.take i)))
  | [], s, k, hu, _ => by
    rw [layW]
    exact ⟨⟨rfl, rfl, rfl⟩, .inl ⟨rfl, hu.on, by rw [wrs, List.append_nil], id⟩⟩
  | x :: xs, s, k, hu, hk => by
    simp only [List.length_cons] at hk
    rcases asked_up hu (k := (k : Int)) (by omega) (fun s => writeD s k x) with ⟨h1, h2, h3⟩ | ⟨h1, h2, h3⟩
    · rw [layW, if_pos h2, show ((k : Int) + 1) = ((k + 1 : Nat) : Int) from rfl]
      have e : wrD s k x = opD (writeD { s with arms := (metF s.arms).2 } k x) := h3
      have hu1 : Up (wrD s k x) := by rw [e]; exact ⟨hu.on, hu.fit⟩
      have hs1 : (wrD s k x).size = s.size := by rw [e]; rfl
      obtain ⟨ha, hc⟩ := lay_w xs (wrD s k x) (k + 1) hu1 (by rw [hs1]; omega)
      refine ⟨⟨ha.size.trans hs1, ha.fails.trans (by rw [e]; rfl), ha.firm.trans (by rw [e]; rfl)⟩, ?_⟩
      have hl : (wrD s k x).loose = s.loose ++ [⟨(k : Int), x⟩] := by rw [e]; rfl
      have harm : s.arms.on = false → (wrD s k x).arms.on = false := fun h => by rw [e]; exact met_stays h
      rcases hc with ⟨c1, c2, c3, c4⟩ | ⟨c0, c1, c2, i, c3⟩
      · exact .inl ⟨c1, c2, by rw [c3, hl, wrs, List.append_assoc]; rfl, fun h => c4 (harm h)⟩
      · refine .inr ⟨?_, c1, c2, i + 1, by rw [c3, hl, List.take_succ_cons, wrs, List.append_assoc]; rfl⟩
        cases hx : s.arms.on with
        | true => rfl
        | false => rw [harm hx] at c0; cases c0
    · rw [layW, if_neg (by rw [h2]; decide)]
      have e : wrD s k x = { s with arms := (metF s.arms).2, out := true } := h3
      refine ⟨by rw [e]; exact ⟨rfl, rfl, rfl⟩, .inr ⟨?_, h2, by rw [e], 0, by rw [e, List.take_zero, wrs, List.append_nil]⟩⟩
      cases hx : s.arms.on with
      | true => rfl
      | false => rw [hit_off hx] at h1; cases h1
/-- behind a sync. -/
theorem sy_up {s : DS} (hu : Up s) (h0 : 0 < s.size) : ((askE s 0 true = 0 ∧ (syD s).out = false ∧ (syD s).loose = [] ∧ (∀ j, holdsF (syD s) j = holdsF s j) ∧ (syD s).size = s.size ∧ (syD s).fails = s.fails ∧ (s.arms.on = false → (syD s).arms.on = false)) ∨
    (s.arms.on = true ∧ askE s 0 true = 9 ∧ (syD s).out = true ∧ (syD s).loose = s.loose ∧ Alike s (syD s))) := by
  rcases asked_up hu (k := 0) (by omega) (settleD fun _ => true) with ⟨h1, h2, h3⟩ | ⟨h1, h2, h3⟩
  · have e : syD s = opD (settleD (fun _ => true) { s with arms := (metF s.arms).2 }) := h3
    refine .inl ⟨h2, by rw [e]; exact hu.on, by rw [e]; rfl, fun j => ?_, by rw [e]; rfl, by rw [e]; rfl, fun h => by rw [e]; exact met_stays h⟩
    rw [holds_firm (by rw [e]; rfl), holdsF, e]
    show (getB j (settleK (fun _ => true) s.loose s.firm s.loose.length)).getD zB = _
    rw [settle_all j s.loose s.firm s.loose.length (Nat.le_refl _), List.take_length]
  · have e : syD s = { s with arms := (metF s.arms).2, out := true } := h3
    refine .inr ⟨?_, h2, by rw [e], by rw [e], by rw [e]; exact ⟨rfl, rfl, rfl⟩⟩
    cases hx : s.arms.on with
    | true => rfl
    | false => rw [hit_off hx] at h1; cases h1
/-- blocks are laid and made firm, or the power goes. -/
theorem lay_f (xs : List Blk) (s : DS) (k : Nat) (hu : Up s) (hl : s.loose = []) (h0 : 0 < s.size) (hk : ((k + xs.length : Nat) : Int) ≤ s.size) :
    ((layF s k xs).2 = 0 ∧ Up (layF s k xs).1 ∧ (layF s k xs).1.loose = [] ∧ (layF s k xs).1.size = s.size ∧ (s.arms.on = false → (layF s k xs).1.arms.on = false) ∧ ∀ j, holdsF (layF s k xs).1 j = (findB j (wrs k xs)).getD (holdsF s j)) ∨
    (s.arms.on = true ∧ (layF s k xs).2 = 9 ∧ (layF s k xs).1.out = true ∧ Alike s (layF s k xs).1 ∧ ∃ i, (layF s k xs).1.loose = wrs k (xs.take i)) := by
  obtain ⟨ha, hc⟩ := lay_w xs s k hu hk
  rw [hl] at hc
  simp only [List.nil_append] at hc
  rcases hc with ⟨c1, c2, c3, c4⟩ | ⟨c0, c1, c2, i, c3⟩
  · have e : layF s k xs = (syD (layW s k xs).1, askE (layW s k xs).1 0 true) := by rw [layF, if_pos c1]
    have hu1 : Up (layW s k xs).1 := ⟨c2, by rw [ha.fails]; exact hu.fit⟩
    rw [e]
    rcases sy_up hu1 (by rw [ha.size]; exact h0) with ⟨d1, d2, d3, d4, d5, d6, d7⟩ | ⟨d0, d1, d2, d3, d4⟩
    · refine .inl ⟨d1, ⟨d2, by rw [d6]; exact hu1.fit⟩, d3, d5.trans ha.size, fun h => d7 (c4 h), fun j => ?_⟩
      show holdsF (syD (layW s k xs).1) j = _
      rw [d4, holdsF, c3, ha.firm, holds_firm hl]
      cases findB j (wrs k xs) <;> rfl
    · refine .inr ⟨?_, d1, d2, ⟨d4.size.trans ha.size, d4.fails.trans ha.fails, d4.firm.trans ha.firm⟩, xs.length, by rw [List.take_length]; exact d3.trans c3⟩
      cases hx : s.arms.on with
      | true => rfl
      | false => rw [c4 hx] at d0; cases d0
  · have e : layF s k xs = layW s k xs := by rw [layF, if_neg (by rw [c1]; decide)]
    rw [e]
    exact .inr ⟨c0, c1, c2, ha, i, c3⟩
/-- behind a crash each sector holds what was firm, or what was written to it. -/
theorem crash_any (l : List Bool) (s : DS) : Up (crashD l s) ∧ (crashD l s).loose = [] ∧ (crashD l s).size = s.size ∧ (crashD l s).arms.on = false ∧ ∀ j, holdsF (crashD l s) j = (getB j s.firm).getD zB ∨ ∃ x ∈ s.loose, x.at_ = j ∧ holdsF (crashD l s) j = x.b := by
  refine ⟨⟨rfl, rfl⟩, rfl, rfl, rfl, fun j => ?_⟩
  rw [holds_firm (s := crashD l s) rfl]
  show (getB j (settleK (keepF l) s.loose s.firm s.loose.length)).getD zB = _ ∨ _
  rcases settle_any j (keepF l) s.loose s.firm s.loose.length (Nat.le_refl _) with h | ⟨x, h1, h2, h3⟩
  · rw [h]; exact .inl rfl
  · exact .inr ⟨x, h1, h2, by show (getB j (settleK (keepF l) s.loose s.firm s.loose.length)).getD zB = _; rw [h3]; rfl⟩
theorem crash_still (l : List Bool) {s : DS} (h : s.loose = []) (j : Int) : holdsF (crashD l s) j = holdsF s j := by
  obtain ⟨_, _, _, _, h1⟩ := crash_any l s
  rcases h1 j with e | ⟨x, hx, _⟩
  · rw [e, holds_firm h]
  · rw [h] at hx; cases hx
/-- behind a laying that the power cut: what was there, or what was to come. -/
theorem crash_lay (l : List Bool) {s : DS} {xs : List Blk} {k : Nat} (hl : s.loose = []) {r : DS} (ha : Alike s r) {i : Nat} (hr : r.loose = wrs k (xs.take i)) (j : Int) :
    holdsF (crashD l r) j = holdsF s j ∨ ∃ m, j = ((k + m : Nat) : Int) ∧ xs[m]? = some (holdsF (crashD l r) j) := by
  obtain ⟨_, _, _, _, h1⟩ := crash_any l r
  rcases h1 j with e | ⟨x, hx, h2, h3⟩
  · rw [e, ha.firm, holds_firm hl]; exact .inl rfl
  · rw [hr] at hx
    obtain ⟨m, e1, e2⟩ := wrs_mem hx
    rw [List.getElem?_take] at e2
    split at e2
    · exact .inr ⟨m, h2.symm.trans e1, by rw [h3]; exact e2⟩
    · cases e2
end Go.Proofs.Ythffheckghdelaa

/- Package wal in plain words: logs on disks, taken down, cut, found. -/
namespace Go.Proofs.Ythffheckghdelaa
open Go Go.Wk
set_option maxRecDepth 100000

/-- a field of blocks. -/
def fieldOf (s : DS) (fr n : Nat) : List Blk := (List.range n).map fun i => holdsF s ((fr + i : Nat) : Int)
theorem fieldOf_len (s : DS) (fr n : Nat) : (fieldOf s fr n).length = n := by simp [fieldOf]
theorem fieldOf_get (s : DS) (fr n i : Nat) (h : i < n) : (fieldOf s fr n)[i]? = some (holdsF s ((fr + i : Nat) : Int)) := by
  rw [fieldOf, List.getElem?_map, List.getElem?_range h]; rfl
theorem fieldOf_eq {s s' : DS} {fr n : Nat} (h : ∀ i, i < n → holdsF s' ((fr + i : Nat) : Int) = holdsF s ((fr + i : Nat) : Int)) : fieldOf s' fr n = fieldOf s fr n :=
  List.map_congr_left fun i hi => h i (List.mem_range.1 hi)
/-- the other title tells no later book. -/
def Below (s : DS) (t : Int) (i : Nat) (y : Blk) : Prop := (mayF s (tellN y) && decide (tellT y % 2 = (i : Int)) && decide (y.l = (titleF (tellT y) (tellN y)).l)) = true → tellT y < t
/-- a log's disk, but for what lies behind the log's end. -/
structure LogOn (s : DS) (n : Nat) (t : Int) (said : List (List UInt8)) (tail : List Blk) : Prop where
  up : Up s
  loose : s.loose = []
  hn : 4 ≤ n ∧ n ≤ 1000
  size : ((2 * n + 2 : Nat) : Int) ≤ s.size
  ht : 0 ≤ t ∧ t ≤ 4294967295
  title : holdsF s ((t % 2).toNat : Int) = titleF t n
  other : Below s t (1 - (t % 2).toNat) (holdsF s ((1 - (t % 2).toNat : Nat) : Int))
  some_ : said ≠ []
  short : ∀ b ∈ said, b.length ≤ 40000
  cur : fieldOf s (fromN n t) n = laidF t said 0 ++ tail
  oth : ∀ i, i < n → Fresh (t + 1) (holdsF s ((fromN n (t + 1) + i : Nat) : Int))
def Live (s : DS) (n : Nat) (t : Int) (said : List (List UInt8)) : Prop := ∃ tail, LogOn s n t said tail ∧ ∀ x ∈ tail, Fresh t x
def Able (s : DS) (n : Nat) (t : Int) (said : List (List UInt8)) : Prop := ∃ tail, LogOn s n t said tail ∧ NoEntry t (said.length : Nat) tail ∧ ∀ x ∈ tail, Fresh (t + 1) x
def Clean (s : DS) (n : Nat) (t : Int) (said : List (List UInt8)) : Prop := ∃ k, LogOn s n t said (List.replicate k zB)
def endF (t : Int) (said : List (List UInt8)) : Nat := (laidF t said 0).length
theorem LogOn.len {s : DS} {n : Nat} {t : Int} {said : List (List UInt8)} {tail : List Blk} (h : LogOn s n t said tail) : endF t said + tail.length = n := by
  have := congrArg List.length h.cur
  rw [fieldOf_len, List.length_append] at this
  exact this.symm
theorem laid_len (t : Int) : ∀ (said : List (List UInt8)) (j : Nat), said.length ≤ (laidF t said j).length
  | [], _ => Nat.le_refl _
  | b :: l, j => by
    have := laid_len t l (j + 1)
    have := secN_pos b.length
    rw [laidF, List.length_append, leavesF_len, List.length_cons]; omega
theorem LogOn.few {s : DS} {n : Nat} {t : Int} {said : List (List UInt8)} {tail : List Blk} (h : LogOn s n t said tail) : said.length ≤ n ∧ 0 < said.length :=
  ⟨by have := laid_len t said 0; have := h.len; unfold endF at this; omega, List.length_pos_iff.2 h.some_⟩
theorem Clean.live {s : DS} {n : Nat} {t : Int} {said : List (List UInt8)} (h : Clean s n t said) : Live s n t said := by
  obtain ⟨k, h⟩ := h
  exact ⟨_, h, fun x hx => by rw [(List.mem_replicate.1 hx).2]; exact fresh_zero t⟩
theorem Live.able {s : DS} {n : Nat} {t : Int} {said : List (List UInt8)} (h : Live s n t said) : Able s n t said := by
  obtain ⟨tail, h, hf⟩ := h
  have h1 := h.few
  have h2 := h.hn
  exact ⟨tail, h, noEntry_fresh h.ht.2 (by omega) hf, fun x hx => (hf x hx).mono (by omega)⟩
theorem from_bound {n : Nat} (t : Int) (hn : n ≤ 1000) : 2 ≤ fromN n t ∧ fromN n t ≤ 2 + n := by
  unfold fromN
  rcases (show (t % 2).toNat = 0 ∨ (t % 2).toNat = 1 by omega) with h | h <;> rw [h] <;> omega
/-- two fields lie apart. -/
theorem from_apart {n : Nat} (t : Int) {i j : Nat} (hi : i < n) (hj : j < n) : fromN n t + i ≠ fromN n (t + 1) + j := by
  unfold fromN
  rcases (show t % 2 = 0 ∨ t % 2 = 1 by omega) with h | h
  · rw [show (t + 1) % 2 = 1 from by omega, h]; simp; omega
  · rw [show (t + 1) % 2 = 0 from by omega, h]; simp; omega
theorem from_two {n : Nat} (t : Int) : fromN n (t + 1 + 1) = fromN n t := by
  unfold fromN
  rw [show (t + 1 + 1) % 2 = t % 2 from by omega]
/-- what holds the same as a log's disk. -/
theorem LogOn.same {s s' : DS} {n : Nat} {t : Int} {said : List (List UInt8)} {tail : List Blk} (h : LogOn s n t said tail) (hu : Up s') (hl : s'.loose = []) (hz : s'.size = s.size) (hh : ∀ j, holdsF s' j = holdsF s j) : LogOn s' n t said tail where
  up := hu
  loose := hl
  hn := h.hn
  size := by rw [hz]; exact h.size
  ht := h.ht
  title := by rw [hh]; exact h.title
  other := by
    have := h.other
    unfold Below mayF at this ⊢
    rw [hz, hh]; exact this
  some_ := h.some_
  short := h.short
  cur := by rw [fieldOf_eq fun i _ => hh _]; exact h.cur
  oth := fun i hi => by rw [hh]; exact h.oth i hi
theorem over_in {xs : List Blk} {k i : Nat} (hi : i < xs.length) (u : Blk) : (findB ((k + i : Nat) : Int) (wrs k xs)).getD u = (xs[i]?).getD u := by
  rw [wrs_find, if_pos (by omega)]
  congr 2; omega
theorem over_out {xs : List Blk} {k : Nat} {j : Int} (h : j < (k : Int) ∨ ((k + xs.length : Nat) : Int) ≤ j) (u : Blk) : (findB j (wrs k xs)).getD u = u := by
  rw [wrs_find, if_neg (by omega)]; rfl
/-- a field with something laid into it. -/
theorem field_over {s s' : DS} {fr n k : Nat} {xs : List Blk} (hk : k + xs.length ≤ n) (h : ∀ j, holdsF s' j = (findB j (wrs (fr + k) xs)).getD (holdsF s j)) : fieldOf s' fr n = (fieldOf s fr n).take k ++ xs ++ (fieldOf s fr n).drop (k + xs.length) := by
  have hl : ((fieldOf s fr n).take k).length = k := by rw [List.length_take, fieldOf_len]; omega
  apply List.ext_getElem?
  intro i
  by_cases hi : i < n
  · rw [fieldOf_get s' fr n i hi, h]
    by_cases h1 : i < k
    · rw [over_out (.inl (by omega)), List.append_assoc, List.getElem?_append_left (by omega), List.getElem?_take, if_pos h1, fieldOf_get s fr n i hi]
    · by_cases h2 : i < k + xs.length
      · rw [show (fr + i : Nat) = fr + k + (i - k) from by omega, over_in (by omega), List.append_assoc, List.getElem?_append_right (by omega), hl, List.getElem?_append_left (by omega), List.getElem?_eq_getElem (by omega)]; rfl
      · rw [over_out (.inr (by omega)), List.getElem?_append_right (by rw [List.length_append, hl]; omega), List.length_append, hl, List.getElem?_drop, show k + xs.length + (i - (k + xs.length)) = i from by omega, fieldOf_get s fr n i hi]
  · rw [List.getElem?_eq_none (by rw [fieldOf_len]; omega), List.getElem?_eq_none (by rw [List.length_append, List.length_append, hl, List.length_drop, fieldOf_len]; omega)]
/-- each is what it was, or what was to come. -/
def Mix (tail xs tail' : List Blk) : Prop := tail'.length = tail.length ∧ ∀ (i : Nat) (x : Blk), tail'[i]? = some x → tail[i]? = some x ∨ xs[i]? = some x
theorem mix_entry {t j : Int} {bs : List UInt8} {tail tail' : List Blk} (ht : t ≤ 4294967295) (hj : 1 ≤ j ∧ j ≤ 4294967295) (hb : bs.length ≤ 40000) (hf : ∀ x ∈ tail, Fresh t x) (hm : Mix tail (leavesF t j bs) tail') (_hn : (leavesF t j bs).length ≤ tail.length) :
    (∃ rest, tail' = leavesF t j bs ++ rest ∧ ∀ x ∈ rest, Fresh t x) ∨ NoEntry t j tail' := by
  by_cases hp : leavesF t j bs <+: tail'
  · obtain ⟨rest, hr⟩ := hp
    refine .inl ⟨rest, hr.symm, fun x hx => ?_⟩
    obtain ⟨i, hi⟩ := List.getElem?_of_mem hx
    have h1 : tail'[(leavesF t j bs).length + i]? = some x := by rw [← hr, List.getElem?_append_right (by omega), show (leavesF t j bs).length + i - (leavesF t j bs).length = i from by omega]; exact hi
    rcases hm.2 _ _ h1 with h2 | h2
    · exact hf x (List.mem_of_getElem? h2)
    · rw [List.getElem?_eq_none (by omega)] at h2; cases h2
  · refine .inr fun bs' hb' ⟨rest, hr⟩ => hp ?_
    have key : ∀ i, i < secN bs'.length → (leavesF t j bs)[i]? = some (leafF t j bs' i) := fun i hi => by
      have h1 : tail'[i]? = some (leafF t j bs' i) := by rw [← hr, List.getElem?_append_left (by rw [leavesF_len]; exact hi)]; exact leaves_get t j bs' i hi
      rcases hm.2 _ _ h1 with h2 | h2
      · exact absurd rfl (hf _ (List.mem_of_getElem? h2) t j bs' i (Int.le_refl _) ht hj.1 hj.2)
      · exact h2
    have h0 := key 0 (secN_pos _)
    rw [leaves_get t j bs 0 (secN_pos _)] at h0
    have hlen : (bs.length : Int) = (bs'.length : Int) := be2_inj (by omega) (by omega) (leaf_parts (Option.some.inj h0)).2.2.1
    have hll : bs.length = bs'.length := by omega
    have he : leavesF t j bs = leavesF t j bs' := by
      apply List.ext_getElem?
      intro i
      by_cases hi : i < secN bs'.length
      · rw [key i hi, leaves_get t j bs' i hi]
      · rw [List.getElem?_eq_none (by rw [leavesF_len, hll]; omega), List.getElem?_eq_none (by rw [leavesF_len]; omega)]
    rw [he]; exact ⟨rest, hr⟩
theorem zero_entry {t j : Int} {tail tail' : List Blk} (ht : t ≤ 4294967295) (hj : 1 ≤ j ∧ j ≤ 4294967295) (hn : NoEntry t j tail) (hm : ∀ (i : Nat) (x : Blk), tail'[i]? = some x → tail[i]? = some x ∨ x = zB) : NoEntry t j tail' := by
  refine fun bs hb ⟨rest, hr⟩ => hn bs hb ?_
  have key : ∀ i, i < secN bs.length → tail[i]? = some (leafF t j bs i) := fun i hi => by
    have h1 : tail'[i]? = some (leafF t j bs i) := by rw [← hr, List.getElem?_append_left (by rw [leavesF_len]; exact hi)]; exact leaves_get t j bs i hi
    rcases hm _ _ h1 with h2 | h2
    · exact h2
    · exact absurd h2.symm (fresh_zero t t j bs i (Int.le_refl _) ht hj.1 hj.2)
  refine ⟨tail.drop (secN bs.length), ?_⟩
  have e : leavesF t j bs = tail.take (secN bs.length) := by
    apply List.ext_getElem?
    intro i
    rw [List.getElem?_take]
    by_cases hi : i < secN bs.length
    · rw [if_pos hi, key i hi, leaves_get t j bs i hi]
    · rw [if_neg hi, List.getElem?_eq_none (by rw [leavesF_len]; omega)]
  rw [e, List.take_append_drop]
/-- titles tell what they were made of. -/
theorem title_tells (t : Int) (n : Nat) (ht : 0 ≤ t ∧ t ≤ 4294967295) (hn : n ≤ 1000) : tellN (titleF t n) = n ∧ tellT (titleF t n) = t := by
  have h1 : (titleF t n).l.drop 4 = be 4 n ++ (be 4 t ++ (safeS ++ List.replicate 43 0)) := by
    rw [titleF, seal_drop (titleB_len _ _), titleB]; simp only [List.append_assoc]
  refine ⟨by rw [tellN, h1, u32B_be _ (by omega)], ?_⟩
  rw [tellT, h1, List.drop_left' (be_len _ _), u32B_be _ ht]
theorem title_cand {s : DS} {t : Int} {n : Nat} (ht : 0 ≤ t ∧ t ≤ 4294967295) (hn : 4 ≤ n ∧ n ≤ 1000) (hs : ((2 * n + 2 : Nat) : Int) ≤ s.size) {B : Bst} (hB : B.has = true → B.t < t) : candF s (t % 2).toNat (titleF t n) B = true := by
  obtain ⟨h1, h2⟩ := title_tells t n ht hn.2
  rw [candF, h1, h2, mayF]
  have h3 : (B.has = true → B.t < t) := hB
  cases hb : B.has with
  | false => simp; omega
  | true => have := h3 hb; simp [this]; omega
/-! counting -/
theorem cntR_up (s : DS) (hu : Up s) (h2 : 1 < s.size) : cntF s = (if (cntStep s 1 (holdsF s 1) (cntStep s 0 (holdsF s 0) ⟨false, 0, 0⟩)).has then (opD (opD s), 0, cntStep s 1 (holdsF s 1) (cntStep s 0 (holdsF s 0) ⟨false, 0, 0⟩)) else (opD (opD s), 140, ⟨false, 0, 0⟩)) := by
  have hu1 : Up (opD s) := ⟨hu.on, hu.fit⟩
  obtain ⟨a1, a2, a3⟩ := rd_up hu (k := ((0 : Nat) : Int)) (by omega)
  obtain ⟨b1, b2, b3⟩ := rd_up hu1 (k := ((1 : Nat) : Int)) (by show (0 : Int) ≤ 1 ∧ (1 : Int) < s.size; omega)
  rw [cntF, cntR, if_pos a1, a2, a3, cntR, if_pos b1, b2, b3, cntR]
  rfl
theorem cnt_able {s : DS} {n : Nat} {t : Int} {said : List (List UInt8)} {tail : List Blk} (h : LogOn s n t said tail) : cntF s = (opD (opD s), 0, ⟨true, n, t⟩) := by
  have hn := h.hn
  have hs := h.size
  obtain ⟨h1, h2⟩ := title_tells t n h.ht hn.2
  rw [cntR_up s h.up (by omega)]
  have hti := h.title
  have hot := h.other
  rcases (show (t % 2).toNat = 0 ∨ (t % 2).toNat = 1 by omega) with h0 | h0
  · rw [h0] at hti hot
    have e0 : cntStep s 0 (holdsF s 0) ⟨false, 0, 0⟩ = ⟨true, n, t⟩ := by
      have := title_cand (s := s) h.ht hn hs (B := ⟨false, 0, 0⟩) (fun h => by cases h)
      rw [h0] at this
      rw [cntStep, show holdsF s 0 = titleF t n from hti, if_pos this, h1, h2]
    have e1 : cntStep s 1 (holdsF s 1) ⟨true, n, t⟩ = ⟨true, n, t⟩ := by
      rw [cntStep, if_neg]
      intro hc
      rw [candF, Bool.and_eq_true] at hc
      have h3 := hot hc.1
      have h4 : t < tellT (holdsF s 1) := by simpa using hc.2
      have h5 : tellT (holdsF s ((1 - 0 : Nat) : Int)) = tellT (holdsF s 1) := rfl
      omega
    rw [e0, e1]; rfl
  · rw [h0] at hti hot
    obtain ⟨B, hB⟩ : ∃ B, B = cntStep s 0 (holdsF s 0) ⟨false, 0, 0⟩ := ⟨_, rfl⟩
    rw [← hB]
    have hBt : B.has = true → B.t < t := by
      rw [hB, cntStep]
      split
      · rename_i hc
        intro _
        rw [candF, Bool.and_eq_true] at hc
        exact hot hc.1
      · intro h; cases h
    have e1 : cntStep s 1 (holdsF s 1) B = ⟨true, n, t⟩ := by
      have := title_cand (s := s) h.ht hn hs (B := B) hBt
      rw [h0] at this
      rw [cntStep, show holdsF s 1 = titleF t n from hti, if_pos this, h1, h2]
    rw [e1]; rfl
/-! a field is read -/
theorem field_up (fr : Nat) : ∀ (k i : Nat) (s : DS), Up s → ((fr + i + k : Nat) : Int) ≤ s.size → (fieldW fr k i s).2.1 = 0 ∧ (fieldW fr k i s).2.2 = (List.range k).map (fun a => holdsF s ((fr + (i + a) : Nat) : Int)) ∧ Up (fieldW fr k i s).1 ∧ (fieldW fr k i s).1.loose = s.loose ∧ (fieldW fr k i s).1.size = s.size ∧ (fieldW fr k i s).1.arms = s.arms ∧ ∀ j, holdsF (fieldW fr k i s).1 j = holdsF s j
  | 0, i, s, hu, _ => ⟨rfl, rfl, hu, rfl, rfl, rfl, fun _ => rfl⟩
  | k + 1, i, s, hu, hs => by
    obtain ⟨a1, a2, a3⟩ := rd_up hu (k := ((fr + i : Nat) : Int)) (by omega)
    obtain ⟨b1, b2, b3, b4, b5, b6, b7⟩ := field_up fr k (i + 1) (opD s) ⟨hu.on, hu.fit⟩ (by show ((fr + (i + 1) + k : Nat) : Int) ≤ s.size; omega)
    rw [fieldW, if_pos a1, a2, a3]
    refine ⟨b1, ?_, b3, b4, b5, b6, b7⟩
    show holdsF s _ :: _ = _
    rw [b2, List.range_succ_eq_map, List.map_cons, List.map_map]
    congr 1
    apply List.map_congr_left
    intro a _
    show holdsF s _ = holdsF s _
    congr 2; omega
end Go.Proofs.Ythffheckghdelaa

/- Package wal in plain words: appending, checkpoints, openings, wherever the power goes. -/
namespace Go.Proofs.Ythffheckghdelaa
open Go Go.Wk
set_option maxRecDepth 100000

theorem over_ne {xs : List Blk} {k : Nat} {j : Int} (h : ∀ i, i < xs.length → j ≠ ((k + i : Nat) : Int)) (u : Blk) : (findB j (wrs k xs)).getD u = u := by
  refine over_out ?_ u
  by_cases h1 : j < (k : Int)
  · exact .inl h1
  · refine .inr ?_
    by_cases h2 : ((k + xs.length : Nat) : Int) ≤ j
    · exact h2
    · exact absurd (show j = ((k + (j - k).toNat : Nat) : Int) by omega) (h _ (by omega))
/-- what changes behind a log's end alone. -/
theorem LogOn.inner {s s' : DS} {n : Nat} {t : Int} {said : List (List UInt8)} {tail : List Blk} (h : LogOn s n t said tail) (hu : Up s') (hl : s'.loose = []) (hz : s'.size = s.size)
    (hh : ∀ j : Int, (∀ i, i < n → endF t said ≤ i → j ≠ ((fromN n t + i : Nat) : Int)) → holdsF s' j = holdsF s j) : LogOn s' n t said ((fieldOf s' (fromN n t) n).drop (endF t said)) := by
  have hb := from_bound t h.hn.2
  have hm := Int.emod_lt_of_pos t (show (0 : Int) < 2 by decide)
  have hm0 := Int.emod_nonneg t (show (2 : Int) ≠ 0 by decide)
  have hlen := h.len
  refine ⟨hu, hl, h.hn, by rw [hz]; exact h.size, h.ht, ?_, ?_, h.some_, h.short, ?_, ?_⟩
  · rw [hh _ (fun i _ _ => by omega)]; exact h.title
  · have := h.other
    unfold Below mayF at this ⊢
    rw [hz, hh _ (fun i _ _ => by omega)]; exact this
  · have e : (fieldOf s' (fromN n t) n).take (endF t said) = laidF t said 0 := by
      have h2 : (fieldOf s (fromN n t) n).take (endF t said) = laidF t said 0 := by rw [h.cur]; exact List.take_left' rfl
      rw [← h2]
      apply List.ext_getElem?
      intro i
      rw [List.getElem?_take, List.getElem?_take]
      by_cases hi : i < endF t said
      · rw [if_pos hi, if_pos hi, fieldOf_get _ _ _ _ (by omega), fieldOf_get _ _ _ _ (by omega), hh _ (fun a _ ha => by omega)]
      · rw [if_neg hi, if_neg hi]
    rw [← e, List.take_append_drop]
  · intro i hi
    rw [hh _ (fun a ha _ => by have := from_apart t ha hi; omega)]; exact h.oth i hi
theorem LogOn.snoc {s : DS} {n : Nat} {t : Int} {said : List (List UInt8)} {rest : List Blk} {bs : List UInt8} (h : LogOn s n t said (leavesF t (said.length : Nat) bs ++ rest)) (hb : bs.length ≤ 40000) : LogOn s n t (said ++ [bs]) rest where
  up := h.up
  loose := h.loose
  hn := h.hn
  size := h.size
  ht := h.ht
  title := h.title
  other := h.other
  some_ := by simp
  short := fun b hm => by
    rcases List.mem_append.1 hm with hm | hm
    · exact h.short b hm
    · obtain rfl := List.mem_singleton.1 hm; exact hb
  cur := by rw [laidF_snoc, List.append_assoc, Nat.zero_add]; exact h.cur
  oth := h.oth
/-- something is taken down. -/
theorem append_live {s : DS} {n : Nat} {t : Int} {said : List (List UInt8)} (h : Live s n t said) (bs : List UInt8) (hb : bs.length ≤ 40000) (hr : endF t said + secN bs.length ≤ n) :
    ((layF s ((fromN n t + endF t said : Nat) : Int) (leavesF t (said.length : Nat) bs)).2 = 0 ∧ Live (layF s ((fromN n t + endF t said : Nat) : Int) (leavesF t (said.length : Nat) bs)).1 n t (said ++ [bs]) ∧ (s.arms.on = false → (layF s ((fromN n t + endF t said : Nat) : Int) (leavesF t (said.length : Nat) bs)).1.arms.on = false)) ∨
    (s.arms.on = true ∧ (layF s ((fromN n t + endF t said : Nat) : Int) (leavesF t (said.length : Nat) bs)).2 = 9 ∧ (layF s ((fromN n t + endF t said : Nat) : Int) (leavesF t (said.length : Nat) bs)).1.out = true ∧ ∀ keep, Able (crashD keep (layF s ((fromN n t + endF t said : Nat) : Int) (leavesF t (said.length : Nat) bs)).1) n t said ∨ Able (crashD keep (layF s ((fromN n t + endF t said : Nat) : Int) (leavesF t (said.length : Nat) bs)).1) n t (said ++ [bs])) := by
  obtain ⟨tail, hL, hf⟩ := h
  have hfb := from_bound t hL.hn.2
  have hlen := hL.len
  have hsz := hL.size
  have hn := hL.hn
  have hfew := hL.few
  obtain ⟨xs, hxs⟩ : ∃ xs, xs = leavesF t (said.length : Nat) bs := ⟨_, rfl⟩
  have hxl : xs.length = secN bs.length := by rw [hxs, leavesF_len]
  rw [← hxs]
  have htl : ∀ i, i < tail.length → tail[i]? = some (holdsF s ((fromN n t + endF t said + i : Nat) : Int)) := fun i hi => by
    have h1 := fieldOf_get s (fromN n t) n (endF t said + i) (by omega)
    rw [hL.cur, List.getElem?_append_right (by unfold endF; omega), show endF t said + i - (laidF t said 0).length = i from by unfold endF; omega] at h1
    rw [h1]; congr 3; omega
  rcases lay_f xs s (fromN n t + endF t said) hL.up hL.loose (by omega) (by omega) with ⟨c1, c2, c3, c4, c5, c6⟩ | ⟨c0, c1, c2, c3, i, c4⟩
  · refine .inl ⟨c1, ?_, c5⟩
    have h1 := hL.inner c2 c3 c4 (fun j hj => by rw [c6, over_ne (fun i hi => by have := hj (endF t said + i) (by omega) (by omega); omega)])
    have h2 := field_over (n := n) (xs := xs) (k := endF t said) (by omega) c6
    have hk : ((fieldOf s (fromN n t) n).take (endF t said)).length = endF t said := by rw [List.length_take, fieldOf_len]; omega
    rw [h2, List.append_assoc, List.drop_left' hk, hL.cur] at h1
    subst hxs
    refine ⟨_, h1.snoc hb, fun x hx => hf x ?_⟩
    rw [List.drop_append, List.drop_of_length_le (by unfold endF; omega), List.nil_append] at hx
    exact List.mem_of_mem_drop hx
  · refine .inr ⟨c0, c1, c2, fun keep => ?_⟩
    obtain ⟨d1, d2, d3, d4, _⟩ := crash_any keep (layF s ((fromN n t + endF t said : Nat) : Int) xs).1
    have hcl := fun j => crash_lay keep hL.loose c3 c4 j
    have h1 := hL.inner d1 d2 (d3.trans c3.size) (fun j hj => by
      rcases hcl j with e | ⟨m, e1, e2⟩
      · exact e
      · have hm := (List.getElem?_eq_some_iff.1 e2).1
        exact absurd (e1.trans (by congr 1; omega)) (hj (endF t said + m) (by omega) (by omega)))
    obtain ⟨tail', ht'⟩ : ∃ tail', tail' = (fieldOf (crashD keep (layF s ((fromN n t + endF t said : Nat) : Int) xs).1) (fromN n t) n).drop (endF t said) := ⟨_, rfl⟩
    rw [← ht'] at h1
    have hlen' := h1.len
    have hmix : Mix tail xs tail' := by
      refine ⟨by omega, fun a x hx => ?_⟩
      have ha : a < tail'.length := (List.getElem?_eq_some_iff.1 hx).1
      rw [ht', List.getElem?_drop, fieldOf_get _ _ _ _ (by omega)] at hx
      obtain rfl := Option.some.inj hx
      rcases hcl ((fromN n t + (endF t said + a) : Nat) : Int) with e | ⟨m, e1, e2⟩
      · rw [e, htl a (by omega)]; left; congr 3; omega
      · right; rw [← e2]; congr 1; omega
    rw [hxs] at hmix
    rcases mix_entry hL.ht.2 (by omega) hb hf hmix (by rw [← hxs]; omega) with ⟨rest, e, hr'⟩ | hne
    · rw [e] at h1
      exact .inr (Live.able ⟨rest, h1.snoc hb, hr'⟩)
    · refine .inl ⟨tail', h1, hne, fun x hx => ?_⟩
      obtain ⟨a, ha⟩ := List.getElem?_of_mem hx
      rcases hmix.2 a x ha with h2 | h2
      · exact (hf x (List.mem_of_getElem? h2)).mono (by omega)
      · have hm : a < secN bs.length := by have := (List.getElem?_eq_some_iff.1 h2).1; rw [leavesF_len] at this; exact this
        rw [leaves_get t _ bs a hm] at h2
        rw [← Option.some.inj h2]
        exact fresh_old _ t _ bs a hL.ht (by omega)
/-- what changes in the other field alone. -/
theorem LogOn.outer {s s' : DS} {n : Nat} {t : Int} {said : List (List UInt8)} {tail : List Blk} (h : LogOn s n t said tail) (hu : Up s') (hl : s'.loose = []) (hz : s'.size = s.size)
    (hh : ∀ j : Int, (∀ i, i < n → j ≠ ((fromN n (t + 1) + i : Nat) : Int)) → holdsF s' j = holdsF s j) (ho : ∀ i, i < n → Fresh (t + 1) (holdsF s' ((fromN n (t + 1) + i : Nat) : Int))) : LogOn s' n t said tail := by
  have hb := from_bound (t + 1) h.hn.2
  have hm := Int.emod_lt_of_pos t (show (0 : Int) < 2 by decide)
  have hm0 := Int.emod_nonneg t (show (2 : Int) ≠ 0 by decide)
  refine ⟨hu, hl, h.hn, by rw [hz]; exact h.size, h.ht, ?_, ?_, h.some_, h.short, ?_, ho⟩
  · rw [hh _ (fun i _ => by omega)]; exact h.title
  · have := h.other
    unfold Below mayF at this ⊢
    rw [hz, hh _ (fun i _ => by omega)]; exact this
  · rw [fieldOf_eq fun i hi => hh _ (fun a ha => by have := from_apart t hi ha; omega)]; exact h.cur
theorem laid_mem {t : Int} {x : Blk} : ∀ {said : List (List UInt8)} {j : Nat}, x ∈ laidF t said j → ∃ j' b k, x = leafF t j' b k
  | [], _, h => by cases h
  | b :: l, j, h => by
    rw [laidF] at h
    rcases List.mem_append.1 h with h | h
    · rw [leavesF] at h
      obtain ⟨k, _, hk⟩ := List.mem_map.1 h
      exact ⟨_, b, k, hk.symm⟩
    · exact laid_mem h
/-- the next book's title stands. -/
theorem LogOn.turned {s s' : DS} {n : Nat} {t : Int} {said : List (List UInt8)} {tail rest : List Blk} {bs : List UInt8} (h : LogOn s n t said tail) (hf : ∀ x ∈ tail, Fresh (t + 2) x) (hb : bs.length ≤ 40000) (ht : t + 1 ≤ 4294967295)
    (hcur : fieldOf s (fromN n (t + 1)) n = leavesF (t + 1) 0 bs ++ rest) (hu : Up s') (hl : s'.loose = []) (hz : s'.size = s.size) (hti : holdsF s' (((t + 1) % 2).toNat : Int) = titleF (t + 1) n) (hh : ∀ j : Int, j ≠ (((t + 1) % 2).toNat : Int) → holdsF s' j = holdsF s j) : LogOn s' n (t + 1) [bs] rest := by
  have hfb := from_bound (t + 1) h.hn.2
  have hfa := from_bound t h.hn.2
  have h0 := h.ht
  have hm : ((t + 1) % 2).toNat = 1 - (t % 2).toNat ∧ 1 - ((t + 1) % 2).toNat = (t % 2).toNat := by omega
  refine ⟨hu, hl, h.hn, by rw [hz]; exact h.size, by omega, hti, ?_, by simp, fun b hm => by obtain rfl := List.mem_singleton.1 hm; exact hb, ?_, fun i hi => ?_⟩
  · rw [hm.2, hh _ (by omega), h.title]
    intro _
    rw [(title_tells t n h.ht h.hn.2).2]; omega
  · rw [fieldOf_eq fun i hi => hh _ (by omega), hcur, laidF, laidF, List.append_nil]; rfl
  · rw [from_two, hh _ (by omega)]
    have hmem : holdsF s ((fromN n t + i : Nat) : Int) ∈ laidF t said 0 ++ tail := by rw [← h.cur]; exact List.mem_of_getElem? (fieldOf_get s (fromN n t) n i hi)
    rw [show t + 1 + 1 = t + 2 from by omega]
    rcases List.mem_append.1 hmem with hm | hm
    · obtain ⟨j', b, k, e⟩ := laid_mem hm
      rw [e]; exact fresh_old _ t _ b k h.ht (by omega)
    · exact hf _ hm
/-- a checkpoint. -/
theorem chk_live {s : DS} {n : Nat} {t : Int} {said : List (List UInt8)} (h : Live s n t said) (bs : List UInt8) (hb : bs.length ≤ 40000) (hr : secN bs.length ≤ n) (ht : t + 1 ≤ 4294967295) :
    ((begF n (t + 1) bs s).2 = 0 ∧ Live (begF n (t + 1) bs s).1 n (t + 1) [bs] ∧ (s.arms.on = false → (begF n (t + 1) bs s).1.arms.on = false)) ∨
    (s.arms.on = true ∧ (begF n (t + 1) bs s).2 = 9 ∧ (begF n (t + 1) bs s).1.out = true ∧ ∀ keep, Able (crashD keep (begF n (t + 1) bs s).1) n t said ∨ Able (crashD keep (begF n (t + 1) bs s).1) n (t + 1) [bs]) := by
  obtain ⟨tail, hL, hf⟩ := h
  have hfb := from_bound (t + 1) hL.hn.2
  have hsz := hL.size
  have hn := hL.hn
  obtain ⟨xs, hxs⟩ : ∃ xs, xs = leavesF (t + 1) 0 bs := ⟨_, rfl⟩
  have hxl : xs.length = secN bs.length := by rw [hxs, leavesF_len]
  have hfx : ∀ m x, xs[m]? = some x → Fresh (t + 1) x := fun m x hx => by
    have hm : m < secN bs.length := by have := (List.getElem?_eq_some_iff.1 hx).1; omega
    rw [hxs, leaves_get _ _ bs m hm] at hx
    rw [← Option.some.inj hx]; exact fresh_zeroth _ _ bs m
  have hft : ∀ x ∈ tail, Fresh (t + 2) x := fun x hx => (hf x hx).mono (by omega)
  have hbeg : begF n (t + 1) bs s = if (layF s (fromN n (t + 1) : Nat) xs).2 = 0 then layF (layF s (fromN n (t + 1) : Nat) xs).1 (((t + 1) % 2).toNat : Nat) [titleF (t + 1) n] else layF s (fromN n (t + 1) : Nat) xs := by rw [hxs]; rfl
  rcases lay_f xs s (fromN n (t + 1)) hL.up hL.loose (by omega) (by omega) with ⟨c1, c2, c3, c4, c5, c6⟩ | ⟨c0, c1, c2, c3, i, c4⟩
  · rw [hbeg, if_pos c1]
    obtain ⟨s1, hs1⟩ : ∃ s1, s1 = (layF s (fromN n (t + 1) : Nat) xs).1 := ⟨_, rfl⟩
    rw [← hs1] at c2 c3 c4 c5 c6 ⊢
    have hL1 : LogOn s1 n t said tail := hL.outer c2 c3 c4 (fun j hj => by rw [c6, over_ne (fun i hi => hj i (by omega))]) (fun i hi => by
      rw [c6]
      by_cases h1 : i < xs.length
      · rw [over_in h1, List.getElem?_eq_getElem h1]; exact hfx i _ (List.getElem?_eq_getElem h1)
      · rw [over_out (.inr (by omega))]; exact hL.oth i hi)
    have hcur : fieldOf s1 (fromN n (t + 1)) n = xs ++ (fieldOf s (fromN n (t + 1)) n).drop xs.length := by
      have := field_over (s := s) (s' := s1) (fr := fromN n (t + 1)) (n := n) (k := 0) (xs := xs) (by omega) (fun j => by rw [c6]; rfl)
      rw [this, List.take_zero, List.nil_append, Nat.zero_add]
    have hrest : ∀ x ∈ (fieldOf s (fromN n (t + 1)) n).drop xs.length, Fresh (t + 1) x := fun x hx => by
      obtain ⟨i, hi⟩ := List.getElem?_of_mem (List.mem_of_mem_drop hx)
      have hi2 : i < n := by have := (List.getElem?_eq_some_iff.1 hi).1; rw [fieldOf_len] at this; exact this
      rw [fieldOf_get _ _ _ _ hi2] at hi
      rw [← Option.some.inj hi]; exact hL.oth i hi2
    have hm2 : ((t + 1) % 2).toNat < 2 := by omega
    rcases lay_f [titleF (t + 1) n] s1 ((t + 1) % 2).toNat c2 c3 (by omega) (by simp only [List.length_singleton]; omega) with ⟨e1, e2, e3, e4, e5, e6⟩ | ⟨e0, e1, e2, e3, i, e4⟩
    · refine .inl ⟨e1, ⟨_, hL1.turned hft hb ht (by rw [← hxs]; exact hcur) e2 e3 e4 ?_ ?_, hrest⟩, fun h => e5 (c5 h)⟩
      · have := over_in (xs := [titleF (t + 1) n]) (k := ((t + 1) % 2).toNat) (i := 0) (by simp) (holdsF s1 ((((t + 1) % 2).toNat : Nat) : Int))
        rw [e6]; exact this
      · intro j hj
        rw [e6, over_ne (fun i hi => by have : i = 0 := by simpa using hi
                                        subst this; exact hj)]
    · refine .inr ⟨?_, e1, e2, fun keep => ?_⟩
      · cases hx : s.arms.on with
        | true => rfl
        | false => rw [c5 hx] at e0; cases e0
      · obtain ⟨d1, d2, d3, d4, _⟩ := crash_any keep (layF s1 (((t + 1) % 2).toNat : Nat) [titleF (t + 1) n]).1
        have hcl := fun j => crash_lay keep c3 e3 e4 j
        have hne : ∀ j : Int, j ≠ (((t + 1) % 2).toNat : Int) → holdsF (crashD keep (layF s1 (((t + 1) % 2).toNat : Nat) [titleF (t + 1) n]).1) j = holdsF s1 j := fun j hj => by
          rcases hcl j with e | ⟨m, q1, q2⟩
          · exact e
          · have hm : m = 0 := by have := (List.getElem?_eq_some_iff.1 q2).1; simpa using this
            subst hm; exact absurd q1 hj
        rcases hcl (((t + 1) % 2).toNat : Int) with e | ⟨m, q1, q2⟩
        · refine .inl (Live.able ⟨tail, hL1.same d1 d2 (d3.trans e3.size) (fun j => ?_), hf⟩)
          by_cases hj : j = (((t + 1) % 2).toNat : Int)
          · rw [hj]; exact e
          · exact hne j hj
        · have hm : m = 0 := by have := (List.getElem?_eq_some_iff.1 q2).1; simpa using this
          subst hm
          exact .inr (Live.able ⟨_, hL1.turned hft hb ht (by rw [← hxs]; exact hcur) d1 d2 (d3.trans e3.size) (Option.some.inj q2).symm hne, hrest⟩)
  · rw [hbeg, if_neg (by rw [c1]; decide)]
    refine .inr ⟨c0, c1, c2, fun keep => .inl ?_⟩
    obtain ⟨d1, d2, d3, d4, _⟩ := crash_any keep (layF s (fromN n (t + 1) : Nat) xs).1
    have hcl := fun j => crash_lay keep hL.loose c3 c4 j
    refine Live.able ⟨tail, hL.outer d1 d2 (d3.trans c3.size) (fun j hj => ?_) (fun i hi => ?_), hf⟩
    · rcases hcl j with e | ⟨m, q1, q2⟩
      · exact e
      · have hm := (List.getElem?_eq_some_iff.1 q2).1
        exact absurd q1 (hj m (by omega))
    · rcases hcl ((fromN n (t + 1) + i : Nat) : Int) with e | ⟨m, q1, q2⟩
      · rw [e]; exact hL.oth i hi
      · exact hfx m _ q2
end Go.Proofs.Ythffheckghdelaa

/- Package wal in plain words: openings, a new log. -/
namespace Go.Proofs.Ythffheckghdelaa
open Go Go.Wk
set_option maxRecDepth 100000

theorem find_zero {j : Int} : ∀ {ws : List LWr}, (∀ y ∈ ws, y.b = zB) → (findB j ws).getD zB = zB ∧ ((∃ y ∈ ws, y.at_ = j) → findB j ws = some zB) ∧ ((∀ y ∈ ws, y.at_ ≠ j) → findB j ws = none)
  | [], _ => ⟨rfl, fun ⟨_, h, _⟩ => by (cases h), fun _ => rfl⟩
  | x :: l, h => by
    obtain ⟨h1, h2, h3⟩ := find_zero (j := j) (ws := l) (fun y hy => h y (by simp [hy]))
    have hx := h x (by simp)
    rw [findB]
    by_cases e : x.at_ = j
    · rw [if_pos e, hx]
      refine ⟨?_, fun _ => ?_, fun hn => absurd e (hn x (by simp))⟩
      · cases hf : findB j l with
        | none => rfl
        | some u => rw [hf] at h1; exact h1
      · cases hf : findB j l with
        | none => rfl
        | some u => rw [hf] at h1; show some u = some zB; rw [show u = zB from h1]
    · rw [if_neg e, Option.or_none]
      refine ⟨h1, fun ⟨y, hy, he⟩ => ?_, fun hn => h3 fun y hy => hn y (by simp [hy])⟩
      rcases List.mem_cons.1 hy with rfl | hy
      · exact absurd he e
      · exact h2 ⟨y, hy, he⟩
theorem blk_zero {x : Blk} (h : x.l = zB.l) : x = zB := Blk.ext' h
/-- noughts are laid, or the power goes. -/
theorem clr_w (fr : Nat) : ∀ (xs : List Blk) (i : Nat) (sy : Bool) (s : DS), Up s → ((fr + i + xs.length : Nat) : Int) ≤ s.size →
    Alike s (clrW fr xs i sy s).1 ∧ ∃ ws : List LWr, (clrW fr xs i sy s).1.loose = s.loose ++ ws ∧ (∀ y ∈ ws, y.b = zB ∧ ∃ m, m < xs.length ∧ y.at_ = ((fr + i + m : Nat) : Int)) ∧
      (((clrW fr xs i sy s).2.1 = 0 ∧ (clrW fr xs i sy s).1.out = false ∧ (s.arms.on = false → (clrW fr xs i sy s).1.arms.on = false) ∧ (∀ (m : Nat) (x : Blk), xs[m]? = some x → x = zB ∨ ∃ y ∈ ws, y.at_ = ((fr + i + m : Nat) : Int)) ∧ (clrW fr xs i sy s).2.2 = (sy || !ws.isEmpty)) ∨
       (s.arms.on = true ∧ (clrW fr xs i sy s).2.1 = 9 ∧ (clrW fr xs i sy s).1.out = true))
  | [], i, sy, s, hu, _ => by
    rw [clrW]
    exact ⟨⟨rfl, rfl, rfl⟩, [], by simp, fun y hy => by (cases hy), .inl ⟨rfl, hu.on, id, fun m x h => by (simp at h), by simp⟩⟩
  | x :: xs, i, sy, s, hu, hs => by
    simp only [List.length_cons] at hs
    rw [clrW]
    by_cases hz : x.l = zB.l
    · rw [if_pos hz]
      obtain ⟨ha, ws, hw, hy, hc⟩ := clr_w fr xs (i + 1) sy s hu (by omega)
      refine ⟨ha, ws, hw, fun y h => ⟨(hy y h).1, ?_⟩, ?_⟩
      · obtain ⟨m, h1, h2⟩ := (hy y h).2
        exact ⟨m + 1, by simp only [List.length_cons]; omega, by rw [h2]; congr 1; omega⟩
      · rcases hc with ⟨c1, c2, c3, c4, c5⟩ | hc
        · refine .inl ⟨c1, c2, c3, fun m u h => ?_, c5⟩
          cases m with
          | zero => obtain rfl : x = u := by simpa using h
                    exact .inl (blk_zero hz)
          | succ m =>
            rcases c4 m u (by simpa using h) with h1 | ⟨y, h1, h2⟩
            · exact .inl h1
            · exact .inr ⟨y, h1, by rw [h2]; congr 1; omega⟩
        · exact .inr hc
    · rw [if_neg hz]
      rcases asked_up hu (k := ((fr + i : Nat) : Int)) (by omega) (fun s => writeD s ((fr + i : Nat) : Int) zB) with ⟨h1, h2, h3⟩ | ⟨h1, h2, h3⟩
      · rw [if_pos h2]
        have e : wrD s ((fr + i : Nat) : Int) zB = opD (writeD { s with arms := (metF s.arms).2 } ((fr + i : Nat) : Int) zB) := h3
        have hu1 : Up (wrD s ((fr + i : Nat) : Int) zB) := by rw [e]; exact ⟨hu.on, hu.fit⟩
        have hs1 : (wrD s ((fr + i : Nat) : Int) zB).size = s.size := by rw [e]; rfl
        have hl : (wrD s ((fr + i : Nat) : Int) zB).loose = s.loose ++ [⟨((fr + i : Nat) : Int), zB⟩] := by rw [e]; rfl
        have harm : s.arms.on = false → (wrD s ((fr + i : Nat) : Int) zB).arms.on = false := fun h => by rw [e]; exact met_stays h
        obtain ⟨ha, ws, hw, hy, hc⟩ := clr_w fr xs (i + 1) true (wrD s ((fr + i : Nat) : Int) zB) hu1 (by rw [hs1]; omega)
        refine ⟨⟨ha.size.trans hs1, ha.fails.trans (by rw [e]; rfl), ha.firm.trans (by rw [e]; rfl)⟩, ⟨((fr + i : Nat) : Int), zB⟩ :: ws, by rw [hw, hl, List.append_assoc]; rfl, fun y h => ?_, ?_⟩
        · rcases List.mem_cons.1 h with rfl | h
          · exact ⟨rfl, 0, by simp, rfl⟩
          · obtain ⟨m, q1, q2⟩ := (hy y h).2
            exact ⟨(hy y h).1, m + 1, by simp only [List.length_cons]; omega, by rw [q2]; congr 1; omega⟩
        · rcases hc with ⟨c1, c2, c3, c4, c5⟩ | ⟨c0, c1, c2⟩
          · refine .inl ⟨c1, c2, fun h => c3 (harm h), fun m u h => ?_, by rw [c5]; simp⟩
            cases m with
            | zero => exact .inr ⟨_, List.mem_cons_self .., rfl⟩
            | succ m =>
              rcases c4 m u (by simpa using h) with h1 | ⟨y, h1, h2⟩
              · exact .inl h1
              · exact .inr ⟨y, List.mem_cons_of_mem _ h1, by rw [h2]; congr 1; omega⟩
          · refine .inr ⟨?_, c1, c2⟩
            cases hx : s.arms.on with
            | true => rfl
            | false => rw [harm hx] at c0; cases c0
      · rw [if_neg (by rw [h2]; decide)]
        have e : wrD s ((fr + i : Nat) : Int) zB = { s with arms := (metF s.arms).2, out := true } := h3
        refine ⟨by rw [e]; exact ⟨rfl, rfl, rfl⟩, [], by rw [e]; simp, fun y hy => by (cases hy), .inr ⟨?_, h2, by rw [e]⟩⟩
        cases hx : s.arms.on with
        | true => rfl
        | false => rw [hit_off hx] at h1; cases h1
theorem clrW_zero (fr : Nat) : ∀ (k i : Nat) (sy : Bool) (s : DS), clrW fr (List.replicate k zB) i sy s = (s, 0, sy)
  | 0, _, _, _ => rfl
  | k + 1, i, sy, s => by rw [List.replicate_succ, clrW, if_pos rfl, clrW_zero fr k]
/-- what an opening comes to. -/
theorem open_reads {s : DS} {n : Nat} {t : Int} {said : List (List UInt8)} {tail : List Blk} (h : LogOn s n t said tail) (hn : NoEntry t (said.length : Nat) tail) :
    ∃ s3, Up s3 ∧ s3.loose = [] ∧ s3.size = s.size ∧ s3.arms = s.arms ∧ (∀ j, holdsF s3 j = holdsF s j) ∧ LogOn s3 n t said tail ∧ openF s = if (clrR (clrW (fromN n t) tail (endF t said) false s3)).2 = 0 then ((clrR (clrW (fromN n t) tail (endF t said) false s3)).1, 0, ⟨n, t, said, endF t said⟩) else ((clrR (clrW (fromN n t) tail (endF t said) false s3)).1, (clrR (clrW (fromN n t) tail (endF t said) false s3)).2, noOW) := by
  have hb := from_bound t h.hn.2
  have hsz := h.size
  obtain ⟨b1, b2, b3, b4, b5, b6, b7⟩ := field_up (fromN n t) n 0 (opD (opD s)) ⟨h.up.on, h.up.fit⟩ (by show ((fromN n t + 0 + n : Nat) : Int) ≤ s.size; omega)
  have hf : (fieldW (fromN n t) n 0 (opD (opD s))).2.2 = laidF t said 0 ++ tail := by
    rw [b2, ← h.cur, fieldOf]
    apply List.map_congr_left
    intro a _
    show holdsF s _ = _
    rw [Nat.zero_add]
  have hrd : readF t (laidF t said 0 ++ tail) (laidF t said 0 ++ tail).length 0 0 = (said, endF t said) := by
    have := readF_laid tail said [] 0 (laidF t said 0 ++ tail).length h.short (by rw [List.length_append]; exact Nat.le_refl _) (by rw [Nat.zero_add]; exact hn)
    simpa [endF] using this
  refine ⟨(fieldW (fromN n t) n 0 (opD (opD s))).1, b3, b4.trans h.loose, b5, b6, b7, h.same b3 (b4.trans h.loose) b5 b7, ?_⟩
  have hl0 : (fieldW (fromN n t) n 0 (opD (opD s))).1.loose = [] := b4.trans h.loose
  rw [openF, cnt_able h]
  show (if (0 : Int) = 0 then openB ((n : Int).toNat) t (opD (opD s)) else _) = _
  rw [if_pos rfl, Int.toNat_natCast, openB, if_pos b1, hf, openC, hrd]
  simp only []
  rw [if_neg h.some_, clrF, hl0, show (laidF t said 0 ++ tail).drop (endF t said) = tail from List.drop_left' rfl]
  rfl
theorem open_able {s : DS} {n : Nat} {t : Int} {said : List (List UInt8)} (h : Able s n t said) :
    ((openF s).2.1 = 0 ∧ Clean (openF s).1 n t said ∧ (openF s).2.2 = ⟨n, t, said, endF t said⟩ ∧ (s.arms.on = false → (openF s).1.arms.on = false)) ∨
    (s.arms.on = true ∧ (openF s).2.1 = 9 ∧ (openF s).1.out = true ∧ ∀ keep, Able (crashD keep (openF s).1) n t said) := by
  obtain ⟨tail, hL, hno, hfr⟩ := h
  obtain ⟨s3, u3, l3, z3, a3, h3, hL3, ho⟩ := open_reads hL hno
  have hb := from_bound t hL.hn.2
  have hsz := hL3.size
  have hlen := hL.len
  have hfew := hL.few
  have hn := hL.hn
  have htl : ∀ i, i < tail.length → tail[i]? = some (holdsF s3 ((fromN n t + endF t said + i : Nat) : Int)) := fun i hi => by
    have h1 := fieldOf_get s3 (fromN n t) n (endF t said + i) (by omega)
    rw [hL3.cur, List.getElem?_append_right (by unfold endF; omega), show endF t said + i - (laidF t said 0).length = i from by unfold endF; omega] at h1
    rw [h1]; congr 3; omega
  obtain ⟨ha, ws, hw, hy, hc⟩ := clr_w (fromN n t) tail (endF t said) false s3 u3 (by omega)
  rw [l3, List.nil_append] at hw
  -- what is cut on the way
  have cut : ∀ (r : DS) (keep : List Bool), Alike s3 r → r.loose = ws → Able (crashD keep r) n t said := fun r keep har hrl => by
    obtain ⟨d1, d2, d3, d4, d5⟩ := crash_any keep r
    have hj : ∀ j, holdsF (crashD keep r) j = holdsF s3 j ∨ ∃ m, m < tail.length ∧ j = ((fromN n t + endF t said + m : Nat) : Int) ∧ holdsF (crashD keep r) j = zB := fun j => by
      rcases d5 j with e | ⟨y, q1, q2, q3⟩
      · rw [e, har.firm, holds_firm l3]; exact .inl rfl
      · rw [hrl] at q1
        obtain ⟨p1, m, p2, p3⟩ := hy y q1
        exact .inr ⟨m, p2, q2.symm.trans p3, by rw [q3, p1]⟩
    have h1 := hL3.inner d1 d2 (d3.trans har.size) (fun j hj2 => by
      rcases hj j with e | ⟨m, q1, q2, _⟩
      · exact e
      · exact absurd (q2.trans (by congr 1; omega)) (hj2 (endF t said + m) (by omega) (by omega)))
    have hmix : ∀ (i : Nat) (x : Blk), ((fieldOf (crashD keep r) (fromN n t) n).drop (endF t said))[i]? = some x → tail[i]? = some x ∨ x = zB := fun i x hx => by
      have hi : i < tail.length := by
        have := (List.getElem?_eq_some_iff.1 hx).1
        rw [List.length_drop, fieldOf_len] at this; omega
      rw [List.getElem?_drop, fieldOf_get _ _ _ _ (by omega)] at hx
      obtain rfl := Option.some.inj hx
      rcases hj ((fromN n t + (endF t said + i) : Nat) : Int) with e | ⟨_, _, _, e⟩
      · rw [e, htl i hi]; left; congr 3; omega
      · exact .inr e
    refine ⟨_, h1, zero_entry hL.ht.2 (by omega) hno hmix, fun x hx => ?_⟩
    obtain ⟨i, hi⟩ := List.getElem?_of_mem hx
    rcases hmix i x hi with h2 | h2
    · exact hfr x (List.mem_of_getElem? h2)
    · rw [h2]; exact fresh_zero _
  -- what an opening that is not cut leaves
  have done : ∀ (r : DS), Up r → r.loose = [] → r.size = s3.size → (∀ j, holdsF r j = (findB j ws).getD (holdsF s3 j)) → (∀ (m : Nat) (x : Blk), tail[m]? = some x → x = zB ∨ ∃ y ∈ ws, y.at_ = ((fromN n t + endF t said + m : Nat) : Int)) → Clean r n t said := fun r hur hlr hzr hhr hall => by
    have h1 := hL3.inner hur hlr hzr (fun j hj2 => by
      rw [hhr, (find_zero (j := j) fun y hyy => (hy y hyy).1).2.2 (fun y hyy e => by
        obtain ⟨_, m, p2, p3⟩ := hy y hyy
        exact hj2 (endF t said + m) (by omega) (by omega) (e.symm.trans (p3.trans (by congr 1; omega))))]; rfl)
    refine ⟨tail.length, ?_⟩
    have e : (fieldOf r (fromN n t) n).drop (endF t said) = List.replicate tail.length zB := by
      apply List.ext_getElem?
      intro i
      rw [List.getElem?_drop, List.getElem?_replicate]
      by_cases hi : i < tail.length
      · rw [if_pos hi, fieldOf_get _ _ _ _ (by omega), hhr]
        rcases hall i _ (htl i hi) with q | ⟨y, q1, q2⟩
        · congr 1
          have hz := find_zero (j := ((fromN n t + (endF t said + i) : Nat) : Int)) fun y hyy => (hy y hyy).1
          rw [show (fromN n t + (endF t said + i) : Nat) = fromN n t + endF t said + i from by omega, q, ← show (fromN n t + (endF t said + i) : Nat) = fromN n t + endF t said + i from by omega]
          exact hz.1
        · congr 1
          rw [(find_zero fun y hyy => (hy y hyy).1).2.1 ⟨y, q1, q2.trans (by congr 1; omega)⟩]; rfl
      · rw [if_neg hi, List.getElem?_eq_none (by rw [fieldOf_len]; omega)]
    rw [e] at h1
    exact h1
  rcases hc with ⟨c1, c2, c3, c4, c5⟩ | ⟨c0, c1, c2⟩
  · have hur : Up (clrW (fromN n t) tail (endF t said) false s3).1 := ⟨c2, by rw [ha.fails]; exact u3.fit⟩
    cases hws : ws.isEmpty with
    | true =>
      have hw0 : ws = [] := List.isEmpty_iff.1 hws
      have hr : clrR (clrW (fromN n t) tail (endF t said) false s3) = ((clrW (fromN n t) tail (endF t said) false s3).1, 0) := by
        rw [clrR, if_pos c1, c5, hws, if_neg (by simp)]
      rw [ho, hr, if_pos rfl]
      refine .inl ⟨rfl, done _ hur (by rw [hw, hw0]) ha.size (fun j => ?_) c4, rfl, fun h => c3 (by rw [a3]; exact h)⟩
      rw [hw0, holds_firm (by rw [hw, hw0]), ha.firm, holds_firm l3]; rfl
    | false =>
      have hr : clrR (clrW (fromN n t) tail (endF t said) false s3) = (syD (clrW (fromN n t) tail (endF t said) false s3).1, askE (clrW (fromN n t) tail (endF t said) false s3).1 0 true) := by
        rw [clrR, if_pos c1, c5, hws, if_pos (by simp)]
      rcases sy_up hur (by rw [ha.size, z3]; have := hL.size; omega) with ⟨d1, d2, d3, d4, d5, d6, d7⟩ | ⟨d0, d1, d2, d3, d4⟩
      · rw [ho, hr, if_pos d1]
        refine .inl ⟨rfl, done _ ⟨d2, by rw [d6]; exact hur.fit⟩ d3 (d5.trans ha.size) (fun j => ?_) c4, rfl, fun h => d7 (c3 (by rw [a3]; exact h))⟩
        show holdsF (syD _) j = _
        rw [d4, holdsF, hw, ha.firm, holds_firm l3]
        cases findB j ws <;> rfl
      · rw [ho, hr, if_neg (by rw [d1]; show ¬ (9 : Int) = 0; decide)]
        refine .inr ⟨?_, d1, d2, fun keep => cut _ keep ⟨d4.size.trans ha.size, d4.fails.trans ha.fails, d4.firm.trans ha.firm⟩ (d3.trans hw)⟩
        cases hx : s.arms.on with
        | true => rfl
        | false => rw [c3 (by rw [a3]; exact hx)] at d0; cases d0
  · have hr : clrR (clrW (fromN n t) tail (endF t said) false s3) = ((clrW (fromN n t) tail (endF t said) false s3).1, 9) := by
      rw [clrR, if_neg (by rw [c1]; decide), c1]
    rw [ho, hr, if_neg (by show ¬ (9 : Int) = 0; decide)]
    exact .inr ⟨by rw [← a3]; exact c0, rfl, c2, fun keep => cut _ keep ha hw⟩
/-- an opening of what an opening left writes nothing. -/
theorem open_clean {s : DS} {n : Nat} {t : Int} {said : List (List UInt8)} (h : Clean s n t said) : (openF s).2.1 = 0 ∧ Clean (openF s).1 n t said ∧ (openF s).2.2 = ⟨n, t, said, endF t said⟩ ∧ (openF s).1.arms = s.arms := by
  obtain ⟨k, hL⟩ := h
  have hn := hL.hn
  have hfew := hL.few
  obtain ⟨s3, u3, l3, z3, a3, h3, hL3, ho⟩ := open_reads hL (noEntry_fresh hL.ht.2 (by omega) (fun x hx => by rw [(List.mem_replicate.1 hx).2]; exact fresh_zero t))
  rw [clrW_zero] at ho
  have hr : clrR (s3, 0, false) = (s3, 0) := rfl
  rw [hr] at ho
  simp only [if_pos] at ho
  rw [ho]
  exact ⟨rfl, ⟨k, hL3⟩, rfl, a3⟩
/-- a new log. -/
theorem format_live (n : Nat) (hn : 4 ≤ n ∧ n ≤ 1000) : (fmtF n (newD ((2 * n + 2 : Nat) : Int))).2 = 0 ∧ Live (fmtF n (newD ((2 * n + 2 : Nat) : Int))).1 n 0 [[]] ∧ (fmtF n (newD ((2 * n + 2 : Nat) : Int))).1.arms.on = false := by
  obtain ⟨s0, hs0⟩ : ∃ s0, s0 = newD ((2 * n + 2 : Nat) : Int) := ⟨_, rfl⟩
  rw [← hs0]
  have hu0 : Up s0 := by rw [hs0]; exact ⟨rfl, rfl⟩
  have hz0 : s0.size = ((2 * n + 2 : Nat) : Int) := by rw [hs0]; rfl
  have ha0 : s0.arms.on = false := by rw [hs0]; rfl
  have hh0 : ∀ j, holdsF s0 j = zB := fun j => by rw [hs0]; rfl
  have off : ∀ {s : DS}, s.arms.on = false → ¬ s.arms.on = true := fun h h2 => by rw [h] at h2; cases h2
  rcases lay_f (List.replicate (2 * n + 2) zB) s0 0 hu0 (by rw [hs0]; rfl) (by omega) (by rw [List.length_replicate]; omega) with ⟨c1, c2, c3, c4, c5, c6⟩ | ⟨c0, _⟩
  · replace c1 : (layF s0 0 (List.replicate (2 * n + 2) zB)).2 = 0 := c1
    have hfm : fmtF n s0 = begF n 0 [] (layF s0 0 (List.replicate (2 * n + 2) zB)).1 := by rw [fmtF, if_pos c1]
    rw [hfm]
    obtain ⟨s1, hs1⟩ : ∃ s1, s1 = (layF s0 0 (List.replicate (2 * n + 2) zB)).1 := ⟨_, rfl⟩
    replace c2 : Up s1 := by rw [hs1]; exact c2
    replace c3 : s1.loose = [] := by rw [hs1]; exact c3
    replace c4 : s1.size = s0.size := by rw [hs1]; exact c4
    replace c5 : s1.arms.on = false := by rw [hs1]; exact c5 ha0
    have hh1 : ∀ j, holdsF s1 j = zB := fun j => by
      rw [hs1]
      have := c6 j
      rw [hh0, wrs_find] at this
      refine Eq.trans this ?_
      split
      · rw [List.getElem?_replicate]; split <;> rfl
      · rfl
    rw [← hs1]
    have hxl : (leavesF 0 0 []).length = 1 := rfl
    rcases lay_f (leavesF 0 0 []) s1 2 c2 c3 (by omega) (by rw [hxl]; omega) with ⟨d1, d2, d3, d4, d5, d6⟩ | ⟨d0, _⟩
    · have h2n : fromN n 0 = 2 := by simp [fromN]
      replace d1 : (layF s1 ((2 : Nat) : Int) (leavesF 0 0 [])).2 = 0 := d1
      have hbg : begF n 0 [] s1 = layF (layF s1 ((2 : Nat) : Int) (leavesF 0 0 [])).1 (((0 : Int) % 2).toNat : Nat) [titleF 0 n] := by
        show (if (layF s1 (fromN n 0 : Nat) (leavesF 0 0 [])).2 = 0 then layF (layF s1 (fromN n 0 : Nat) (leavesF 0 0 [])).1 (((0 : Int) % 2).toNat : Nat) [titleF 0 n] else layF s1 (fromN n 0 : Nat) (leavesF 0 0 [])) = _
        rw [h2n]; exact if_pos d1
      rw [hbg]
      obtain ⟨s2, hs2⟩ : ∃ s2, s2 = (layF s1 ((2 : Nat) : Int) (leavesF 0 0 [])).1 := ⟨_, rfl⟩
      replace d2 : Up s2 := by rw [hs2]; exact d2
      replace d3 : s2.loose = [] := by rw [hs2]; exact d3
      replace d4 : s2.size = s1.size := by rw [hs2]; exact d4
      replace d5 : s2.arms.on = false := by rw [hs2]; exact d5 c5
      replace d6 : ∀ j, holdsF s2 j = (findB j (wrs 2 (leavesF 0 0 []))).getD (holdsF s1 j) := fun j => by rw [hs2]; exact d6 j
      rw [← hs2]
      rcases lay_f [titleF 0 n] s2 0 d2 d3 (by omega) (by simp only [List.length_singleton]; omega) with ⟨e1, e2, e3, e4, e5, e6⟩ | ⟨e0, _⟩
      · have h0 : holdsF (layF s2 (((0 : Int) % 2).toNat : Nat) [titleF 0 n]).1 0 = titleF 0 n := by
          have := e6 0
          exact this
        have hj : ∀ j : Int, j ≠ 0 → holdsF (layF s2 (((0 : Int) % 2).toNat : Nat) [titleF 0 n]).1 j = holdsF s2 j := fun j hj => by
          have := e6 j
          rw [over_ne (fun i hi => by have : i = 0 := by simpa using hi
                                      subst this; exact hj)] at this
          exact this
        refine ⟨e1, ⟨List.replicate (n - 1) zB, ⟨e2, e3, hn, ?_, by omega, h0, ?_, by simp, fun b hb => ?_, ?_, fun i hi => ?_⟩, fun x hx => ?_⟩, e5 d5⟩
        · have : (layF s2 (((0 : Int) % 2).toNat : Nat) [titleF 0 n]).1.size = s2.size := e4
          rw [this]; omega
        · rw [hj _ (by decide), d6, over_ne (fun i hi => by rw [hxl] at hi; omega), hh1]
          intro hb
          rw [show tellN zB = 0 from by decide] at hb
          simp [mayF] at hb
        · obtain rfl := List.mem_singleton.1 hb; simp
        · have h1 := field_over (s := s1) (s' := s2) (fr := 2) (n := n) (k := 0) (xs := leavesF 0 0 []) (by rw [hxl]; omega) (fun j => d6 j)
          rw [h2n, fieldOf_eq fun i hi => hj _ (by omega), h1, List.take_zero, List.nil_append, laidF, laidF, List.append_nil]
          congr 1
          rw [hxl, fieldOf, show (fun i => holdsF s1 ((2 + i : Nat) : Int)) = fun _ => zB from funext fun i => hh1 _]
          rw [List.map_const', List.length_range, List.drop_replicate]
        · rw [hj _ (by have := from_bound (0 + 1) (n := n) hn.2; omega), d6, over_ne (fun a ha => by rw [hxl] at ha; have := from_apart 0 (n := n) (i := a) (j := i) (by omega) hi; rw [h2n] at this; omega), hh1]
          exact fresh_zero _
        · rw [(List.mem_replicate.1 hx).2]; exact fresh_zero _
      · exact absurd e0 (off d5)
    · exact absurd d0 (off c5)
  · exact absurd c0 (off ha0)
/-- behind an arming. -/
theorem arm_live {s : DS} {n : Nat} {t : Int} {said : List (List UInt8)} {tail : List Blk} (h : LogOn s n t said tail) (k : Int) : LogOn (armD s k) n t said tail := by
  have e : armD s k = { s with arms := setC k } := by rw [armD, if_neg (by rw [h.up.on]; exact Bool.false_ne_true)]
  rw [e]
  exact h.same ⟨h.up.on, h.up.fit⟩ h.loose rfl (fun _ => rfl)
theorem crash_live (l : List Bool) {s : DS} {n : Nat} {t : Int} {said : List (List UInt8)} {tail : List Blk} (h : LogOn s n t said tail) : LogOn (crashD l s) n t said tail := by
  obtain ⟨d1, d2, d3, d4, _⟩ := crash_any l s
  exact h.same d1 d2 d3 (fun j => crash_still l h.loose j)
end Go.Proofs.Ythffheckghdelaa

/- The laws of layer 4: accounts of logs, and whether two are one. -/
namespace Go.Proofs.Ythffheckghdelaa
open Go Go.Wk
set_option synthInstance.maxSize 100000
set_option synthInstance.maxHeartbeats 400000
set_option maxRecDepth 100000

theorem beq_c (p q : Option Addr) (c e : Nat) (xs ys : List UInt8) (_hl : xs.length ≤ 1000000 ∧ ys.length ≤ 1000000) (w0 : World) (f1 : Stable (fun _ => False) w0 (GlF p xs)) (f2 : Stable (fun _ => False) w0 (GlF q ys)) :
    Ret Try.prog 30 [.slice p xs.length c, .slice q ys.length e] w0 (fun _ => False) fun v _ => v = .bool (decide (xs = ys)) := by
  refine enter Try.func30 rfl rfl (Wd.begin (fs := [SlF p (encL xs), SlF q (encL ys)]) (by simp; exact ⟨f1.imp fun _ h => h.1, f2.imp fun _ h => h.1⟩)) (fun a S => ?_)
  simp only [Try.ntmps30, List.length_cons, List.length_nil, Nat.reduceAdd, Nat.reduceSub, List.replicate_succ, List.replicate_zero, List.cons_append, List.nil_append] at S
  refine c_seq ?_
  refine c_region ?_
  refine sq S ?_; clear S; intro a S
  refine wl_nil ?_
  refine xtn ?_
  refine c_seq ?_
  refine c_region ?_
  iterate 6 (refine sq S ?_; clear S; intro a S)
  refine wl_nil ?_
  refine xtn ?_
  refine c_ret ?_
  refine end1 S (fun _ => ?_)
  rfl
/-- rows of entries. -/
abbrev bsL (ys : List LBy) : List (List UInt8) := ys.map LBy.bs
theorem eqf_c (p q : Option Addr) (c e : Nat) (xs ys : List LBy) (hl : xs.length ≤ 1000000 ∧ ys.length ≤ 1000000) (hx : ∀ y ∈ xs, y.bs.length ≤ 1000000) (hy : ∀ y ∈ ys, y.bs.length ≤ 1000000) (w0 : World) (f1 : Stable (fun _ => False) w0 (GlF p xs)) (f2 : Stable (fun _ => False) w0 (AllBy xs)) (f3 : Stable (fun _ => False) w0 (GlF q ys)) (f4 : Stable (fun _ => False) w0 (AllBy ys)) :
    Ret Try.prog 58 [.slice p xs.length c, .slice q ys.length e, .func (.func 30) #[] #[]] w0 (fun _ => False) fun v _ => v = .bool (decide (bsL xs = bsL ys)) := by
  refine enter Try.func58 rfl rfl (Wd.begin (fs := [GlF p xs, AllBy xs, GlF q ys, AllBy ys]) (by simp; exact ⟨f1, f2, f3, f4⟩)) (fun a S => ?_)
  simp only [Try.ntmps58, List.length_cons, List.length_nil, Nat.reduceAdd, Nat.reduceSub, List.replicate_succ, List.replicate_zero, List.cons_append, List.nil_append] at S
  refine c_seq ?_
  refine c_region ?_
  refine sq S ?_; clear S; intro a S
  refine wl_nil ?_
  refine xtn ?_
  iterate 2 (refine c_seq ?_)
  refine c_region ?_
  iterate 5 (refine sq S ?_; clear S; intro a S)
  refine wl_nil ?_
  refine xtn ?_
  refine c_cond S (fun h1 => ?_) (fun h1 => ?_)
  · refine c_seq ?_
    refine c_region ?_
    refine sq S ?_; clear S; intro a S
    refine wl_nil ?_
    refine xtn ?_
    refine c_ret ?_
    refine xtr ?_
    have hne : bsL xs ≠ bsL ys := fun h => by have := congrArg List.length h; simp at this; rw [this] at h1; simp at h1
    refine end1 S (fun _ => ?_)
    rw [decide_eq_false hne]
  · refine c_skip ?_
    refine xtn ?_
    iterate 2 (refine c_seq ?_)
    refine c_region ?_
    iterate 3 (refine sq S ?_; clear S; intro a S)
    refine wl_nil ?_
    refine xtn ?_
    refine c_block ?_
    have hle : xs.length = ys.length := by simp at h1; omega
    refine c_fore1 S (fun (k : Nat) uu => [(6, uu 6), (0, uu 7), (0, uu 8), (0, uu 9), (7, .int .i64 (k : Nat)), (0, uu 18), (0, uu 19), (0, uu 20), (0, uu 21), (0, uu 22), (0, uu 23), (0, uu 24), (0, uu 25), (0, uu 26), (0, uu 27), (0, uu 28), (0, uu 29), (0, uu 30), (0, uu 31)]) (fun (k : Nat) => []) (fun (k : Nat) => [GlF p xs, AllBy xs, GlF q ys, AllBy ys]) (fun (k : Nat) => k ≤ xs.length ∧ (bsL xs).take k = (bsL ys).take k) (fun (k : Nat) => xs.length - k) (0) ?_ S.uu ?_ ?_
    · exact ⟨Nat.zero_le _, rfl⟩
    · first | exact S | exact S.sub _ _
    · clear S; rintro k uu a w ⟨hk, hrel⟩ S
      refine c_seq ?_
      refine c_region ?_
      refine sq S ?_; clear S; intro a S
      refine wl_nil ?_
      refine xtn ?_
      refine c_seq ?_
      refine c_cond S (fun h4 => ?_) (fun h4 => ?_)
      · refine c_skip ?_
        refine xtn ?_
        refine c_seq ?_
        refine c_block ?_
        refine c_seq ?_
        have hkl : k < xs.length := by simpa using h4
        have hK1 : KLt k xs.length := ⟨hkl⟩
        have hK2 : KLt k ys.length := ⟨by omega⟩
        have hx1 := hx _ (nthG_mem hkl)
        have hy1 := hy _ (nthG_mem (show k < ys.length by omega))
        have g1 : (bsL xs)[k]? = some (nthG xs k).bs := by rw [List.getElem?_map, nthG_get hkl]; rfl
        have g2 : (bsL ys)[k]? = some (nthG ys k).bs := by rw [List.getElem?_map, nthG_get (show k < ys.length by omega)]; rfl
        refine c_region ?_
        iterate 5 (refine sq S ?_; clear S; intro a S)
        refine wl_nil ?_
        refine xtn ?_
        refine c_seq ?_
        refine c_region ?_
        iterate 5 (refine sq S ?_; clear S; intro a S)
        refine wl_nil ?_
        refine xtn ?_
        refine c_seq ?_
        refine c_region ?_
        iterate 3 (refine sq S ?_; clear S; intro a S)
        refine sr S (beq_c (nthG xs k).p (nthG ys k).p (nthG xs k).c (nthG ys k).c (nthG xs k).bs (nthG ys k).bs ⟨hx1, hy1⟩ _ (((S.mem.fact (AllBy xs)).less fun _ _ h => h.elim).imp fun _ h => h _ (nthG_mem hkl)) (((S.mem.fact (AllBy ys)).less fun _ _ h => h.elim).imp fun _ h => h _ (nthG_mem (by omega)))) ?_; clear S; rintro _ a w rfl S
        refine sq S ?_; clear S; intro a S
        refine wl_nil ?_
        refine xtn ?_
        refine c_cond S (fun h7 => ?_) (fun h7 => ?_)
        · refine c_seq ?_
          refine c_region ?_
          refine sq S ?_; clear S; intro a S
          refine wl_nil ?_
          refine xtn ?_
          refine c_ret ?_
          refine xbr ?_
          iterate 2 (refine xtr ?_)
          refine xbr ?_
          refine xtr ?_
          have h9 : (nthG xs k).bs ≠ (nthG ys k).bs := by simpa using h7
          have hne : bsL xs ≠ bsL ys := fun h => h9 (by rw [h, g2] at g1; exact (Option.some.inj g1).symm)
          refine end1 S (fun _ => ?_)
          rw [decide_eq_false hne]
        · refine c_skip ?_
          refine xbn ?_
          refine xtn ?_
          refine c_region ?_
          iterate 2 (refine sq S ?_; clear S; intro a S)
          refine wl_nil ?_
          refine xtn ?_
          have h9 : (nthG xs k).bs = (nthG ys k).bs := by simpa using h7
          rw [w64 ((k : Int) + 1) (by omega) (by omega)] at S
          exact ⟨k + 1, S.uu, ⟨hkl, by rw [List.take_add_one, List.take_add_one, g1, g2, hrel, h9]⟩, S.sub _ _, by omega⟩
      · refine c_exit ?_
        iterate 2 (refine xte ?_)
        refine xbe ?_
        refine xtn ?_
        refine c_seq ?_
        refine c_region ?_
        refine sq S ?_; clear S; intro a S
        refine wl_nil ?_
        refine xtn ?_
        refine c_ret ?_
        have h9 : xs.length ≤ k := by simpa using h4
        rw [List.take_of_length_le (by simp; exact h9), List.take_of_length_le (by simp; omega)] at hrel
        refine end1 S (fun _ => ?_)
        rw [decide_eq_true hrel]
theorem equal_c (p q : Option Addr) (c e : Nat) (xs ys : List LBy) (hl : xs.length ≤ 1000000 ∧ ys.length ≤ 1000000) (hx : ∀ y ∈ xs, y.bs.length ≤ 1000000) (hy : ∀ y ∈ ys, y.bs.length ≤ 1000000) (w0 : World) (f1 : Stable (fun _ => False) w0 (GlF p xs)) (f2 : Stable (fun _ => False) w0 (AllBy xs)) (f3 : Stable (fun _ => False) w0 (GlF q ys)) (f4 : Stable (fun _ => False) w0 (AllBy ys)) :
    Ret Try.prog 33 [.slice p xs.length c, .slice q ys.length e] w0 (fun _ => False) fun v _ => v = .bool (decide (bsL xs = bsL ys)) := by
  refine enter Try.func33 rfl rfl (Wd.begin (fs := [GlF p xs, AllBy xs, GlF q ys, AllBy ys]) (by simp; exact ⟨f1, f2, f3, f4⟩)) (fun a S => ?_)
  simp only [Try.ntmps33, List.length_cons, List.length_nil, Nat.reduceAdd, Nat.reduceSub, List.replicate_succ, List.replicate_zero, List.cons_append, List.nil_append] at S
  refine c_seq ?_
  refine c_region ?_
  refine sq S ?_; clear S; intro a S
  refine wl_nil ?_
  refine xtn ?_
  refine c_seq ?_
  refine c_region ?_
  iterate 2 (refine sq S ?_; clear S; intro a S)
  refine sr S (eqf_c p q c e xs ys hl hx hy _ ((S.mem.fact (GlF p xs)).less fun _ _ h => h.elim) ((S.mem.fact (AllBy xs)).less fun _ _ h => h.elim) ((S.mem.fact (GlF q ys)).less fun _ _ h => h.elim) ((S.mem.fact (AllBy ys)).less fun _ _ h => h.elim)) ?_; clear S; rintro _ a w rfl S
  refine sq S ?_; clear S; intro a S
  refine wl_nil ?_
  refine xtn ?_
  refine c_ret ?_
  exact end1 S (fun _ => rfl)
/-- an account. -/
abbrev accI (p : Option Addr) (c : Nat) (ys : List LBy) : Wk.Item := both (Wk.row 35 1 p ys.length c (encL ys)) (entI ys)
theorem told_get {came : List LBy} {i : Nat} {z : Nat × LBy} (h : (toldL came)[i]? = some z) : i < came.length ∧ z = (i + 1, nthG came i) := by
  rw [toldL, List.getElem?_map] at h
  have hi : i < came.length := by
    cases hr : (List.range came.length)[i]? with
    | none => rw [hr] at h; cases h
    | some a => have := (List.getElem?_eq_some_iff.1 hr).1; simpa using this
  rw [List.getElem?_range hi] at h
  exact ⟨hi, (Option.some.inj h).symm⟩
theorem account_c (g b : Nat) (q : Option Addr) (e : Nat) (x : WS) (h0 : 0 < x.said.length) (hc : x.said.length ≤ e) (hl : x.said.length ≤ 1000000) (hby : ∀ y ∈ x.said, y.bs.length ≤ 1000000) (w0 : World) (f1 : Stable (fun _ => False) w0 (BoxF g 73 (cWal b q e x))) (f2 : Stable (fun _ => False) w0 (GlF q x.said)) (f3 : Stable (fun _ => False) w0 (AllBy x.said)) :
    Ret Try.prog 34 [.pointer (some ⟨g, 0, none⟩)] w0 (fun _ => False) fun v w' => ∃ p c ys, v = .slice p ys.length c ∧ bsL ys = bsL x.said ∧ (accI p c ys).holds w' ∧ ∀ k, (accI p c ys).foot k → w0.heap.size ≤ k := by
  obtain ⟨y0, hy0⟩ : ∃ y0, y0 = nthG x.said 0 := ⟨_, rfl⟩
  have hy0l := hby _ (nthG_mem h0)
  obtain ⟨came, hcame⟩ : ∃ came, came = x.said.drop 1 := ⟨_, rfl⟩
  have hcl : came.length = x.said.length - 1 := by rw [hcame, List.length_drop]
  have hxs : x.said = y0 :: came := by
    have h1 := nthG_get (xs := x.said) (k := 0) h0
    have h2 := List.drop_eq_getElem_cons (l := x.said) (i := 0) h0
    rw [List.drop_zero] at h2
    rw [h2, hcame, hy0, ← (List.getElem?_eq_some_iff.1 h1).2]
  refine enterM Try.func34 rfl rfl (Wd.begin (fs := [BoxF g 73 (cWal b q e x), GlF q x.said, AllBy x.said]) (by simp; exact ⟨f1, f2, f3⟩)) (fun a S => ?_)
  simp only [Try.ntmps34, List.length_cons, List.length_nil, Nat.reduceAdd, Nat.reduceSub, List.replicate_succ, List.replicate_zero, List.cons_append, List.nil_append] at S
  refine c_seq ?_
  refine c_region ?_
  refine sq S ?_; clear S; intro a S
  refine wl_nil ?_
  refine xtn ?_
  refine c_seq ?_
  refine c_region ?_
  refine sq S ?_; clear S; intro a S
  refine srn S (snap_c g b q e x y0 h0 hy0.symm (by rw [hy0]; exact hy0l) _ ((S.mem.fact (BoxF g 73 (cWal b q e x))).less fun _ _ h => h.elim) ((S.mem.fact (GlF q x.said)).less fun _ _ h => h.elim) (((S.mem.fact (AllBy x.said)).less fun _ _ h => h.elim).imp fun _ h => h _ (hy0 ▸ nthG_mem h0))) ?_; clear S; rintro _ a w ⟨p1, c1, rfl, hown, hg⟩ hS -
  have S := hS hown hg
  clear hS
  replace S := St.rowEnt S ⟨p1, c1, y0.bs⟩ (S.row p1 y0.bs.length)
  refine sn S ?_; clear S; intro b8 a w S
  refine sa S ?_; clear S; intro b3 a w S
  refine sw S ?_; clear S; intro a w S
  refine wl_nil ?_
  refine xtn ?_
  iterate 2 (refine c_seq ?_)
  refine c_region ?_
  refine sq S ?_; clear S; intro a S
  have hlt := foots_lt S
  refine sr S (all_c g b q e x h0 hc _ ((S.mem.fact (BoxF g 73 (cWal b q e x))).less fun _ _ h => h.elim)) ?_; clear S; rintro _ a w ⟨h, rfl, n0, e0⟩ S
  replace S := S.add (Φ := BoxF h 51 [.slice (if e = 1 then q else q.map (·.add (1 * 1))) (x.said.length - 1) (e - 1)]) (BoxF.stable e0 (fun hm => by have := hlt _ hm; omega))
  rw [← hcl] at S
  obtain ⟨q2, hq2⟩ : ∃ q2, q2 = (if e = 1 then q else q.map (·.add (1 * 1))) := ⟨_, rfl⟩
  rw [← hq2] at S
  replace S := S.add (Φ := GlF q2 came) ((S.mem.fact (GlF q x.said)).imp fun _ h => by rw [hq2, hcame]; exact h.drop 1 hc)
  replace S := S.add (Φ := AllBy came) ((S.mem.fact (AllBy x.said)).imp fun _ h y hy => h y (by rw [hcame] at hy; exact List.mem_of_mem_drop hy))
  refine wl_nil ?_
  refine xtn ?_
  refine c_block ?_
  replace S := S.boxRow b8 1 1 rfl (by decide)
  replace S := S.sub [Wk.box b3 51 [.slice (some ⟨b8, 0, none⟩) 1 1], Wk.row 35 1 (some ⟨b8, 0, none⟩) 1 1 [.slice p1 y0.bs.length c1], entI [⟨p1, c1, y0.bs⟩], marks []] [AllBy came, GlF q2 came, BoxF h 51 [.slice q2 came.length (e - 1)]]
  replace S := S.front (entI [⟨p1, c1, y0.bs⟩])
  refine c_range (κ := List LBy × Option Addr × Nat) (κx := Unit) (Ds := []) (toldL came)
    (fun _ k => [entI k.1, Wk.box b3 51 [.slice k.2.1 k.1.length k.2.2], Wk.row 35 1 k.2.1 k.1.length k.2.2 (encL k.1), marks []])
    (fun _ _ => [AllBy came, GlF q2 came, BoxF h 51 [.slice q2 came.length (e - 1)]])
    (fun i k => bsL k.1 = (bsL x.said).take (i + 1) ∧ i ≤ came.length)
    (fun _ => []) (fun _ => []) (fun _ _ => False) ([⟨p1, c1, y0.bs⟩], some ⟨b8, 0, none⟩, 1) S
    (fun M w1 hM hF _ => all_it h came q2 (e - 1) (by omega) (fun y hy => hby y (by rw [hxs]; simp [hy])) w1 M hM (hF _ (by simp)) (hF _ (by simp)) (hF _ (by simp))) ⟨⟨by rw [hxs]; rfl, Nat.zero_le _⟩, rfl, rfl⟩ ?_ ?_ ?_ ?_
  · clear S
    rintro L D bL M' w1 i z vs ⟨ys, p, c⟩ W0 w hz ⟨hys, hil⟩ hW0 hgr ⟨p2, c2, rfl, hown, hnew⟩
    obtain ⟨hi, rfl⟩ := told_get hz
    obtain ⟨y2, hy2⟩ : ∃ y2 : LBy, y2 = ⟨p2, c2, (nthG came i).bs⟩ := ⟨_, rfl⟩
    have hent : (entI [y2]).holds w := by rw [hy2]; exact ent_row (y := ⟨p2, c2, (nthG came i).bs⟩) hown
    have hwd := hW0.addItem hgr hent (fun k ⟨u, hu, ad, hp, hk⟩ => by
      obtain rfl := List.mem_singleton.1 hu
      rw [hy2] at hp
      exact hk ▸ hnew ad hp) (ItOk.lt w hent) ItOk.loc
    have hylen : ys.length = i + 1 := by have := congrArg List.length hys; simp at this; omega
    refine ⟨_, inferInstance, fun a S => ?_⟩
    replace S : St w1 M' [] a w _ (entI [y2] :: lpI L D (lpR bL .ready none) :: _) _ := ⟨S.slots, S.defers, hwd⟩
    refine c_region ?_
    refine sq S ?_; clear S; intro a S
    refine wl_nil ?_
    refine xtn ?_
    refine rbegin (D := D) (b := bL) S ?_; clear S; intro a w S
    refine c_block ?_
    refine c_region ?_
    iterate 2 (refine sq S ?_; clear S; intro a S)
    refine sn S ?_; clear S; intro b15 a w S
    rw [show (Value.slice p2 (nthG came i).bs.length c2) = .slice y2.p y2.bs.length y2.c from by rw [hy2]] at S
    refine sap S (by show ys.length + 1 ≤ _; simp only [maxLen]; omega) (by show (ys.length + 1) * 24 ≤ _; omega) ?_; clear S; rintro p3 c3 a w - S
    rw [show encL ys ++ [.slice y2.p y2.bs.length y2.c] = encL (ys ++ [y2]) from by rw [encL_append]; rfl, show ys.length + 1 = (ys ++ [y2]).length from by simp] at S
    refine sw S ?_; clear S; intro a w S
    refine wl_nil ?_
    refine xbn ?_
    replace S := S.front (entI ys)
    replace S := S.front (entI [y2])
    replace S := St.entAdd S
    replace S := S.front (lpI L D (lpR bL .busy none))
    replace S := S.sub [lpI L D (lpR bL .busy none), entI (ys ++ [y2]), Wk.box b3 51 [.slice p3 (ys ++ [y2]).length c3], Wk.row 35 1 p3 (ys ++ [y2]).length c3 (encL (ys ++ [y2])), marks []] [AllBy came, GlF q2 came, BoxF h 51 [.slice q2 came.length (e - 1)]]
    refine rnext (D := D) (b := bL) S fun W hW => ⟨(ys ++ [y2], p3, c3), ⟨?_, hi⟩, hW⟩
    show bsL (ys ++ [y2]) = _
    have g1 : (bsL x.said)[i + 1]? = some (nthG came i).bs := by
      rw [List.getElem?_map, hxs, List.getElem?_cons_succ, nthG_get hi]; rfl
    rw [List.take_add_one, g1, ← hys, bsL, List.map_append, hy2]; rfl
  · clear S
    rintro D ⟨ys, p, c⟩ a w ⟨hys, -⟩ S
    replace S := S.join (Ds := [])
    refine xbn ?_
    refine xtn ?_
    refine c_seq ?_
    refine c_region ?_
    iterate 2 (refine sq S ?_; clear S; intro a S)
    refine wl_nil ?_
    refine xtn ?_
    refine c_ret ?_
    have hll := congrArg List.length hys
    simp only [List.length_map, List.length_take] at hll
    have hbs : bsL ys = bsL x.said := by
      rw [hys, List.take_of_length_le]
      simp [toldL]; omega
    replace S := S.front (entI ys)
    replace S := S.front (Wk.row 35 1 p ys.length c (encL ys))
    replace S := S.toBoth
    have hh := S.it (accI p c ys)
    have h1 := S.itNew (accI p c ys) rfl
    refine endM1 S (fun w' hw => ?_)
    exact ⟨p, c, ys, rfl, hbs, hw.held _ (by simp), fun k hk => (h1 k hk).elim (fun h => h.elim) id⟩
  · rintro D i a w ⟨⟩
  · rintro id D _ a w ⟨⟩
end Go.Proofs.Ythffheckghdelaa

/- The laws of layer 4: logs as the laws hold them: told, taken down, opened. -/
namespace Go.Proofs.Ythffheckghdelaa
open Go Go.Wk
set_option synthInstance.maxSize 100000
set_option synthInstance.maxHeartbeats 400000
set_option maxRecDepth 100000

/-- a log and its disk. -/
structure LG where
  m : Nat
  p : Option Addr
  c : Nat
  s : DS
  q : Option Addr
  e : Nat
  x : WS
abbrev lgI (b g : Nat) (L : LG) : Wk.Item := both (dkI b L.m L.p L.c L.s) (walI g b L.q L.e L.x)
/-- what a log tells. -/
structure LgSays (L : LG) (said : List (List UInt8)) : Prop where
  says : bsL L.x.said = said
  some_ : said ≠ []
  few : said.length ≤ 1000
  short : ∀ b ∈ said, b.length ≤ 40000
/-- a log that is as it should be. -/
structure LgOk (L : LG) (n : Nat) (t : Int) (said : List (List UInt8)) : Prop where
  num : L.x.n = n
  turn : L.x.turn = t
  says : bsL L.x.said = said
  fin : L.x.fin = endF t said
  broken : L.x.broken = false
  live : Live L.s n t said
theorem LgOk.tells {L : LG} {n : Nat} {t : Int} {said : List (List UInt8)} (h : LgOk L n t said) : LgSays L said := by
  obtain ⟨tail, hl, _⟩ := h.live
  have h1 := hl.few
  have h2 := hl.hn
  exact ⟨h.says, hl.some_, by omega, hl.short⟩
theorem lg_cap {b g : Nat} {L : LG} {w : World} (h : (lgI b g L).holds w) : L.x.said.length ≤ L.e := own_le h.2.1.2.1.1
theorem says_len {L : LG} {said : List (List UInt8)} (h : LgSays L said) : L.x.said.length = said.length := by rw [← h.says, List.length_map]
theorem says_by {L : LG} {said : List (List UInt8)} (h : LgSays L said) : ∀ y ∈ L.x.said, y.bs.length ≤ 40000 := fun y hy => h.short _ (by rw [← h.says]; exact List.mem_map_of_mem hy)
theorem allBy_ent {ys : List LBy} {w : World} (h : (entI ys).holds w) : Stable (fun _ => False) w (AllBy ys) := fun _w' ha y hy => gl_loc (fun ad hp => ha.blk ((h y hy).1 ad hp) (fun h => h)) (h y hy).2
theorem account_l (b g : Nat) (L : LG) (said : List (List UInt8)) (h : LgSays L said) (w0 : World) (hd : (lgI b g L).holds w0) :
    Ret Try.prog 34 [.pointer (some ⟨g, 0, none⟩)] w0 (fun _ => False) fun v w' => ∃ p c ys, v = .slice p ys.length c ∧ bsL ys = said ∧ (accI p c ys).holds w' ∧ ∀ k, (accI p c ys).foot k → w0.heap.size ≤ k := by
  have hl := says_len h
  have h0 := List.length_pos_iff.2 h.some_
  have hf := h.few
  have := account_c g b L.q L.e L.x (by omega) (lg_cap hd) (by omega) (fun y hy => by have := says_by h y hy; omega) w0 (BoxF.stable hd.2.1.1 (fun h => h)) (gl_own hd.2.1.2.1.1 (fun _ _ _ _ => trivial) (fun _ _ h => h)) (allBy_ent hd.2.1.2.1.2.1)
  rw [h.says] at this
  exact this
/-! what is taken down -/
def wantF (n : Nat) (t : Int) (said : List (List UInt8)) (ck : Bool) (bs : List UInt8) : Int := if 40000 < bs.length then 3 else if (if ck then n else n - endF t said) < secN bs.length then 6 else 0
def nextT (ck : Bool) (t : Int) : Int := if ck then t + 1 else t
def nextS (ck : Bool) (said : List (List UInt8)) (bs : List UInt8) : List (List UInt8) := if ck then [bs] else said ++ [bs]
def TakeR (L L' : LG) (n : Nat) (t : Int) (said : List (List UInt8)) (ck : Bool) (bs : List UInt8) (e : Int) : Prop :=
  (wantF n t said ck bs ≠ 0 ∧ e = wantF n t said ck bs ∧ L' = L) ∨
  (wantF n t said ck bs = 0 ∧ e = 0 ∧ L'.m = L.m ∧ LgOk L' n (nextT ck t) (nextS ck said bs) ∧ (L.s.arms.on = false → L'.s.arms.on = false)) ∨
  (wantF n t said ck bs = 0 ∧ L.s.arms.on = true ∧ e = 9 ∧ L'.m = L.m ∧ L'.s.out = true ∧ L'.s.loose.length ≤ 2000 ∧ LgSays L' said ∧ ∀ keep, Able (crashD keep L'.s) n t said ∨ Able (crashD keep L'.s) n (nextT ck t) (nextS ck said bs))
theorem append_l (b g : Nat) (L : LG) (n : Nat) (t : Int) (said : List (List UInt8)) (y : LBy) (h : LgOk L n t said) (hyl : y.bs.length ≤ 1000000) (w0 : World) (hd : (lgI b g L).holds w0) (f0 : Stable (lgI b g L).foot w0 (GlF y.p y.bs)) :
    Ret Try.prog 24 [.pointer (some ⟨g, 0, none⟩), .slice y.p y.bs.length y.c] w0 (lgI b g L).foot fun v w' => ∃ L' e, v = .int .i64 e ∧ (lgI b g L').holds w' ∧ (∀ k, (lgI b g L').foot k → (lgI b g L).foot k ∨ w0.heap.size ≤ k) ∧ TakeR L L' n t said false y.bs e := by
  obtain ⟨m, p, c, s, q, e, x⟩ := L
  have hs := h.tells
  have hsl := says_len hs
  have hs0 := List.length_pos_iff.2 hs.some_
  have hsf := hs.few
  obtain ⟨tail, hL, hfr⟩ := h.live
  have hn := hL.hn
  have hlen := hL.len
  have hcap := lg_cap hd
  have h1 : x.n = n := h.num
  have h2 : x.turn = t := h.turn
  have h3 : x.fin = endF t said := h.fin
  have h4 : x.broken = false := h.broken
  have h5 : bsL x.said = said := h.says
  have hl0 : s.loose = [] := hL.loose
  simp only [] at hsl hcap
  have href : refF x y.bs = if 40000 < y.bs.length then 3 else 0 := by rw [refF, h4]; rfl
  have hroom : roomF x y.bs = wantF n t said false y.bs := by
    rw [roomF, href, wantF]
    by_cases hq : 40000 < y.bs.length
    · rw [if_pos hq, if_pos hq, if_neg (by decide)]
    · rw [if_neg hq, if_neg hq, if_pos rfl, h1, h3]; rfl
  refine (append_c g b m p c s q e x y w0 (by omega) (by omega) ⟨by omega, hcap⟩ (by omega) (by rw [h2]; exact hL.ht) hyl (by rw [hl0]; simp) hd f0).mono fun v w' => ?_
  rintro (⟨ha, rfl, hb⟩ | ⟨ha, rfl, p', c', q', e', y', hy', he', hh, hf⟩)
  · exact ⟨⟨m, p, c, s, q, e, x⟩, _, rfl, hb, fun k hk => .inl hk, .inl ⟨by rw [← hroom]; exact ha, hroom, rfl⟩⟩
  · rw [hroom] at ha
    have hb4 : y.bs.length ≤ 40000 := by
      unfold wantF at ha
      split at ha
      · cases ha
      · omega
    have hro : endF t said + secN y.bs.length ≤ n := by
      unfold wantF at ha
      rw [if_neg (by omega), if_neg Bool.false_ne_true] at ha
      split at ha
      · cases ha
      · have := secN_pos y.bs.length
        omega
    have hal := append_live ⟨tail, hL, hfr⟩ y.bs hb4 hro
    have hlo := layF_loose s ((fromN n t + endF t said : Nat) : Int) (leavesF t (said.length : Nat) y.bs)
    rw [leavesF_len] at hlo
    have hse := secN_le _ hb4
    rw [h1, h2, h3, hsl] at hh hf ⊢
    obtain ⟨R, hR⟩ : ∃ R, R = layF s ((fromN n t + endF t said : Nat) : Int) (leavesF t (said.length : Nat) y.bs) := ⟨_, rfl⟩
    rw [← hR] at hal hh hf hlo ⊢
    rw [hl0] at hlo
    refine ⟨⟨m, p', c', R.1, q', e', appS x y' R.2⟩, R.2, rfl, hh, hf, ?_⟩
    rcases hal with ⟨a1, a2, a3⟩ | ⟨a0, a1, a2, a3⟩
    · refine .inr (.inl ⟨ha, a1, rfl, ⟨?_, ?_, ?_, ?_, ?_, a2⟩, a3⟩)
      · show (appS x y' R.2).n = n; rw [appS, if_pos a1]; exact h1
      · show (appS x y' R.2).turn = t; rw [appS, if_pos a1]; exact h2
      · show bsL (appS x y' R.2).said = said ++ [y.bs]; rw [appS, if_pos a1, ← hy', ← h5, bsL, List.map_append]; rfl
      · show (appS x y' R.2).fin = endF t (said ++ [y.bs])
        rw [appS, if_pos a1, endF, laidF_snoc, List.length_append, leavesF_len, hy']
        show x.fin + _ = _
        rw [h3]; rfl
      · show (appS x y' R.2).broken = false; rw [appS, if_pos a1]; exact h4
    · refine .inr (.inr ⟨ha, a0, a1, rfl, a2, by simp only [List.length_nil] at hlo; show R.1.loose.length ≤ 2000; omega, ⟨?_, hs.some_, hs.few, hs.short⟩, a3⟩)
      show bsL (appS x y' R.2).said = said; rw [appS, if_neg (by rw [a1]; decide)]; exact h5
theorem begF_loose (n : Nat) (t : Int) (bs : List UInt8) (hb : bs.length ≤ 40000) (s : DS) : (begF n t bs s).1.loose.length ≤ s.loose.length + 840 := by
  have h1 := layF_loose s (fromN n t : Nat) (leavesF t 0 bs)
  have h2 := layF_loose (layF s (fromN n t : Nat) (leavesF t 0 bs)).1 ((t % 2).toNat : Nat) [titleF t n]
  have h3 := secN_le _ hb
  rw [leavesF_len] at h1
  simp only [List.length_singleton] at h2
  have e : begF n t bs s = if (layF s (fromN n t : Nat) (leavesF t 0 bs)).2 = 0 then layF (layF s (fromN n t : Nat) (leavesF t 0 bs)).1 ((t % 2).toNat : Nat) [titleF t n] else layF s (fromN n t : Nat) (leavesF t 0 bs) := rfl
  rw [e]
  split <;> omega
theorem chk_l (b g : Nat) (L : LG) (n : Nat) (t : Int) (said : List (List UInt8)) (y : LBy) (h : LgOk L n t said) (ht1 : t + 1 ≤ 4294967295) (hyl : y.bs.length ≤ 1000000) (w0 : World) (hd : (lgI b g L).holds w0) (f0 : Stable (lgI b g L).foot w0 (GlF y.p y.bs)) :
    Ret Try.prog 25 [.pointer (some ⟨g, 0, none⟩), .slice y.p y.bs.length y.c] w0 (lgI b g L).foot fun v w' => ∃ L' e, v = .int .i64 e ∧ (lgI b g L').holds w' ∧ (∀ k, (lgI b g L').foot k → (lgI b g L).foot k ∨ w0.heap.size ≤ k) ∧ TakeR L L' n t said true y.bs e := by
  obtain ⟨m, p, c, s, q, e, x⟩ := L
  have hs := h.tells
  obtain ⟨tail, hL, hfr⟩ := h.live
  have hn := hL.hn
  have htt := hL.ht
  have h1 : x.n = n := h.num
  have h2 : x.turn = t := h.turn
  have h4 : x.broken = false := h.broken
  have h5 : bsL x.said = said := h.says
  have hl0 : s.loose = [] := hL.loose
  have hup : upT x.turn = t + 1 := by rw [h2, upT, wu32 _ (by omega) ht1]
  have href : refF x y.bs = if 40000 < y.bs.length then 3 else 0 := by rw [refF, h4]; rfl
  have hroom : roomC x y.bs = wantF n t said true y.bs := by
    rw [roomC, href, wantF]
    by_cases hq : 40000 < y.bs.length
    · rw [if_pos hq, if_pos hq, if_neg (by decide)]
    · rw [if_neg hq, if_neg hq, if_pos rfl, h1, hup, if_pos rfl]
      by_cases hz : n < secN y.bs.length
      · rw [if_pos (.inl hz), if_pos hz]
      · rw [if_neg (by omega), if_neg hz]
  refine (chk_c g b m p c s q e x y w0 (by omega) (by rw [h2]; exact hL.ht) hyl (by rw [hl0]; simp) hd f0).mono fun v w' => ?_
  rintro (⟨ha, rfl, hb⟩ | ⟨ha, rfl, p', c', q', e', y', hy', -, -, hh, hf⟩)
  · exact ⟨⟨m, p, c, s, q, e, x⟩, _, rfl, hb, fun k hk => .inl hk, .inl ⟨by rw [← hroom]; exact ha, hroom, rfl⟩⟩
  · rw [hroom] at ha
    have hb4 : y.bs.length ≤ 40000 := by
      unfold wantF at ha
      split at ha
      · cases ha
      · omega
    have hro : secN y.bs.length ≤ n := by
      unfold wantF at ha
      rw [if_neg (by omega), if_pos rfl] at ha
      split at ha
      · cases ha
      · omega
    have hal := chk_live ⟨tail, hL, hfr⟩ y.bs hb4 hro ht1
    have hlo := begF_loose n (t + 1) y.bs hb4 s
    rw [h1, hup] at hh hf ⊢
    obtain ⟨R, hR⟩ : ∃ R, R = begF n (t + 1) y.bs s := ⟨_, rfl⟩
    rw [← hR] at hal hh hf hlo ⊢
    rw [hl0] at hlo
    refine ⟨⟨m, p', c', R.1, q', e', chkS x y' R.2⟩, R.2, rfl, hh, hf, ?_⟩
    rcases hal with ⟨a1, a2, a3⟩ | ⟨a0, a1, a2, a3⟩
    · refine .inr (.inl ⟨ha, a1, rfl, ⟨?_, ?_, ?_, ?_, ?_, a2⟩, a3⟩)
      · show (chkS x y' R.2).n = n; rw [chkS, if_pos a1]; exact h1
      · show (chkS x y' R.2).turn = t + 1; rw [chkS, if_pos a1]; exact hup
      · show bsL (chkS x y' R.2).said = [y.bs]; rw [chkS, if_pos a1, ← hy']; rfl
      · show (chkS x y' R.2).fin = endF (t + 1) [y.bs]
        rw [chkS, if_pos a1, endF, laidF, laidF, List.append_nil, leavesF_len, ← hy']
      · show (chkS x y' R.2).broken = false; rw [chkS, if_pos a1]; exact h4
    · refine .inr (.inr ⟨ha, a0, a1, rfl, a2, by simp only [List.length_nil] at hlo; show R.1.loose.length ≤ 2000; omega, ⟨?_, hs.some_, hs.few, hs.short⟩, a3⟩)
      show bsL (chkS x y' R.2).said = said; rw [chkS, if_neg (by rw [a1]; decide)]; exact h5
/-! openings -/
theorem clrW_loose (fr : Nat) : ∀ (xs : List Blk) (i : Nat) (sy : Bool) (s : DS), (clrW fr xs i sy s).1.loose.length ≤ s.loose.length + xs.length
  | [], _, _, _ => Nat.le_refl _
  | x :: xs, i, sy, s => by
    rw [clrW, List.length_cons]
    split
    · have := clrW_loose fr xs (i + 1) sy s; omega
    · split
      · have h1 := clrW_loose fr xs (i + 1) true (wrD s ((fr + i : Nat) : Int) zB)
        have h2 := wrD_loose s ((fr + i : Nat) : Int) zB
        omega
      · have h2 := wrD_loose s ((fr + i : Nat) : Int) zB
        show (wrD s ((fr + i : Nat) : Int) zB).loose.length ≤ _; omega
theorem fieldW_same (fr : Nat) : ∀ (k i : Nat) (s : DS), (fieldW fr k i s).1.loose = s.loose ∧ (fieldW fr k i s).2.2.length ≤ k
  | 0, _, _ => ⟨rfl, Nat.le_refl _⟩
  | k + 1, i, s => by
    rw [fieldW]
    split
    · obtain ⟨h1, h2⟩ := fieldW_same fr k (i + 1) (rdD s ((fr + i : Nat) : Int))
      exact ⟨h1.trans (rdD_loose _ _), by simp only [List.length_cons]; omega⟩
    · exact ⟨rdD_loose _ _, Nat.zero_le _⟩
theorem clrF_loose (fr fin : Nat) (f : List Blk) (s : DS) : (clrF fr fin f s).1.loose.length ≤ s.loose.length + f.length := by
  have a1 := clrW_loose fr (f.drop fin) fin (decide (0 < s.loose.length)) s
  rw [List.length_drop] at a1
  have a2 := syD_loose (clrW fr (f.drop fin) fin (decide (0 < s.loose.length)) s).1
  rw [clrF, clrR]
  split
  · split
    · show (syD _).loose.length ≤ _; omega
    · show (clrW _ _ _ _ _).1.loose.length ≤ _; omega
  · show (clrW _ _ _ _ _).1.loose.length ≤ _; omega
theorem openC_loose (n : Nat) (t : Int) (f : List Blk) (s : DS) : (openC n t f s).1.loose.length ≤ s.loose.length + f.length := by
  have h := clrF_loose (fromN n t) (readF t f f.length 0 0).2 f s
  rw [openC]
  split
  · show s.loose.length ≤ _; omega
  · split
    · exact h
    · exact h
theorem openF_loose (s : DS) : (openF s).1.loose.length ≤ s.loose.length + 1000 := by
  obtain ⟨h1, h2⟩ := cntF_ok s
  rw [openF]
  split
  · rename_i h0
    have hn := (h2 h0).2.1
    obtain ⟨g1, g2⟩ := fieldW_same (fromN (cntF s).2.2.n.toNat (cntF s).2.2.t) (cntF s).2.2.n.toNat 0 (cntF s).1
    rw [openB]
    split
    · have := openC_loose (cntF s).2.2.n.toNat (cntF s).2.2.t (fieldW (fromN (cntF s).2.2.n.toNat (cntF s).2.2.t) (cntF s).2.2.n.toNat 0 (cntF s).1).2.2 (fieldW (fromN (cntF s).2.2.n.toNat (cntF s).2.2.t) (cntF s).2.2.n.toNat 0 (cntF s).1).1
      rw [g1, h1] at this
      omega
    · show (fieldW _ _ _ _).1.loose.length ≤ _
      rw [g1, h1]; omega
  · show (cntF s).1.loose.length ≤ _
    rw [h1]; omega
theorem open_l (b m : Nat) (p : Option Addr) (c : Nat) (s : DS) (n : Nat) (t : Int) (said : List (List UInt8)) (h : Able s n t said) (w0 : World) (hd : (dkI b m p c s).holds w0) :
    Ret Try.prog 22 [.pointer (some ⟨b, 0, none⟩)] w0 (dkI b m p c s).foot fun v w' =>
      (∃ g L, v = .tuple ⟨[.pointer (some ⟨g, 0, none⟩), .int .i64 0]⟩ ∧ L.m = m ∧ (lgI b g L).holds w' ∧ (∀ k, (lgI b g L).foot k → (dkI b m p c s).foot k ∨ w0.heap.size ≤ k) ∧ LgOk L n t said ∧ Clean L.s n t said ∧ (s.arms.on = false → L.s.arms.on = false) ∧ (Clean s n t said → L.s.arms = s.arms)) ∨
      (s.arms.on = true ∧ ¬ Clean s n t said ∧ ∃ p' c' s', v = .tuple ⟨[.pointer none, .int .i64 9]⟩ ∧ (dkI b m p' c' s').holds w' ∧ (∀ k, (dkI b m p' c' s').foot k → (dkI b m p c s).foot k ∨ w0.heap.size ≤ k) ∧ s'.out = true ∧ s'.loose.length ≤ 1000 ∧ ∀ keep, Able (crashD keep s') n t said) := by
  have hl0 : s.loose = [] := by obtain ⟨tail, hL, _⟩ := h; exact hL.loose
  have ho := open_able h
  have hlo := openF_loose s
  rw [hl0] at hlo
  refine (open_c b m p c s w0 (by rw [hl0]; simp) hd).mono fun v w' => ?_
  rintro (⟨ha, rfl, p', c', hh, hf⟩ | ⟨ha, g, p', c', q, e, x, rfl, ⟨x1, x2, x3, x4, x5⟩, hh, hf⟩)
  · rcases ho with ⟨a1, _⟩ | ⟨a0, a1, a2, a3⟩
    · exact absurd a1 ha
    · refine .inr ⟨a0, fun hc => ?_, p', c', (openF s).1, by rw [a1], hh, hf, a2, by simpa using hlo, a3⟩
      have := (open_clean hc).1
      exact ha this
  · rcases ho with ⟨a1, a2, a3, a4⟩ | ⟨a0, a1, _⟩
    · refine .inl ⟨g, ⟨m, p', c', (openF s).1, q, e, x⟩, rfl, rfl, hh, hf, ⟨by show x.n = n; rw [x1, a3], by show x.turn = t; rw [x2, a3], by show bsL x.said = said; rw [bsL, x3, a3], by show x.fin = endF t said; rw [x4, a3], x5, a2.live⟩, a2, a4, fun hc => (open_clean hc).2.2.2⟩
    · rw [ha] at a1; cases a1
end Go.Proofs.Ythffheckghdelaa

/- The laws of layer 4: what takes something down, what is told behind it. -/
namespace Go.Proofs.Ythffheckghdelaa
open Go Go.Wk
set_option synthInstance.maxSize 100000
set_option synthInstance.maxHeartbeats 400000
set_option maxRecDepth 100000

def ckF (x : LAct) : Bool := decide (kindF x.kind = 3)
theorem rowEnt_gl {w : World} {M : Nat → Prop} {y : LBy} (h : (entI [y]).holds w) (hM : ∀ k, (entI [y]).foot k → ¬ M k) : Stable M w (GlF y.p y.bs) := fun w' ha =>
  gl_loc (fun ad hp => ha.blk ((h y (by simp)).1 ad hp) (hM _ ⟨y, by simp, ad, hp, rfl⟩)) (h y (by simp)).2
theorem bytes_l (x : LAct) (w0 : World) : Ret Try.prog 15 [.agg ⟨cAct x⟩] w0 (fun _ => False) fun v w' => ∃ y : LBy, v = .slice y.p y.bs.length y.c ∧ y.bs = bytesF x ∧ (entI [y]).holds w' ∧ ∀ k, (entI [y]).foot k → w0.heap.size ≤ k := by
  refine (bytes_c x w0).mono fun v w' => ?_
  rintro ⟨g, rfl, hg, hown⟩
  refine ⟨⟨some ⟨g, 0, none⟩, sizeF x.n, bytesF x⟩, by rw [bytesF_len], rfl, ?_, fun k ⟨u, hu, ad, hp, hk⟩ => ?_⟩
  · refine ent_row (y := ⟨some ⟨g, 0, none⟩, sizeF x.n, bytesF x⟩) (e := 5) ?_
    show w'.ownsRow 0 5 1 (.slice (some ⟨g, 0, none⟩) (bytesF x).length (sizeF x.n)) (bytesF x).length (encL (bytesF x))
    rw [bytesF_len]; exact hown
  · obtain rfl := List.mem_singleton.1 hu
    obtain rfl := Option.some.inj hp
    exact hk ▸ hg
theorem bytesF_le (x : LAct) : (bytesF x).length ≤ 40001 := by rw [bytesF_len]; exact sizeF_le _
theorem take_l (b g : Nat) (L : LG) (n : Nat) (t : Int) (said : List (List UInt8)) (x : LAct) (h : LgOk L n t said) (ht1 : t + 1 ≤ 4294967295) (w0 : World) (hd : (lgI b g L).holds w0) :
    Ret Try.prog 17 [.pointer (some ⟨g, 0, none⟩), .agg ⟨cAct x⟩] w0 (lgI b g L).foot fun v w' => ∃ L' e, v = .int .i64 e ∧ (lgI b g L').holds w' ∧ (∀ k, (lgI b g L').foot k → (lgI b g L).foot k ∨ w0.heap.size ≤ k) ∧ TakeR L L' n t said (ckF x) (bytesF x) e := by
  have hbl := bytesF_le x
  refine enter Try.func17 rfl rfl (Wd.itLent (x := lgI b g L) (fs := []) hd (by simp)) (fun a S => ?_)
  simp only [Try.ntmps17, List.length_cons, List.length_nil, Nat.reduceAdd, Nat.reduceSub, List.replicate_succ, List.replicate_zero, List.cons_append, List.nil_append] at S
  refine c_seq ?_
  refine c_region ?_
  refine sa S ?_; clear S; intro b3 a w S
  refine sq S ?_; clear S; intro a S
  refine wl_nil ?_
  refine xtn ?_
  iterate 2 (refine c_seq ?_)
  refine c_region ?_
  refine sq S ?_; clear S; intro a S
  refine sr S (kind_c x _) ?_; clear S; rintro _ a w rfl S
  refine sq S ?_; clear S; intro a S
  refine wl_nil ?_
  refine xtn ?_
  refine c_cond S (fun h1 => ?_) (fun h1 => ?_)
  · refine c_seq ?_
    refine c_region ?_
    iterate 2 (refine sq S ?_; clear S; intro a S)
    have hck : ckF x = true := h1
    refine snew S (bytes_l x _) ?_; clear S; rintro _ a w - ⟨y, rfl, hy, hh, hn⟩ hS -
    have S := hS (entI [y]) hh hn
    clear hS
    refine sit (lgI b g L) S (chk_l b g L n t said y h ht1 (by rw [hy]; omega) _ (S.it (lgI b g L)) (rowEnt_gl (S.it (entI [y])) (fun k hk hk2 => St.apart2 S (entI [y]) (lgI b g L) k hk hk2))) rfl ?_; clear S; rintro _ a w ⟨L', e, rfl, hh2, hn2, hR⟩ hS
    have S := hS (lgI b g L') hh2 hn2
    clear hS
    refine sq S ?_; clear S; intro a S
    refine wl_nil ?_
    refine xtn ?_
    refine c_ret ?_
    refine xtr ?_
    have h3 := S.itNew (lgI b g L') rfl
    have h2 := S.it (lgI b g L')
    refine end1 S (fun _ => ?_)
    rw [hck, ← hy]
    exact ⟨L', e, rfl, h2, h3, hR⟩
  · refine c_skip ?_
    refine xtn ?_
    refine c_seq ?_
    refine c_region ?_
    iterate 2 (refine sq S ?_; clear S; intro a S)
    have hck : ckF x = false := h1
    refine snew S (bytes_l x _) ?_; clear S; rintro _ a w - ⟨y, rfl, hy, hh, hn⟩ hS -
    have S := hS (entI [y]) hh hn
    clear hS
    refine sit (lgI b g L) S (append_l b g L n t said y h (by rw [hy]; omega) _ (S.it (lgI b g L)) (rowEnt_gl (S.it (entI [y])) (fun k hk hk2 => St.apart2 S (entI [y]) (lgI b g L) k hk hk2))) rfl ?_; clear S; rintro _ a w ⟨L', e, rfl, hh2, hn2, hR⟩ hS
    have S := hS (lgI b g L') hh2 hn2
    clear hS
    refine sq S ?_; clear S; intro a S
    refine wl_nil ?_
    refine xtn ?_
    refine c_ret ?_
    have h3 := S.itNew (lgI b g L') rfl
    have h2 := S.it (lgI b g L')
    refine end1 S (fun _ => ?_)
    rw [hck, ← hy]
    exact ⟨L', e, rfl, h2, h3, hR⟩
/-- a row that is somewhere is not none. -/
instance opSlcNil {P : Program} {l : Cx} {bs : List Wk.Item} {fs : List (World → Prop)} {x y : Operand} {t t' ty e : TypeId} {ad : Addr} {n c : Nat} [Ev l x (.slice (some ad) n c)] [Ev l y (.slice none 0 0)] [Und P t (.slice e)] : OpQ P (.binOp .eql t x y t') ty l bs fs (.bool false) := ⟨fun ρ w h _ => by
  simp [xop, execOp, h.ev (x := x) (v := .slice (some ad) n c), h.ev (x := y) (v := .slice none 0 0), eqGuard, binOp, run_equal (P := P) (t := t) (u := .slice (some ad) n c) (v := .slice none 0 0) (d := .slice e) (b := false) w rfl]⟩
theorem clone_l (p : Option Addr) (c : Nat) (ys : List LBy) (h0 : 0 < ys.length) (hl : ys.length ≤ 1000000) (w0 : World) (hp : p ≠ none) (f1 : Stable (fun _ => False) w0 (GlF p ys)) (f2 : Stable (fun _ => False) w0 (AllBy ys)) :
    Ret Try.prog 57 [.slice p ys.length c] w0 (fun _ => False) fun v w' => ∃ p' c', v = .slice p' ys.length c' ∧ w'.ownsRow 0 35 1 (.slice p' ys.length c') ys.length (encL ys) ∧ ∀ ad, p' = some ad → w0.heap.size ≤ ad.block := by
  obtain ⟨ad, rfl⟩ : ∃ ad, p = some ad := by cases p with | none => exact absurd rfl hp | some ad => exact ⟨ad, rfl⟩
  refine enter Try.func57 rfl rfl (Wd.begin (fs := [GlF (some ad) ys, AllBy ys]) (by simp; exact ⟨f1, f2⟩)) (fun a S => ?_)
  simp only [Try.ntmps57, List.length_cons, List.length_nil, Nat.reduceAdd, Nat.reduceSub, List.replicate_succ, List.replicate_zero, List.cons_append, List.nil_append] at S
  refine c_seq ?_
  refine c_region ?_
  refine sq S ?_; clear S; intro a S
  refine wl_nil ?_
  refine xtn ?_
  iterate 2 (refine c_seq ?_)
  refine c_region ?_
  iterate 2 (refine sq S ?_; clear S; intro a S)
  refine wl_nil ?_
  refine xtn ?_
  refine c_condF S ?_
  refine c_skip ?_
  refine xtn ?_
  refine c_seq ?_
  refine c_region ?_
  refine sn S ?_; clear S; intro b5 a w S
  replace S := S.boxRow b5 1 0 rfl (by decide)
  refine sq S ?_; clear S; intro a S
  refine sap S (by simp only [maxLen]; omega) (by omega) ?_; clear S; rintro p7 c7 a w - S
  rw [List.nil_append, Nat.zero_add] at S
  refine sq S ?_; clear S; intro a S
  refine wl_nil ?_
  refine xtn ?_
  refine c_ret ?_
  have hrow := S.row p7 ys.length
  have hnew := S.rowNew p7 ys.length
  refine end1 S (fun _ => ⟨p7, c7, rfl, hrow, fun ad h => (hnew ad h).elim (fun h => h.elim) id⟩)
theorem acc_facts {w : World} {p : Option Addr} {c n0 : Nat} {ys : List LBy} (h : (accI p c ys).holds w) (hn : ∀ k, (accI p c ys).foot k → n0 ≤ k) (h0 : 0 < ys.length) : p ≠ none ∧ Stable (fun k => k < n0) w (GlF p ys) ∧ Stable (fun k => k < n0) w (AllBy ys) := by
  refine ⟨fun e => ?_, gl_own h.1 (fun _ _ _ _ => trivial) (fun ad hp hm => ?_), fun w' ha y hy => gl_loc (fun ad hp => ha.blk ((h.2.1 y hy).1 ad hp) (fun hm => ?_)) (h.2.1 y hy).2⟩
  · obtain ⟨g, _, hp, _⟩ := own_cells h.1 h0
    rw [e] at hp; cases hp
  · have := hn ad.block (.inl ⟨ad, hp, rfl⟩); omega
  · have := hn ad.block (.inr ⟨y, hy, ad, hp, rfl⟩); omega
/-- an account, to be read from here on. -/
theorem account_f (b g : Nat) (L : LG) (said : List (List UInt8)) (h : LgSays L said) (w0 : World) (hd : (lgI b g L).holds w0) :
    Ret Try.prog 34 [.pointer (some ⟨g, 0, none⟩)] w0 (fun _ => False) fun v w' => ∃ p c ys, v = .slice p ys.length c ∧ bsL ys = said ∧ p ≠ none ∧ Stable (fun k => k < w0.heap.size) w' (GlF p ys) ∧ Stable (fun k => k < w0.heap.size) w' (AllBy ys) := by
  refine (account_l b g L said h w0 hd).mono fun v w' => ?_
  rintro ⟨p, c, ys, rfl, hb, hh, hn⟩
  have h0 : 0 < ys.length := by
    have := List.length_pos_iff.2 h.some_
    rw [← hb, List.length_map] at this; exact this
  exact ⟨p, c, ys, rfl, hb, acc_facts hh hn h0⟩
theorem behind_c (p : Option Addr) (c : Nat) (ys : List LBy) (x : LAct) (h0 : 0 < ys.length) (hl : ys.length ≤ 999000) (hp : p ≠ none) (w0 : World) (M : Nat → Prop) (hM : ∀ k, M k → k < w0.heap.size) (f1 : Stable M w0 (GlF p ys)) (f2 : Stable M w0 (AllBy ys)) :
    Ret Try.prog 32 [.slice p ys.length c, .agg ⟨cAct x⟩] w0 (fun _ => False) fun v w' => ∃ p' c' zs, v = .slice p' zs.length c' ∧ bsL zs = nextS (ckF x) (bsL ys) (bytesF x) ∧ p' ≠ none ∧ Stable M w' (GlF p' zs) ∧ Stable M w' (AllBy zs) := by
  refine enter Try.func32 rfl rfl (Wd.beginM (M := M) (fs := [GlF p ys, AllBy ys]) hM (by simp; exact ⟨f1, f2⟩)) (fun a S => ?_)
  simp only [Try.ntmps32, List.length_cons, List.length_nil, Nat.reduceAdd, Nat.reduceSub, List.replicate_succ, List.replicate_zero, List.cons_append, List.nil_append] at S
  refine c_seq ?_
  refine c_region ?_
  refine sa S ?_; clear S; intro b3 a w S
  refine sq S ?_; clear S; intro a S
  refine wl_nil ?_
  refine xtn ?_
  iterate 2 (refine c_seq ?_)
  refine c_region ?_
  refine sq S ?_; clear S; intro a S
  refine sr S (kind_c x _) ?_; clear S; rintro _ a w rfl S
  refine sq S ?_; clear S; intro a S
  refine wl_nil ?_
  refine xtn ?_
  refine c_cond S (fun h1 => ?_) (fun h1 => ?_)
  · refine c_seq ?_
    refine c_region ?_
    refine sq S ?_; clear S; intro a S
    have hck : ckF x = true := h1
    refine snew S (bytes_l x _) ?_; clear S; rintro _ a w - ⟨y, rfl, hy, hh, hn⟩ hS -
    have S := hS (entI [y]) hh hn
    clear hS
    refine sn S ?_; clear S; intro b10 a w S
    refine sq S ?_; clear S; intro a S
    refine wl_nil ?_
    refine xtn ?_
    refine c_ret ?_
    refine xtr ?_
    replace S := S.boxRow b10 1 1 rfl (by decide)
    have hgl : Stable M w (GlF (some ⟨b10, 0, none⟩) [y]) := gl_own (S.row (some ⟨b10, 0, none⟩) 1) (fun _ _ _ _ => trivial) (fun ad hp hm => St.apart2 S (Wk.row 35 1 (some ⟨b10, 0, none⟩) 1 1 [.slice y.p y.bs.length y.c]) (ext M) ad.block ⟨ad, hp, rfl⟩ hm)
    have hal : Stable M w (AllBy [y]) := fun w' ha z hz => by
      obtain rfl := List.mem_singleton.1 hz
      exact rowEnt_gl (S.it (entI [z])) (fun k hk hk2 => St.apart2 S (entI [z]) (ext M) k hk hk2) w' ha
    refine end1 S (fun _ => ⟨some ⟨b10, 0, none⟩, 1, [y], rfl, ?_, fun h => by (cases h), hgl, hal⟩)
    rw [hck, nextS, if_pos rfl, ← hy]; rfl
  · refine c_skip ?_
    refine xtn ?_
    refine c_seq ?_
    refine c_drawD [(0, true), (2, true), (1, false), (3, false), (4, false), (5, false), (6, true)] [] S ?_; clear S; intro w S
    iterate 2 (refine dq S ?_; clear S; intro a S)
    refine dl ?_
    have hck : ckF x = false := h1
    refine srn S (clone_l p c ys h0 (by omega) _ hp ((S.mem.fact (GlF p ys)).less fun _ _ h => h.elim) ((S.mem.fact (AllBy ys)).less fun _ _ h => h.elim)) ?_; clear S; rintro _ a w ⟨p1, c1, rfl, hown, hg⟩ hS -
    have S := hS hown hg
    clear hS
    refine de S ?_
    refine dl ?_
    refine snew S (bytes_l x _) ?_; clear S; rintro _ a w - ⟨y, rfl, hy, hh, hn⟩ hS -
    have S := hS (entI [y]) hh hn
    clear hS
    refine de S ?_
    refine dl ?_
    refine sn S ?_; clear S; intro b15 a w S
    refine de S ?_
    refine dl ?_
    have hyl := bytesF_le x
    refine sap S (by simp only [maxLen]; omega) (by omega) ?_; clear S; rintro p5 c5 a w - S
    rw [show encL ys ++ [.slice y.p y.bs.length y.c] = encL (ys ++ [y]) from by rw [encL_append]; rfl, show ys.length + 1 = (ys ++ [y]).length from by simp] at S
    refine de S ?_
    refine dq S ?_; clear S; intro a S
    refine dn ?_
    refine xtn ?_
    refine c_ret ?_
    have hgl : Stable M w (GlF p5 (ys ++ [y])) := gl_own (S.row p5 (ys ++ [y]).length) (fun _ _ _ _ => trivial) (fun ad hp hm => St.apart2 S (Wk.row 35 1 p5 (ys ++ [y]).length c5 (encL (ys ++ [y]))) (ext M) ad.block ⟨ad, hp, rfl⟩ hm)
    have hys : Stable M w (AllBy ys) := (S.mem.fact (AllBy ys)).less fun k _ hk => ⟨ext M, by simp, hk⟩
    have hal : Stable M w (AllBy (ys ++ [y])) := fun w' ha z hz => by
      rcases List.mem_append.1 hz with hz | hz
      · exact hys w' ha z hz
      · obtain rfl := List.mem_singleton.1 hz
        exact rowEnt_gl (S.it (entI [z])) (fun k hk hk2 => St.apart2 S (entI [z]) (ext M) k hk hk2) w' ha
    obtain ⟨gq, _, hq, _⟩ := own_cells (S.row p5 (ys ++ [y]).length) (by simp)
    refine end1 S (fun _ => ⟨p5, c5, ys ++ [y], rfl, ?_, by rw [hq]; simp, hgl, hal⟩)
    rw [hck, nextS, if_neg Bool.false_ne_true, ← hy, bsL, List.map_append]; rfl
end Go.Proofs.Ythffheckghdelaa

/- The laws of layer 4: what was lived through. -/
namespace Go.Proofs.Ythffheckghdelaa
open Go Go.Wk
set_option synthInstance.maxSize 100000
set_option synthInstance.maxHeartbeats 400000
set_option maxRecDepth 100000

instance encAct : Enc LAct := ⟨4, cAct, fun _ => rfl, fun x u hu => by simp only [List.mem_cons, List.not_mem_nil, or_false] at hu; rcases hu with rfl | rfl | rfl | rfl <;> rfl⟩
instance layAct : Lay LAct := { encAct with
  dflt := ⟨0, 0, 0, none, 0, []⟩
  inn := fun w x => x.keep.length ≤ x.c ∧ x.c ≤ maxLen ∧ GlF x.p x.keep w
  mono := fun _w _w' _x h hx => ⟨hx.1, hx.2.1, hx.2.2.mono h⟩ }
instance : SzE LAct 4 := ⟨rfl, by decide⟩
instance {x : LAct} : CellsOf x [.int .i64 x.kind, .int .i64 x.n, .int .u8 (x.fill.toNat : Int), .slice x.p x.keep.length x.c] := ⟨rfl⟩
theorem wantF_off {L L' : LG} {n : Nat} {t : Int} {said : List (List UInt8)} {ck : Bool} {bs : List UInt8} {e : Int} (h : TakeR L L' n t said ck bs e) (ha : L.s.arms.on = false) (_hL : LgOk L n t said) :
    (e ≠ 0 ∧ e = wantF n t said ck bs ∧ L' = L) ∨ (e = 0 ∧ wantF n t said ck bs = 0 ∧ L'.m = L.m ∧ LgOk L' n (nextT ck t) (nextS ck said bs) ∧ L'.s.arms.on = false) := by
  rcases h with ⟨h1, h2, h3⟩ | ⟨h1, h2, h3, h4, h5⟩ | ⟨_, h1, _⟩
  · exact .inl ⟨by rw [h2]; exact h1, h2, h3⟩
  · exact .inr ⟨h2, h1, h3, h4, h5 ha⟩
  · rw [ha] at h1; cases h1
theorem takingF_kind (x : LAct) : ckF (takingF x) = decide (kindF x.kind % 4 = 3) := by
  unfold ckF takingF
  have := kindF_lt x.kind
  have e : kindF (kindF x.kind % 4) = kindF x.kind % 4 := by
    generalize kindF x.kind = k at *
    unfold kindF
    rw [wu64 _ (by omega) (by omega)]; omega
  simp only [e]
theorem St.lendM {w0 : World} {M0 : Nat → Prop} {ds : List Deferred} {a : Act} {w : World} {l : List Value} {bs : List Wk.Item} {fs : List (World → Prop)} (_ : St w0 M0 ds a w l bs fs) (x : Wk.Item) (Mr : Nat → Prop) [h1 : HasIt bs x] [h2 : HasIt bs (ext Mr)] {Φ : World → Prop} (h : Stable (foots bs) w Φ) : Stable (fun k => x.foot k ∨ Mr k) w Φ :=
  h.less fun _ _ hk => hk.elim (fun h => ⟨x, h1.mem, h⟩) (fun h => ⟨ext Mr, h2.mem, h⟩)
theorem lived_c (b g : Nat) (L : LG) (n : Nat) (t : Int) (said : List (List UInt8)) (pl : Option Addr) (cl : Nat) (acts : List LAct) (h : LgOk L n t said) (ha : L.s.arms.on = false) (ht1 : t ≤ 1000) (_hal : acts.length ≤ maxLen) (Mr : Nat → Prop) (w0 : World) (hMr : ∀ k, Mr k → k < w0.heap.size ∧ ¬ (lgI b g L).foot k) (hd : (lgI b g L).holds w0) (f0 : Stable (fun k => (lgI b g L).foot k ∨ Mr k) w0 (GlF pl acts)) :
    Ret Try.prog 29 [.pointer (some ⟨g, 0, none⟩), .slice pl acts.length cl] w0 (lgI b g L).foot fun v w' => ∃ L' t' p c ys, v = .tuple ⟨[.slice p ys.length c, .bool true]⟩ ∧ L'.m = L.m ∧ LgOk L' n t' (bsL ys) ∧ L'.s.arms.on = false ∧ t' ≤ t + 14 ∧ p ≠ none ∧ (lgI b g L').holds w' ∧ (∀ k, (lgI b g L').foot k → (lgI b g L).foot k ∨ w0.heap.size ≤ k) ∧ Stable (fun k => (lgI b g L').foot k ∨ Mr k) w' (GlF p ys) ∧ Stable (fun k => (lgI b g L').foot k ∨ Mr k) w' (AllBy ys) := by
  refine enter Try.func29 rfl rfl (Wd.itLentM (x := lgI b g L) (fs := [GlF pl acts]) hd hMr (by intro Φ hΦ; obtain rfl := List.mem_singleton.1 hΦ; exact f0)) (fun a S => ?_)
  simp only [Try.ntmps29, List.length_cons, List.length_nil, Nat.reduceAdd, Nat.reduceSub, List.replicate_succ, List.replicate_zero, List.cons_append, List.nil_append] at S
  refine c_seq ?_
  refine c_region ?_
  iterate 2 (refine sq S ?_; clear S; intro a S)
  refine wl_nil ?_
  refine xtn ?_
  refine c_seq ?_
  refine c_region ?_
  refine sq S ?_; clear S; intro a S
  have hlt := foots_lt S
  refine sr S (account_f b g L said h.tells _ (S.it (lgI b g L))) ?_; clear S; rintro _ a w ⟨p0, c0, ys0, rfl, hb0, hp0, g1, g2⟩ S
  replace S := S.add (Φ := GlF p0 ys0) (g1.less fun k _ hk => hlt k hk)
  replace S := S.add (Φ := AllBy ys0) (g2.less fun k _ hk => hlt k hk)
  refine sq S ?_; clear S; intro a S
  refine wl_nil ?_
  refine xtn ?_
  iterate 2 (refine c_seq ?_)
  refine c_region ?_
  iterate 3 (refine sq S ?_; clear S; intro a S)
  refine wl_nil ?_
  refine xtn ?_
  refine c_block ?_
  refine c_fore6 S (fun (i : Nat) (L1 : LG) (t1 : Int) (p : Option Addr) (c : Nat) (ys : List LBy) uu => [(4, uu 4), (0, uu 5), (0, .slice p ys.length c), (0, uu 7), (0, uu 8), (4, .int .i64 (i : Nat)), (0, uu 14), (0, uu 15), (0, uu 16), (0, uu 17), (0, uu 18), (0, uu 19), (0, uu 20), (0, uu 21), (0, uu 22), (0, uu 23), (0, uu 24), (0, uu 25), (0, uu 26), (0, uu 27), (0, uu 28), (0, uu 29), (0, uu 30), (0, uu 31), (0, uu 32), (0, uu 33), (0, uu 34)]) (fun (i : Nat) (L1 : LG) (t1 : Int) (p : Option Addr) (c : Nat) (ys : List LBy) => [lgI b g L1, ext Mr]) (fun (i : Nat) (L1 : LG) (t1 : Int) (p : Option Addr) (c : Nat) (ys : List LBy) => [AllBy ys, GlF p ys, GlF pl acts]) (fun (i : Nat) (L1 : LG) (t1 : Int) (p : Option Addr) (c : Nat) (ys : List LBy) => i ≤ acts.length ∧ i ≤ 14 ∧ t1 ≤ t + i ∧ LgOk L1 n t1 (bsL ys) ∧ L1.s.arms.on = false ∧ L1.m = L.m ∧ p ≠ none) (fun (i : Nat) (L1 : LG) (t1 : Int) (p : Option Addr) (c : Nat) (ys : List LBy) => acts.length - i) (0) (L) (t) (p0) (c0) (ys0) ?_ S.uu ?_ ?_
  · exact ⟨Nat.zero_le _, by omega, by omega, by rw [hb0]; exact h, ha, rfl, hp0⟩
  · first | exact S | exact S.sub _ _
  · clear S; rintro i L1 t1 p c ys uu a w ⟨hi, hi14, ht2, hL1, ha1, hm1, hp⟩ S
    refine c_seq ?_
    refine c_region ?_
    refine sq S ?_; clear S; intro a S
    refine wl_nil ?_
    refine xtn ?_
    refine c_seq ?_
    refine c_cond S (fun h3 => ?_) (fun h3 => ?_)
    · refine c_skip ?_
      refine xtn ?_
      refine c_seq ?_
      refine c_block ?_
      refine c_seq ?_
      have hi2 : i < acts.length := by have := of_decide_eq_true h3; omega
      have hK : KLt i acts.length := ⟨hi2⟩
      obtain ⟨x, hx⟩ : ∃ x, x = nthG acts i := ⟨_, rfl⟩
      have hys := hL1.tells.few
      have hys0 := List.length_pos_iff.2 hL1.tells.some_
      rw [List.length_map] at hys hys0
      refine c_region ?_
      iterate 3 (refine sq S ?_; clear S; intro a S)
      rw [← hx] at S
      refine sa S ?_; clear S; intro b8 a w S
      refine sq S ?_; clear S; intro a S
      refine sw S ?_; clear S; intro a w S
      refine wl_nil ?_
      refine xtn ?_
      iterate 2 (refine c_seq ?_)
      refine c_region ?_
      iterate 2 (refine sq S ?_; clear S; intro a S)
      refine wl_nil ?_
      refine xtn ?_
      refine c_cond S (fun h5 => ?_) (fun h5 => ?_)
      · refine c_exit ?_
        refine xte ?_
        refine xbx ?_
        iterate 2 (refine xte ?_)
        refine xbe ?_
        refine xtn ?_
        refine c_seq ?_
        refine c_region ?_
        iterate 3 (refine sq S ?_; clear S; intro a S)
        refine wl_nil ?_
        refine xtn ?_
        refine c_ret ?_
        have h1 := S.itNew (lgI b g L1) rfl
        have h2 := S.it (lgI b g L1)
        have g1 := St.lendM S (lgI b g L1) Mr (S.mem.fact (GlF p ys))
        have g2 := St.lendM S (lgI b g L1) Mr (S.mem.fact (AllBy ys))
        refine end2 S (fun _ => ?_)
        exact ⟨L1, t1, p, c, ys, rfl, hm1, hL1, ha1, by omega, hp, h2, h1, g1, g2⟩
      · refine c_skip ?_
        refine xtn ?_
        refine c_seq ?_
        refine c_region ?_
        refine sq S ?_; clear S; intro a S
        refine sr S (taking_c x _) ?_; clear S; rintro _ a w rfl S
        obtain ⟨x2, hx2⟩ : ∃ x2, x2 = takingF x := ⟨_, rfl⟩
        rw [← hx2] at S
        refine sw S ?_; clear S; intro a w S
        refine wl_nil ?_
        refine xtn ?_
        refine c_mrge5 S (fun (L3 : LG) (t3 : Int) (p3 : Option Addr) (c3 : Nat) (zs : List LBy) uu => [(6, .slice p3 zs.length c3), (15, uu 22), (0, uu 23), (0, uu 24), (0, uu 25), (0, uu 26), (0, uu 27), (0, uu 28)]) (fun (L3 : LG) (t3 : Int) (p3 : Option Addr) (c3 : Nat) (zs : List LBy) => [lgI b g L3, ext Mr]) (fun (L3 : LG) (t3 : Int) (p3 : Option Addr) (c3 : Nat) (zs : List LBy) => [AllBy zs, GlF p3 zs, GlF pl acts]) (fun (L3 : LG) (t3 : Int) (p3 : Option Addr) (c3 : Nat) (zs : List LBy) => t3 ≤ t1 + 1 ∧ LgOk L3 n t3 (bsL zs) ∧ L3.s.arms.on = false ∧ L3.m = L.m ∧ p3 ≠ none) ?_ ?_
        · refine c_seq ?_
          refine c_region ?_
          iterate 2 (refine sq S ?_; clear S; intro a S)
          have hi15 : i < 14 := by have := of_decide_eq_false h5; omega
          have hwb := maxLen
          refine sit (lgI b g L1) S (take_l b g L1 n t1 (bsL ys) x2 hL1 (by omega) _ (S.it (lgI b g L1))) rfl ?_; clear S; rintro _ a w ⟨L2, e, rfl, hh2, hn2, hR⟩ hS
          have S := hS (lgI b g L2) hh2 hn2
          clear hS
          have hR2 := wantF_off hR ha1 hL1
          refine sq S ?_; clear S; intro a S
          refine wl_nil ?_
          refine xtn ?_
          refine c_cond S (fun h7 => ?_) (fun h7 => ?_)
          · refine c_region ?_
            iterate 2 (refine sq S ?_; clear S; intro a S)
            have he : e = 0 := of_decide_eq_true h7
            obtain ⟨-, hw0, hm2, hL2, ha2⟩ : e = 0 ∧ wantF n t1 (bsL ys) (ckF x2) (bytesF x2) = 0 ∧ L2.m = L1.m ∧ LgOk L2 n (nextT (ckF x2) t1) (nextS (ckF x2) (bsL ys) (bytesF x2)) ∧ L2.s.arms.on = false := by
              rcases hR2 with ⟨h1, _⟩ | h1
              · exact absurd he h1
              · exact h1
            refine sr S (behind_c p c ys x2 hys0 (by omega) hp _ _ (foots_lt S) (S.mem.fact (GlF p ys)) (S.mem.fact (AllBy ys))) ?_; clear S; rintro _ a w ⟨p4, c4, zs, rfl, hz, hp4, g3, g4⟩ S
            replace S := S.add g3
            replace S := S.add g4
            refine sq S ?_; clear S; intro a S
            refine wl_nil ?_
            refine xtn ?_
            refine ⟨L2, nextT (ckF x2) t1, p4, c4, zs, S.uu, ⟨?_, by rw [hz]; exact hL2, ha2, hm2.trans hm1, hp4⟩, S.sub _ _⟩
            unfold nextT; split <;> omega
          · refine c_skip ?_
            refine xtn ?_
            have he : e ≠ 0 := of_decide_eq_false h7
            obtain ⟨-, -, rfl⟩ : e ≠ 0 ∧ e = wantF n t1 (bsL ys) (ckF x2) (bytesF x2) ∧ L2 = L1 := by
              rcases hR2 with h1 | ⟨h1, _⟩
              · exact h1
              · exact absurd h1 he
            exact ⟨L2, t1, p, c, ys, S.uu, ⟨by omega, hL1, ha1, hm1, hp⟩, S.sub _ _⟩
        · clear S; rintro L3 t3 p3 c3 zs uu a w ⟨ht3, hL3, ha3, hm3, hp3⟩ S
          refine c_seq ?_
          refine c_region ?_
          refine sq S ?_; clear S; intro a S
          have hlt := foots_lt S
          refine sr S (account_f b g L3 (bsL zs) hL3.tells _ (S.it (lgI b g L3))) ?_; clear S; rintro _ a w ⟨p5, c5, us, rfl, hb5, hp5, g5, g6⟩ S
          replace S := S.add (Φ := GlF p5 us) (g5.less fun k _ hk => hlt k hk)
          replace S := S.add (Φ := AllBy us) (g6.less fun k _ hk => hlt k hk)
          refine sq S ?_; clear S; intro a S
          have hf3 := hL3.tells.few
          have hlu := congrArg List.length hb5
          simp only [List.length_map] at hf3 hlu
          refine sr S (equal_c p5 p3 c5 c3 us zs ⟨by omega, by omega⟩ (fun y hy => by have := hL3.tells.short y.bs (by rw [← hb5]; exact List.mem_map_of_mem hy); omega) (fun y hy => by have := hL3.tells.short y.bs (List.mem_map_of_mem hy); omega) _ ((S.mem.fact (GlF p5 us)).less fun _ _ h => h.elim) ((S.mem.fact (AllBy us)).less fun _ _ h => h.elim) ((S.mem.fact (GlF p3 zs)).less fun _ _ h => h.elim) ((S.mem.fact (AllBy zs)).less fun _ _ h => h.elim)) ?_; clear S; rintro _ a w rfl S
          rw [show decide (bsL us = bsL zs) = true from decide_eq_true hb5] at S
          refine sq S ?_; clear S; intro a S
          refine wl_nil ?_
          refine xtn ?_
          refine c_condF S ?_
          refine c_skip ?_
          refine xbn ?_
          refine xtn ?_
          refine c_region ?_
          iterate 2 (refine sq S ?_; clear S; intro a S)
          refine wl_nil ?_
          refine xtn ?_
          have hi15 : i < 14 := by have := of_decide_eq_false h5; omega
          rw [w64 ((i : Int) + 1) (by unfold maxLen at _hal; omega) (by unfold maxLen at _hal; omega)] at S
          exact ⟨i + 1, L3, t3, p3, c3, zs, S.uu, ⟨hi2, by omega, by omega, hL3, ha3, hm3, hp3⟩, S.sub _ _, by omega⟩
    · refine c_exit ?_
      iterate 2 (refine xte ?_)
      refine xbe ?_
      refine xtn ?_
      refine c_seq ?_
      refine c_region ?_
      iterate 3 (refine sq S ?_; clear S; intro a S)
      refine wl_nil ?_
      refine xtn ?_
      refine c_ret ?_
      have h1 := S.itNew (lgI b g L1) rfl
      have h2 := S.it (lgI b g L1)
      have g1 := St.lendM S (lgI b g L1) Mr (S.mem.fact (GlF p ys))
      have g2 := St.lendM S (lgI b g L1) Mr (S.mem.fact (AllBy ys))
      refine end2 S (fun _ => ?_)
      exact ⟨L1, t1, p, c, ys, rfl, hm1, hL1, ha1, by omega, hp, h2, h1, g1, g2⟩
end Go.Proofs.Ythffheckghdelaa

/- The laws of layer 4: does the layer do anything? -/
namespace Go.Proofs.Ythffheckghdelaa
open Go Go.Wk
set_option synthInstance.maxSize 100000
set_option synthInstance.maxHeartbeats 400000
set_option maxRecDepth 100000

theorem laid_sum (t : Int) : ∀ (said : List (List UInt8)) (j : Nat), (laidF t said j).length = (said.map fun b => secN b.length).sum
  | [], _ => rfl
  | b :: l, j => by rw [laidF, List.length_append, leavesF_len, laid_sum t l, List.map_cons, List.sum_cons]
theorem endF_sum (t : Int) (said : List (List UInt8)) : endF t said = (said.map fun b => secN b.length).sum := laid_sum t said 0
theorem newW_ok (n : Nat) (hn : 4 ≤ n ∧ n ≤ 1000) (m : Nat) (p : Option Addr) (c : Nat) (q : Option Addr) (e : Nat) : LgOk ⟨m, p, c, (fmtF n (newD ((2 * n + 2 : Nat) : Int))).1, q, e, newW n⟩ n 0 [[]] :=
  ⟨rfl, rfl, rfl, rfl, rfl, (format_live n hn).2.1⟩
theorem fresh_l (n : Nat) (hn : 4 ≤ n ∧ n ≤ 1000) (w0 : World) : Ret Try.prog 13 [.int .i64 (n : Int)] w0 (fun _ => False) fun v w' => ∃ b g L, v = .tuple ⟨[.pointer (some ⟨b, 0, none⟩), .pointer (some ⟨g, 0, none⟩)]⟩ ∧ LgOk L n 0 [[]] ∧ L.s.arms.on = false ∧ (lgI b g L).holds w' ∧ ∀ k, (lgI b g L).foot k → w0.heap.size ≤ k := by
  refine (fresh_c n hn (format_live n hn).1 w0).mono fun v w' => ?_
  rintro ⟨b, m, g, p, c, q, e, rfl, hh, hf⟩
  exact ⟨b, g, ⟨m, p, c, (fmtF n (newD ((2 * n + 2 : Nat) : Int))).1, q, e, newW n⟩, rfl, newW_ok n hn m p c q e, (format_live n hn).2.2, hh, hf⟩
theorem lg_left (b g : Nat) (L : LG) (n : Nat) (t : Int) (said : List (List UInt8)) (h : LgOk L n t said) (w0 : World) (hd : (lgI b g L).holds w0) : Ret Try.prog 18 [.pointer (some ⟨g, 0, none⟩)] w0 (fun _ => False) fun v _ => v = .int .i64 ((n : Int) - (endF t said : Int)) := by
  obtain ⟨tail, hL, _⟩ := h.live
  have h1 := hL.hn
  have h2 := hL.len
  have h3 := hL.few
  have h4 := says_len h.tells
  rw [← h.num, ← h.fin]
  exact wleft_c g b L.q L.e L.x (by omega) (by rw [h.fin]; omega) (by rw [h.num]; omega) w0 (BoxF.stable hd.2.1.1 (fun h => h))
theorem lg_turn (b g : Nat) (L : LG) (n : Nat) (t : Int) (said : List (List UInt8)) (h : LgOk L n t said) (w0 : World) (hd : (lgI b g L).holds w0) : Ret Try.prog 19 [.pointer (some ⟨g, 0, none⟩)] w0 (fun _ => False) fun v _ => v = .int .u32 t := by
  rw [← h.turn]
  exact wturn_c g b L.q L.e L.x w0 (BoxF.stable hd.2.1.1 (fun h => h))
theorem lg_len (b g : Nat) (L : LG) (n : Nat) (t : Int) (said : List (List UInt8)) (h : LgOk L n t said) (w0 : World) (hd : (lgI b g L).holds w0) : Ret Try.prog 27 [.pointer (some ⟨g, 0, none⟩)] w0 (fun _ => False) fun v _ => v = .int .i64 ((said.length : Int) - 1) := by
  obtain ⟨tail, hL, _⟩ := h.live
  have h1 := hL.hn
  have h2 := hL.len
  have h3 := hL.few
  have h4 := says_len h.tells
  rw [← h4]
  exact wlen_c g b L.q L.e L.x (by omega) (by rw [h.fin]; omega) (by rw [h.num]; omega) w0 (BoxF.stable hd.2.1.1 (fun h => h))
theorem lg_snap (b g : Nat) (L : LG) (n : Nat) (t : Int) (b0 : List UInt8) (l : List (List UInt8)) (h : LgOk L n t (b0 :: l)) (w0 : World) (hd : (lgI b g L).holds w0) : Ret Try.prog 26 [.pointer (some ⟨g, 0, none⟩)] w0 (fun _ => False) fun v w' => ∃ p' c', v = .slice p' b0.length c' ∧ w'.ownsRow 0 5 1 (.slice p' b0.length c') b0.length (encL b0) ∧ ∀ ad, p' = some ad → w0.heap.size ≤ ad.block := by
  have hs := h.says
  obtain ⟨y, ys, hx⟩ : ∃ y ys, L.x.said = y :: ys := by
    cases hx : L.x.said with
    | nil => rw [hx] at hs; cases hs
    | cons y ys => exact ⟨y, ys, rfl⟩
  have hy : y.bs = b0 := by rw [hx] at hs; exact (List.cons.inj hs).1
  have hn : nthG L.x.said 0 = y := by rw [hx]; rfl
  have := snap_c g b L.q L.e L.x y (by rw [hx]; simp) hn (by have := says_by h.tells y (by rw [hx]; simp); omega) w0 (BoxF.stable hd.2.1.1 (fun h => h)) (gl_own hd.2.1.2.1.1 (fun _ _ _ _ => trivial) (fun _ _ h => h)) ((allBy_ent hd.2.1.2.1.2.1).imp fun _ h => h y (by rw [hx]; simp))
  rw [hy] at this
  exact this
theorem take_sure {L L' : LG} {n : Nat} {t : Int} {said : List (List UInt8)} {ck : Bool} {bs : List UInt8} {e : Int} (h : TakeR L L' n t said ck bs e) (ha : L.s.arms.on = false) (hL : LgOk L n t said) (hw : wantF n t said ck bs = 0) : e = 0 ∧ L'.m = L.m ∧ LgOk L' n (nextT ck t) (nextS ck said bs) ∧ L'.s.arms.on = false := by
  rcases wantF_off h ha hL with ⟨h1, h2, _⟩ | ⟨h1, h2, h3⟩
  · rw [hw] at h2; exact absurd h2 h1
  · exact ⟨h1, h3⟩
theorem w1_w : wantF 4 0 [[]] false (List.replicate 49 0) = 0 := by rw [wantF, endF_sum]; decide
theorem w2_w : wantF 4 0 [[], List.replicate 49 0] false [7] = 0 := by rw [wantF, endF_sum]; decide
theorem w3_w : wantF 4 0 [[], List.replicate 49 0, [7]] false [] = 6 := by rw [wantF, endF_sum]; decide
theorem w4_w : wantF 4 0 [[], List.replicate 49 0, [7]] true [8] = 0 := by rw [wantF, endF_sum]; decide
theorem wakes_c (w0 : World) : Ret Try.prog 9 [] w0 (fun _ => False) fun v _ => v = .bool true := by
  refine enter Try.func9 rfl rfl (Wd.start w0) (fun a S => ?_)
  simp only [Try.ntmps9, List.length_nil, Nat.reduceSub, List.replicate_succ, List.replicate_zero, List.nil_append] at S
  refine c_seq ?_
  refine c_region ?_
  refine sq S ?_; clear S; intro a S
  refine wl_nil ?_
  refine xtn ?_
  refine c_seq ?_
  refine c_region ?_
  refine snew S (dnew_dk 10 (by omega) _) ?_; clear S; rintro _ a w - ⟨b, m, rfl, hh, hn⟩ hS -
  have S := hS (dkI b m none 0 (newD 10)) hh hn
  clear hS
  iterate 5 (refine sq S ?_; clear S; intro a S)
  refine wl_nil ?_
  refine xtn ?_
  iterate 2 (refine c_seq ?_)
  refine c_region ?_
  iterate 2 (refine sq S ?_; clear S; intro a S)
  refine wl_nil ?_
  refine xtn ?_
  refine c_condF S ?_
  refine c_skip ?_
  refine xtn ?_
  refine c_seq ?_
  refine c_region ?_
  refine sq S ?_; clear S; intro a S
  refine sit (dkI b m none 0 (newD 10)) S (format_c b m 4 none 0 (newD 10) _ (by decide) (by simp [newD]) (S.it (dkI b m none 0 (newD 10)))) rfl ?_; clear S; rintro _ a w (⟨h1, -⟩ | ⟨-, g, p2, c2, q, e, rfl, hh2, hn2⟩) hS
  · exact absurd (format_live 4 (by omega)).1 h1
  obtain ⟨L, hL⟩ : ∃ L : LG, L = ⟨m, p2, c2, (fmtF 4 (newD ((2 * 4 + 2 : Nat) : Int))).1, q, e, newW 4⟩ := ⟨_, rfl⟩
  have hok : LgOk L 4 0 [[]] := by rw [hL]; exact newW_ok 4 (by omega) m p2 c2 q e
  have hoff : L.s.arms.on = false := by rw [hL]; exact (format_live 4 (by omega)).2.2
  have S := hS (lgI b g L) (by rw [hL]; exact hh2) (by rw [hL]; exact hn2)
  clear hS hh2 hn2 hL
  iterate 5 (refine sq S ?_; clear S; intro a S)
  refine wl_nil ?_
  refine xtn ?_
  iterate 2 (refine c_seq ?_)
  refine c_region ?_
  iterate 2 (refine sq S ?_; clear S; intro a S)
  rw [show (!decide ((0 : Int) = 0)) = false from rfl] at S
  refine sq S ?_; clear S; intro a S
  refine gT' S ?_
  refine sq S ?_; clear S; intro a S
  refine gT' S ?_
  iterate 3 (refine sq S ?_; clear S; intro a S)
  refine gT' S ?_
  refine sq S ?_; clear S; intro a S
  refine gT' S ?_
  refine sr S (lg_left b g L 4 0 [[]] hok _ (S.it (lgI b g L))) ?_; clear S; rintro _ a w rfl S
  rw [show (((4 : Nat) : Int) - (endF 0 [[]] : Int)) = 3 from by rw [endF_sum]; rfl] at S
  refine gT' S ?_
  refine sq S ?_; clear S; intro a S
  rw [show (!decide ((3 : Int) = 3)) = false from rfl] at S
  iterate 2 (refine sq S ?_; clear S; intro a S)
  refine gT' S ?_
  refine sq S ?_; clear S; intro a S
  refine gT' S ?_
  refine smkc 49 49 S rfl rfl (Nat.le_refl _) (by omega) (by simp only [maxLen]; omega) ?_; clear S; intro g1 a w S
  replace S := St.become S (Wk.row 5 1 (some ⟨g1, 0, none⟩) 49 49 (encL (List.replicate 49 (0 : UInt8)))) (entI [⟨some ⟨g1, 0, none⟩, 49, List.replicate 49 0⟩]) (S.row (some ⟨g1, 0, none⟩) 49) (fun h => ent_row (y := ⟨some ⟨g1, 0, none⟩, 49, List.replicate 49 0⟩) h) (fun k ⟨x, hx, ad, hp, hk⟩ => by obtain rfl := List.mem_singleton.1 hx; exact ⟨ad, hp, hk.symm⟩)
  refine gT' S ?_
  refine sit (lgI b g L) S (append_l b g L 4 0 [[]] ⟨some ⟨g1, 0, none⟩, 49, List.replicate 49 0⟩ hok (by show (List.replicate 49 (0 : UInt8)).length ≤ 1000000; decide) _ (S.it (lgI b g L)) (rowEnt_gl (S.it (entI [⟨some ⟨g1, 0, none⟩, 49, List.replicate 49 0⟩])) (fun k hk hk2 => St.apart2 S (entI [⟨some ⟨g1, 0, none⟩, 49, List.replicate 49 0⟩]) (lgI b g L) k hk hk2))) rfl ?_; clear S; rintro _ a w ⟨L1, e1, rfl, hh, hn2, hR⟩ hS
  have S := hS (lgI b g L1) hh hn2
  clear hS
  obtain ⟨rfl, hm1, hok1, hoff1⟩ := take_sure hR hoff hok w1_w
  replace hok1 : LgOk L1 4 0 [[], List.replicate 49 0] := hok1
  refine gT' S ?_
  refine sq S ?_; clear S; intro a S
  rw [show (!decide ((0 : Int) = 0)) = false from rfl] at S
  iterate 2 (refine sq S ?_; clear S; intro a S)
  refine gT' S ?_
  refine sq S ?_; clear S; intro a S
  refine gT' S ?_
  refine sn S ?_; clear S; intro b35 a w S
  replace S := S.boxRow b35 1 1 rfl (by decide)
  replace S := St.become S (Wk.row 5 1 (some ⟨b35, 0, none⟩) 1 1 [.int .u8 7]) (entI [⟨some ⟨b35, 0, none⟩, 1, [7]⟩]) (S.row (some ⟨b35, 0, none⟩) 1) (fun h => ent_row (y := ⟨some ⟨b35, 0, none⟩, 1, [7]⟩) h) (fun k ⟨x, hx, ad, hp, hk⟩ => by obtain rfl := List.mem_singleton.1 hx; exact ⟨ad, hp, hk.symm⟩)
  refine gT' S ?_
  refine sit (lgI b g L1) S (append_l b g L1 4 0 [[], List.replicate 49 0] ⟨some ⟨b35, 0, none⟩, 1, [7]⟩ hok1 (by show (1 : Nat) ≤ 1000000; decide) _ (S.it (lgI b g L1)) (rowEnt_gl (S.it (entI [⟨some ⟨b35, 0, none⟩, 1, [7]⟩])) (fun k hk hk2 => St.apart2 S (entI [⟨some ⟨b35, 0, none⟩, 1, [7]⟩]) (lgI b g L1) k hk hk2))) rfl ?_; clear S; rintro _ a w ⟨L2, e2, rfl, hh, hn3, hR2⟩ hS
  have S := hS (lgI b g L2) hh hn3
  clear hS
  obtain ⟨rfl, hm2, hok2, hoff2⟩ := take_sure hR2 hoff1 hok1 w2_w
  replace hok2 : LgOk L2 4 0 [[], List.replicate 49 0, [7]] := hok2
  refine gT' S ?_
  refine sq S ?_; clear S; intro a S
  rw [show (!decide ((0 : Int) = 0)) = false from rfl] at S
  iterate 2 (refine sq S ?_; clear S; intro a S)
  refine gT' S ?_
  refine sq S ?_; clear S; intro a S
  refine gT' S ?_
  refine sit (lgI b g L2) S (append_l b g L2 4 0 [[], List.replicate 49 0, [7]] ⟨none, 0, []⟩ hok2 (by decide) _ (S.it (lgI b g L2)) (fun w' _ => gl_nil)) rfl ?_; clear S; rintro _ a w ⟨L3, e3, rfl, hh, hn4, hR3⟩ hS
  have S := hS (lgI b g L3) hh hn4
  clear hS
  have hw := w3_w
  obtain ⟨rfl, rfl⟩ : e3 = 6 ∧ L3 = L2 := by
    rcases wantF_off hR3 hoff2 hok2 with ⟨_, h2, h3⟩ | ⟨_, h2, _⟩
    · exact ⟨h2.trans hw, h3⟩
    · rw [hw] at h2; cases h2
  refine gT' S ?_
  refine sq S ?_; clear S; intro a S
  rw [show (!decide ((6 : Int) = 6)) = false from rfl] at S
  refine sq S ?_; clear S; intro a S
  refine wl_nil ?_
  refine xtn ?_
  refine c_condF S ?_
  refine c_skip ?_
  refine xtn ?_
  refine c_seq ?_
  refine c_region ?_
  refine sq S ?_; clear S; intro a S
  replace S := S.front (lgI b g L3)
  replace S := S.ofBoth
  refine sit (dkI b L3.m L3.p L3.c L3.s) S (open_l b L3.m L3.p L3.c L3.s 4 0 [[], List.replicate 49 0, [7]] hok2.live.able _ (S.it (dkI b L3.m L3.p L3.c L3.s))) rfl ?_; clear S; rintro _ a w hcase hS
  obtain ⟨g4, L4, rfl, -, hh4, hn5, hok4, -, ho4, -⟩ := hcase.resolve_right (fun h => by have := h.1; rw [hoff2] at this; cases this)
  have hoff4 := ho4 hoff2
  have S := hS (lgI b g4 L4) hh4 hn5
  clear hS
  iterate 5 (refine sq S ?_; clear S; intro a S)
  refine wl_nil ?_
  refine xtn ?_
  iterate 2 (refine c_seq ?_)
  refine c_region ?_
  iterate 2 (refine sq S ?_; clear S; intro a S)
  rw [show (!decide ((0 : Int) = 0)) = false from rfl] at S
  refine sq S ?_; clear S; intro a S
  refine gT' S ?_
  refine sq S ?_; clear S; intro a S
  refine gT' S ?_
  iterate 3 (refine sq S ?_; clear S; intro a S)
  refine gT' S ?_
  refine sq S ?_; clear S; intro a S
  refine gT' S ?_
  refine sr S (lg_len b g4 L4 4 0 _ hok4 _ (S.it (lgI b g4 L4))) ?_; clear S; rintro _ a w rfl S
  rw [show ((([[], List.replicate 49 0, [7]] : List (List UInt8)).length : Int) - 1) = 2 from rfl] at S
  refine gT' S ?_
  refine sq S ?_; clear S; intro a S
  rw [show (!decide ((2 : Int) = 2)) = false from rfl] at S
  iterate 2 (refine sq S ?_; clear S; intro a S)
  refine gT' S ?_
  refine sq S ?_; clear S; intro a S
  refine gT' S ?_
  refine sn S ?_; clear S; intro b62 a w S
  replace S := S.boxRow b62 1 1 rfl (by decide)
  replace S := St.become S (Wk.row 5 1 (some ⟨b62, 0, none⟩) 1 1 [.int .u8 8]) (entI [⟨some ⟨b62, 0, none⟩, 1, [8]⟩]) (S.row (some ⟨b62, 0, none⟩) 1) (fun h => ent_row (y := ⟨some ⟨b62, 0, none⟩, 1, [8]⟩) h) (fun k ⟨x, hx, ad, hp, hk⟩ => by obtain rfl := List.mem_singleton.1 hx; exact ⟨ad, hp, hk.symm⟩)
  refine gT' S ?_
  refine sit (lgI b g4 L4) S (chk_l b g4 L4 4 0 [[], List.replicate 49 0, [7]] ⟨some ⟨b62, 0, none⟩, 1, [8]⟩ hok4 (by decide) (by show (1 : Nat) ≤ 1000000; decide) _ (S.it (lgI b g4 L4)) (rowEnt_gl (S.it (entI [⟨some ⟨b62, 0, none⟩, 1, [8]⟩])) (fun k hk hk2 => St.apart2 S (entI [⟨some ⟨b62, 0, none⟩, 1, [8]⟩]) (lgI b g4 L4) k hk hk2))) rfl ?_; clear S; rintro _ a w ⟨L5, e5, rfl, hh, hn6, hR5⟩ hS
  have S := hS (lgI b g4 L5) hh hn6
  clear hS
  obtain ⟨rfl, hm5, hok5, hoff5⟩ := take_sure hR5 hoff4 hok4 w4_w
  replace hok5 : LgOk L5 4 1 [[8]] := hok5
  refine gT' S ?_
  refine sq S ?_; clear S; intro a S
  rw [show (!decide ((0 : Int) = 0)) = false from rfl] at S
  refine sq S ?_; clear S; intro a S
  refine wl_nil ?_
  refine xtn ?_
  refine c_condF S ?_
  refine c_skip ?_
  refine xtn ?_
  refine c_seq ?_
  refine c_region ?_
  refine sq S ?_; clear S; intro a S
  refine sr S (lg_turn b g4 L5 4 1 _ hok5 _ (S.it (lgI b g4 L5))) ?_; clear S; rintro _ a w rfl S
  refine sq S ?_; clear S; intro a S
  rw [show decide ((1 : Int) = 1) = true from rfl] at S
  refine sq S ?_; clear S; intro a S
  refine gT S ?_
  refine sq S ?_; clear S; intro a S
  refine gT S ?_
  refine sr S (lg_left b g4 L5 4 1 _ hok5 _ (S.it (lgI b g4 L5))) ?_; clear S; rintro _ a w rfl S
  rw [show (((4 : Nat) : Int) - (endF 1 [[8]] : Int)) = 3 from by rw [endF_sum]; rfl] at S
  refine gT S ?_
  refine sq S ?_; clear S; intro a S
  rw [show decide ((3 : Int) = 3) = true from rfl] at S
  iterate 2 (refine sq S ?_; clear S; intro a S)
  refine gT S ?_
  refine sq S ?_; clear S; intro a S
  refine gT S ?_
  refine srn S (lg_snap b g4 L5 4 1 [8] [] hok5 _ (S.it (lgI b g4 L5))) ?_; clear S; rintro _ a w ⟨p6, c6, rfl, hown, hg6⟩ hS -
  have S := hS hown hg6
  clear hS
  refine gT S ?_
  refine sq S ?_; clear S; intro a S
  refine gT S ?_
  refine sq S ?_; clear S; intro a S
  rw [show decide ((([8] : List UInt8).length : Int) = 1) = true from rfl] at S
  iterate 2 (refine sq S ?_; clear S; intro a S)
  refine gT S ?_
  refine sq S ?_; clear S; intro a S
  refine gT S ?_
  refine srn S (lg_snap b g4 L5 4 1 [8] [] hok5 _ (S.it (lgI b g4 L5))) ?_; clear S; rintro _ a w ⟨p7, c7, rfl, hown, hg7⟩ hS -
  have S := hS hown hg7
  clear hS
  replace S := S.rowToGl p7 ([8] : List UInt8) (e := 5) (sz := 1) (n := ([8] : List UInt8).length) (c := c7) (fun _ _ _ _ => trivial)
  have hK2 : KLt 0 ([8] : List UInt8).length := ⟨by decide⟩
  refine gT S ?_
  refine sq S ?_; clear S; intro a S
  refine gT S ?_
  refine sq S ?_; clear S; intro a S
  refine gT S ?_
  refine sq S ?_; clear S; intro a S
  rw [show decide (((nthG ([8] : List UInt8) 0).toNat : Int) = 8) = true from rfl] at S
  iterate 2 (refine sq S ?_; clear S; intro a S)
  refine gT S ?_
  refine sr S (sectors_c 48 _) ?_; clear S; rintro _ a w rfl S
  rw [show secF 48 = 1 from by decide] at S
  refine gT S ?_
  refine sq S ?_; clear S; intro a S
  rw [show decide ((1 : Int) = 1) = true from rfl] at S
  iterate 2 (refine sq S ?_; clear S; intro a S)
  refine gT S ?_
  refine sr S (sectors_c 49 _) ?_; clear S; rintro _ a w rfl S
  rw [show secF 49 = 2 from by decide] at S
  refine gT S ?_
  refine sq S ?_; clear S; intro a S
  rw [show decide ((2 : Int) = 2) = true from rfl] at S
  iterate 2 (refine sq S ?_; clear S; intro a S)
  refine wl_nil ?_
  refine xtn ?_
  refine c_ret ?_
  refine end1 S (fun _ => rfl)
end Go.Proofs.Ythffheckghdelaa

/- The laws of layer 4: how many sectors; of a log that is not there. -/
namespace Go.Proofs.Ythffheckghdelaa
open Go Go.Wk
set_option synthInstance.maxSize 100000
set_option synthInstance.maxHeartbeats 400000
set_option maxRecDepth 100000

theorem walfills_c (n : Int) (w0 : World) : Ret Try.prog 3 [.int .i64 n] w0 (fun _ => False) fun v _ => v = .bool true := by
  refine enter Try.func3 rfl rfl (Wd.start w0) (fun a S => ?_)
  simp only [Try.ntmps3, List.length_cons, List.length_nil, Nat.reduceAdd, Nat.reduceSub, List.replicate_succ, List.replicate_zero, List.cons_append, List.nil_append] at S
  refine c_seq ?_
  refine c_region ?_
  refine sq S ?_; clear S; intro a S
  refine wl_nil ?_
  refine xtn ?_
  iterate 2 (refine c_seq ?_)
  refine c_region ?_
  refine sr S (wakes_c _) ?_; clear S; rintro _ a w rfl S
  refine sq S ?_; clear S; intro a S
  refine wl_nil ?_
  refine xtn ?_
  refine c_condF S ?_
  refine c_skip ?_
  refine xtn ?_
  refine c_seq ?_
  refine c_region ?_
  refine sq S ?_; clear S; intro a S
  refine sr S (sectors_c n _) ?_; clear S; rintro _ a w rfl S
  refine sq S ?_; clear S; intro a S
  refine sr S (fills_c n _) ?_; clear S; rintro _ a w rfl S
  iterate 2 (refine sq S ?_; clear S; intro a S)
  refine wl_nil ?_
  refine xtn ?_
  refine c_ret ?_
  refine end1 S (fun _ => ?_)
  rw [decide_eq_true rfl]
theorem walabsent_c (y : LBy) (area : Int) (w0 : World) : Ret Try.prog 5 [.slice y.p y.bs.length y.c, .int .i64 area] w0 (fun _ => False) fun v _ => v = .bool true := by
  refine enterM Try.func5 rfl rfl (Wd.start w0) (fun a S => ?_)
  simp only [Try.ntmps5, List.length_cons, List.length_nil, Nat.reduceAdd, Nat.reduceSub, List.replicate_succ, List.replicate_zero, List.cons_append, List.nil_append] at S
  refine c_seq ?_
  refine c_region ?_
  refine sa S ?_; clear S; intro b4 a w S
  refine wl_nil ?_
  refine xtn ?_
  iterate 2 (refine c_seq ?_)
  refine c_region ?_
  refine sr S (wakes_c _) ?_; clear S; rintro _ a w rfl S
  refine sq S ?_; clear S; intro a S
  refine wl_nil ?_
  refine xtn ?_
  refine c_condF S ?_
  refine c_skip ?_
  refine xtn ?_
  refine c_seq ?_
  refine c_region ?_
  refine sq S ?_; clear S; intro a S
  refine sr S (format_nil area _) ?_; clear S; rintro _ a w rfl S
  iterate 5 (refine sq S ?_; clear S; intro a S)
  refine wl_nil ?_
  refine xtn ?_
  refine c_seq ?_
  refine c_region ?_
  refine sr S (open_nil _) ?_; clear S; rintro _ a w rfl S
  iterate 5 (refine sq S ?_; clear S; intro a S)
  refine wl_nil ?_
  refine xtn ?_
  iterate 2 (refine c_seq ?_)
  refine c_region ?_
  iterate 3 (refine sq S ?_; clear S; intro a S)
  refine gT' S ?_
  refine sq S ?_; clear S; intro a S
  refine gT' S ?_
  iterate 3 (refine sq S ?_; clear S; intro a S)
  refine gT' S ?_
  refine sq S ?_; clear S; intro a S
  refine gT' S ?_
  refine sq S ?_; clear S; intro a S
  rw [show (!decide ((1 : Int) = 1)) = false from rfl] at S
  iterate 2 (refine sq S ?_; clear S; intro a S)
  refine gT' S ?_
  refine sq S ?_; clear S; intro a S
  refine gT' S ?_
  refine sq S ?_; clear S; intro a S
  rw [show (!decide ((1 : Int) = 1)) = false from rfl] at S
  refine sq S ?_; clear S; intro a S
  refine wl_nil ?_
  refine xtn ?_
  refine c_condF S ?_
  refine c_skip ?_
  refine xtn ?_
  refine c_seq ?_
  refine c_region ?_
  refine sq S ?_; clear S; intro a S
  refine wl_nil ?_
  refine xtn ?_
  iterate 2 (refine c_seq ?_)
  refine c_region ?_
  refine sq S ?_; clear S; intro a S
  have hlt := foots_lt S
  refine sr S (all_nil _) ?_; clear S; rintro _ a w ⟨g, rfl, n0, e0⟩ S
  replace S := S.add (Φ := BoxF g 51 [.slice none 0 0]) (BoxF.stable e0 (fun hm => by have := hlt _ hm; omega))
  refine wl_nil ?_
  refine xtn ?_
  refine c_block ?_
  refine c_range (κ := Unit) (κx := Unit) (Ds := []) (toldL [])
    (fun _ _ => [Wk.box b4 4 [.bool false], marks []])
    (fun _ _ => [BoxF g 51 [.slice none 0 0]])
    (fun _ _ => True)
    (fun _ => []) (fun _ => []) (fun _ _ => False) () S
    (fun M w1 hM hF _ => all_it g [] none 0 (by simp) (fun y hy => by cases hy) w1 M hM (hF _ (by simp)) (fun w' _ => gl_nil) (fun w' _ y hy => by cases hy)) ⟨trivial, rfl, rfl⟩ ?_ ?_ ?_ ?_
  · clear S
    rintro L D bL M' w1 i z vs ⟨⟩ W0 w hz
    cases hz
  · clear S
    rintro D ⟨⟩ a w - S
    replace S := S.join (Ds := [])
    refine xbn ?_
    refine xtn ?_
    iterate 2 (refine c_seq ?_)
    refine c_region ?_
    iterate 2 (refine sq S ?_; clear S; intro a S)
    refine sr S (append_nil y _) ?_; clear S; rintro _ a w rfl S
    refine sq S ?_; clear S; intro a S
    rw [show (!decide ((1 : Int) = 1)) = false from rfl] at S
    refine sq S ?_; clear S; intro a S
    refine gT' S ?_
    refine sq S ?_; clear S; intro a S
    refine gT' S ?_
    refine sq S ?_; clear S; intro a S
    refine gT' S ?_
    refine sr S (chk_nil y _) ?_; clear S; rintro _ a w rfl S
    refine gT' S ?_
    refine sq S ?_; clear S; intro a S
    rw [show (!decide ((1 : Int) = 1)) = false from rfl] at S
    refine sq S ?_; clear S; intro a S
    refine wl_nil ?_
    refine xtn ?_
    refine c_condF S ?_
    refine c_skip ?_
    refine xtn ?_
    refine c_seq ?_
    refine c_region ?_
    refine sq S ?_; clear S; intro a S
    refine sr S (snap_nil _) ?_; clear S; rintro _ a w rfl S
    iterate 2 (refine sq S ?_; clear S; intro a S)
    rw [show decide (((0 : Nat) : Int) = 0) = true from rfl] at S
    refine sq S ?_; clear S; intro a S
    refine gT S ?_
    refine sq S ?_; clear S; intro a S
    refine gT S ?_
    refine sr S (wlen_nil _) ?_; clear S; rintro _ a w rfl S
    refine gT S ?_
    refine sq S ?_; clear S; intro a S
    rw [show decide ((0 : Int) = 0) = true from rfl] at S
    iterate 2 (refine sq S ?_; clear S; intro a S)
    refine gT S ?_
    refine sq S ?_; clear S; intro a S
    refine gT S ?_
    refine sr S (wleft_nil _) ?_; clear S; rintro _ a w rfl S
    refine gT S ?_
    refine sq S ?_; clear S; intro a S
    rw [show decide ((0 : Int) = 0) = true from rfl] at S
    iterate 2 (refine sq S ?_; clear S; intro a S)
    refine gT S ?_
    refine sq S ?_; clear S; intro a S
    refine gT S ?_
    refine sr S (wturn_nil _) ?_; clear S; rintro _ a w rfl S
    refine gT S ?_
    refine sq S ?_; clear S; intro a S
    rw [show decide ((0 : Int) = 0) = true from rfl] at S
    iterate 2 (refine sq S ?_; clear S; intro a S)
    refine gT S ?_
    refine sq S ?_; clear S; intro a S
    refine gT S ?_
    refine sr S (wbroken_nil _) ?_; clear S; rintro _ a w rfl S
    refine gT S ?_
    refine sq S ?_; clear S; intro a S
    rw [show (!false) = true from rfl] at S
    iterate 2 (refine sq S ?_; clear S; intro a S)
    refine gT S ?_
    refine sq S ?_; clear S; intro a S
    refine gT S ?_
    refine sr S (wdisk_nil _) ?_; clear S; rintro _ a w rfl S
    refine gT S ?_
    iterate 2 (refine sq S ?_; clear S; intro a S)
    refine sw S ?_; clear S; intro a w S
    refine wl_nil ?_
    refine xtn ?_
    refine c_ret ?_
    refine endM1 S (fun w hw => ?_)
    rfl
  · rintro D i a w ⟨⟩
  · rintro id D _ a w ⟨⟩
end Go.Proofs.Ythffheckghdelaa
