/- 7: a part of this claim's texts, joined: WalQ WalR PlainDisk PlainWalB PlainWalC PlainWalD WalLawE WalLawF WalLawG WalLawH WalLawI WalLawJ WalLawK WalLawL WalLawM WalLawN WalV PlainFail PlainVaultB PlainVaultC VaultG VaultH VaultI VaultJ RowVault. -/
import Derived.Test.YtdakncgafdnjfaaGreatPa6
/- Package wal: Append. -/
namespace Go.Proofs.YtdakncgafdnjfaaGreat
open Go Go.Wk
set_option synthInstance.maxSize 100000
set_option synthInstance.maxHeartbeats 400000
set_option maxRecDepth 100000

theorem breaks_d (g r b : Nat) (q : Option Addr) (e : Nat) (x : WS) (v : Int) (u : FrameMode) (w0 : World) (hb : (Wk.box g 134 (cWal b q e x)).holds w0) (hr : Stable (fun k => k = g) w0 (BoxF r 26 [.int .i64 v])) :
    CallsDIn (FW none) 0 Tryz.prog 79 [.pointer (some ⟨g, 0, none⟩), .pointer (some ⟨r, 0, none⟩)].toArray u w0 fun e' u' w' => u' = u ∧ ∃ v', e' = .returned v' ∧ Agree (fun k => k = g) w0 w' ∧ (Wk.box g 134 (cWal b q e (brkF x v))).holds w' := by
  refine enterDI Tryz.func79 rfl rfl (Wd.itLent (x := Wk.box g 134 (cWal b q e x)) (fs := [BoxF r 26 [.int .i64 v]]) hb (by intro Φ hΦ; obtain rfl := List.mem_singleton.1 hΦ; exact hr)) (fun a S => ?_)
  simp only [Tryz.ntmps79, List.length_cons, List.length_nil, Nat.reduceAdd, Nat.reduceSub, List.replicate_succ, List.replicate_zero, List.cons_append, List.nil_append] at S
  refine c_seq ?_
  refine c_region ?_
  iterate 4 (refine sq S ?_; clear S; intro a S)
  refine wl_nil ?_
  refine xtn ?_
  refine c_cond S (fun h0 => ?_) (fun h0 => ?_)
  · refine c_region ?_
    iterate 3 (refine sq S ?_; clear S; intro a S)
    refine sw S ?_; clear S; intro a w S
    refine wl_nil ?_
    have h : v ≠ 0 := by simpa using h0
    have hh := S.box g
    refine end0 (R := fun _ w' => (Wk.box g 134 (cWal b q e (brkF x v))).holds w') S (fun _ => ?_)
    rw [show brkF x v = { x with broken := true } from by simp [brkF, h]]
    exact hh
  · refine c_skip ?_
    have h : v = 0 := by simpa using h0
    have hh := S.box g
    refine end0 (R := fun _ w' => (Wk.box g 134 (cWal b q e (brkF x v))).holds w') S (fun _ => ?_)
    rw [show brkF x v = x from by simp [brkF, h]]
    exact hh
section
variable {w0 : World} {M0 : Nat → Prop} {ds : List Deferred} {a : Act} {w : World} {l : List Value} {bs bs' : List Wk.Item} {fs : List (World → Prop)}
/-- an entry that is held is still there when other memory is written. -/
theorem St.entGl {x : Wk.Item} {ys : List LBy} (S : St w0 M0 ds a w l bs fs) (hap : ∀ k, (entI ys).foot k → ¬ x.foot k) [HasIt bs (entI ys)] {y : LBy} (hy : y ∈ ys) : Stable x.foot w (GlF y.p y.bs) := by
  have h := (S.it (entI ys)) y hy
  exact fun w' ha => gl_loc (fun ad hp => ha.blk (h.1 ad hp) (hap ad.block ⟨y, hy, ad, hp, rfl⟩)) h.2
theorem ent_row {y : LBy} {e : TypeId} (h : (Wk.row e 1 y.p y.bs.length y.c (encL y.bs)).holds w) : (entI [y]).holds w := fun x hx => by
  obtain rfl := List.mem_singleton.1 hx
  exact ⟨fun ad hp => row_foot_lt h ad.block ⟨ad, hp, rfl⟩, (gl_own (M := fun _ => False) h (fun _ _ _ _ => trivial) (fun _ _ h => h)).now⟩
theorem St.rowEnt (S : St w0 M0 ds a w l bs fs) (y : LBy) {e : TypeId} [hr : ReplI bs (Wk.row e 1 y.p y.bs.length y.c (encL y.bs)) (entI [y]) bs'] (h : (Wk.row e 1 y.p y.bs.length y.c (encL y.bs)).holds w) : St w0 M0 ds a w l bs' fs :=
  St.become S (Wk.row e 1 y.p y.bs.length y.c (encL y.bs)) (entI [y]) h ent_row (fun k ⟨x, hx, ad, hp, hk⟩ => by obtain rfl := List.mem_singleton.1 hx; exact ⟨ad, hp, hk.symm⟩)
theorem St.ofWd {w0 : World} {M0 : Nat → Prop} {w : World} {bs : List Wk.Item} {fs : List (World → Prop)} (h : Wd w0 M0 w bs fs) : St w0 M0 [] ⟨#[], []⟩ w [] bs fs := ⟨rfl, rfl, h⟩
end
/-- why bytes are not taken down, if they are not. -/
def roomF (x : WS) (bs : List UInt8) : Int := if refF x bs = 0 then (if x.n - x.fin < secN bs.length then 6 else 0) else refF x bs
theorem refF_zero {x : WS} {bs : List UInt8} (h : refF x bs = 0) : bs.length ≤ 40000 ∧ x.broken = false := by
  unfold refF at h
  split at h
  · cases h
  · split at h
    · cases h
    · exact ⟨by omega, by rename_i h2; simpa using h2⟩
/-- a log behind an appending. -/
def appS (x : WS) (y : LBy) (r : Int) : WS := if r = 0 then { x with said := x.said ++ [y], fin := x.fin + secN y.bs.length } else { x with broken := true }
theorem append_c (g b m : Nat) (p : Option Addr) (c : Nat) (s : DS) (q : Option Addr) (e : Nat) (x : WS) (y : LBy) (w0 : World) (hn : x.n ≤ 1000) (hfi : x.fin ≤ x.n) (hsl : x.said.length ≤ 1000000 ∧ x.said.length ≤ e) (hs0 : 0 < x.said.length) (ht : 0 ≤ x.turn ∧ x.turn ≤ 4294967295) (hyl : y.bs.length ≤ 10000000) (hl : s.loose.length ≤ 980000)
    (hd : (both (dkI b m p c s) (walI g b q e x)).holds w0) (f0 : Stable (both (dkI b m p c s) (walI g b q e x)).foot w0 (GlF y.p y.bs)) :
    Ret Tryz.prog 20 [.pointer (some ⟨g, 0, none⟩), .slice y.p y.bs.length y.c] w0 (both (dkI b m p c s) (walI g b q e x)).foot fun v w' =>
      (roomF x y.bs ≠ 0 ∧ v = .int .i64 (roomF x y.bs) ∧ (both (dkI b m p c s) (walI g b q e x)).holds w') ∨
      (roomF x y.bs = 0 ∧ v = .int .i64 (layF s ((fromN x.n x.turn + x.fin : Nat) : Int) (leavesF x.turn (x.said.length : Int) y.bs)).2 ∧ ∃ p' c' q' e', ∃ y' : LBy, y'.bs = y.bs ∧ (x.said.length ≤ e') ∧
        (both (dkI b m p' c' (layF s ((fromN x.n x.turn + x.fin : Nat) : Int) (leavesF x.turn (x.said.length : Int) y.bs)).1) (walI g b q' e' (appS x y' (layF s ((fromN x.n x.turn + x.fin : Nat) : Int) (leavesF x.turn (x.said.length : Int) y.bs)).2))).holds w' ∧
        ∀ k, (both (dkI b m p' c' (layF s ((fromN x.n x.turn + x.fin : Nat) : Int) (leavesF x.turn (x.said.length : Int) y.bs)).1) (walI g b q' e' (appS x y' (layF s ((fromN x.n x.turn + x.fin : Nat) : Int) (leavesF x.turn (x.said.length : Int) y.bs)).2))).foot k → (both (dkI b m p c s) (walI g b q e x)).foot k ∨ w0.heap.size ≤ k) := by
  have hfr : fromN x.n x.turn ≤ 1002 := by
    unfold fromN
    rcases (show (x.turn % 2).toNat = 0 ∨ (x.turn % 2).toNat = 1 by omega) with h | h <;> rw [h] <;> omega
  refine enterD Tryz.func20 rfl rfl (Wd.it2Lent (x := dkI b m p c s) (y := walI g b q e x) (fs := [GlF y.p y.bs]) hd rfl rfl (by intro Φ hΦ; obtain rfl := List.mem_singleton.1 hΦ; exact f0)) (fun a S => ?_)
  simp only [Tryz.ntmps20, List.length_cons, List.length_nil, Nat.reduceAdd, Nat.reduceSub, List.replicate_succ, List.replicate_zero, List.cons_append, List.nil_append] at S
  replace S := S.front (walI g b q e x)
  replace S := St.open3 S
  refine c_seq ?_
  refine c_region ?_
  refine sa S ?_; clear S; intro b4 a w S
  refine wl_nil ?_
  refine xtn ?_
  iterate 2 (refine c_seq ?_)
  refine c_region ?_
  iterate 2 (refine sq S ?_; clear S; intro a S)
  refine sr S (refuses_c g b q e x y _ (BoxF.stable (S.boxF g) (fun h => h))) ?_; clear S; rintro _ a w rfl S
  refine sq S ?_; clear S; intro a S
  refine wl_nil ?_
  refine xtn ?_
  refine c_seq ?_
  refine c_region ?_
  iterate 2 (refine sq S ?_; clear S; intro a S)
  refine wl_nil ?_
  refine xtn ?_
  refine c_cond S (fun h2 => ?_) (fun h2 => ?_)
  · refine c_seq ?_
    refine c_region ?_
    refine sq S ?_; clear S; intro a S
    refine sw S ?_; clear S; intro a w S
    refine wl_nil ?_
    refine xtn ?_
    refine c_ret ?_
    refine xtr ?_
    have he : refF x y.bs ≠ 0 := by simpa using h2
    have hR : roomF x y.bs = refF x y.bs := by rw [roomF, if_neg he]
    have hh := St.hold4 (S.sub [Wk.box g 134 (cWal b q e x), Wk.row 25 1 q x.said.length e (encL x.said), entI x.said, dkI b m p c s] []) rfl rfl rfl rfl
    refine endD1 S (.inl ?_)
    rw [hR]
    exact ⟨he, rfl, hh⟩
  · refine c_skip ?_
    refine xtn ?_
    refine c_seq ?_
    have he : refF x y.bs = 0 := by simpa using h2
    obtain ⟨hy4, hbk⟩ := refF_zero he
    refine c_region ?_
    iterate 2 (refine sq S ?_; clear S; intro a S)
    refine sr S (sectors_c (y.bs.length : Int) _) ?_; clear S; rintro _ a w rfl S
    rw [secF_nat _ hy4] at S
    refine sq S ?_; clear S; intro a S
    refine wl_nil ?_
    refine xtn ?_
    iterate 2 (refine c_seq ?_)
    refine c_drawD [(0, true), (1, true), (2, true), (3, true), (4, true), (5, true), (6, true), (7, true), (8, true), (9, true), (10, true), (11, true)] [] S ?_; clear S; intro w S
    iterate 12 (refine dq S ?_; clear S; intro a S)
    refine dn ?_
    refine xtn ?_
    refine c_cond S (fun h5 => ?_) (fun h5 => ?_)
    · refine c_seq ?_
      refine c_region ?_
      refine sw S ?_; clear S; intro a w S
      refine wl_nil ?_
      refine xtn ?_
      refine c_ret ?_
      refine xtr ?_
      have hro : x.n - x.fin < secN y.bs.length := by
        have := of_decide_eq_true h5
        rw [w64 _ (by omega) (by omega)] at this; omega
      have hR : roomF x y.bs = 6 := by rw [roomF, if_pos he, if_pos hro]
      have hh := St.hold4 (S.sub [Wk.box g 134 (cWal b q e x), Wk.row 25 1 q x.said.length e (encL x.said), entI x.said, dkI b m p c s] []) rfl rfl rfl rfl
      refine endD1 S (.inl ?_)
      rw [hR]
      exact ⟨by decide, rfl, hh⟩
    · refine c_skip ?_
      refine xtn ?_
      refine c_seq ?_
      have hro : ¬ x.n - x.fin < secN y.bs.length := by
        have := of_decide_eq_false h5
        rw [w64 _ (by omega) (by omega)] at this; omega
      refine c_region ?_
      refine sq S ?_; clear S; intro a S
      refine sdefc S ?_; clear S; intro a S
      refine wl_nil ?_
      refine xtn ?_
      refine c_seq ?_
      refine c_region ?_
      refine sq S ?_; clear S; intro a S
      replace S := S.addNil 5 1
      refine sap S (by simp only [maxLen]; omega) (by omega) ?_; clear S; rintro p8 c8 a w - S
      rw [show ([] : List Value) ++ encL y.bs = encL y.bs from rfl, Nat.zero_add] at S
      have hc8 := own_le (S.row p8 y.bs.length)
      replace S := St.rowEnt S ⟨p8, c8, y.bs⟩ (S.row p8 y.bs.length)
      obtain ⟨y', hy'⟩ : ∃ y' : LBy, y' = ⟨p8, c8, y.bs⟩ := ⟨_, rfl⟩
      rw [← hy'] at S
      obtain ⟨R, hR⟩ : ∃ R, R = layF s ((fromN x.n x.turn + x.fin : Nat) : Int) (leavesF x.turn (x.said.length : Int) y.bs) := ⟨_, rfl⟩
      have hro0 : roomF x y.bs = 0 := by rw [roomF, if_pos he, if_neg hro]
      have hll : (leavesF x.turn (x.said.length : Int) y.bs).length ≤ 834 := by rw [leavesF_len]; exact secN_le _ hy4
      refine sq S ?_; clear S; intro a S
      refine wl_nil ?_
      refine xtn ?_
      iterate 2 (refine c_seq ?_)
      refine c_drawL 29 [(0, true), (1, true), (2, true), (3, true), (4, true), (5, true), (6, true), (7, true), (8, true), (10, true), (11, true), (12, true), (13, true), (15, true), (16, true), (17, true), (18, true), (19, true), (20, true), (21, true), (22, true), (23, true), (24, true), (25, true), (26, true), (9, false), (14, true), (27, false), (28, false), (29, false)] [Wk.box g 134 (cWal b q e x)] S ?_; clear S; intro w S
      iterate 24 (refine dqL S ?_; clear S; intro a S)
      rw [wu32 (x.said.length : Int) (by omega) (by omega)] at S
      refine dqL S ?_; clear S; intro a S
      refine dlL ?_
      refine sr S (from_c b x.n x.turn hn ht _) ?_; clear S; rintro _ a w rfl S
      refine deL S ?_
      refine dqL S ?_; clear S; intro a S
      rw [show IntKind.i64.wrap ((fromN x.n x.turn : Int) + (x.fin : Int)) = ((fromN x.n x.turn + x.fin : Nat) : Int) from by rw [w64 _ (by omega) (by omega)]; rfl] at S
      refine dlL ?_
      have hlt := foots_lt S
      refine sr S (leaves_f x.turn (x.said.length : Int) p8 y.bs.length c8 _) ?_; clear S; rintro _ a w ⟨h0, h1, h2', rfl, ⟨n0, n1, n2⟩, e0, e1, e2⟩ S
      replace S := S.add (Φ := BoxF h0 25 [.slice p8 y.bs.length c8]) (BoxF.stable e0 (fun hm => by have := hlt _ hm; omega))
      replace S := S.add (Φ := BoxF h1 130 [.int .u32 x.turn]) (BoxF.stable e1 (fun hm => by have := hlt _ hm; omega))
      replace S := S.add (Φ := BoxF h2' 130 [.int .u32 (x.said.length : Int)]) (BoxF.stable e2 (fun hm => by have := hlt _ hm; omega))
      refine deL S ?_
      refine dlL ?_
      have hgl : Stable (dkI b m p c s).foot w (GlF y'.p y'.bs) := St.entGl S (fun k hk hk2 => St.apart2 S (entI [y']) (dkI b m p c s) k hk hk2) (by simp)
      rw [hy'] at hgl
      refine sit (dkI b m p c s) S (lay_c 177 [.pointer (some ⟨h0, 0, none⟩), .pointer (some ⟨h1, 0, none⟩), .pointer (some ⟨h2', 0, none⟩)] (leavesF x.turn (x.said.length : Int) y.bs) b m p c s (fromN x.n x.turn + x.fin) [GlF p8 y.bs, BoxF h2' 130 [.int .u32 (x.said.length : Int)], BoxF h1 130 [.int .u32 x.turn], BoxF h0 25 [.slice p8 y.bs.length c8]] _ (by omega) (by omega) (S.it (dkI b m p c s)) (fun Φ hΦ => by
        rcases List.mem_cons.1 hΦ with rfl | hΦ
        · exact hgl
        · exact S.lend (dkI b m p c s) (S.wd.facts Φ (List.mem_append_left _ hΦ))) (fun M w1 hM hF => leaves_it x.turn (x.said.length : Int) ht (by omega) h0 h1 h2' y.bs p8 c8 hy4 hc8 w1 M hM (hF _ (by simp)) (hF _ (by simp)) (hF _ (by simp)) (hF _ (by simp)))) rfl ?_; clear S hgl; rintro _ a w ⟨rfl, p2, c2, hh, hn2⟩ hS
      have S := hS (dkI b m p2 c2 (layF s ((fromN x.n x.turn + x.fin : Nat) : Int) (leavesF x.turn (x.said.length : Int) y.bs)).1) hh hn2
      clear hS
      rw [← hR] at S
      refine deL S ?_
      refine dlL ?_
      refine sw S ?_; clear S; intro a w S
      refine dzL ?_
      refine xtn ?_
      refine c_seq ?_
      refine c_region ?_
      iterate 2 (refine sq S ?_; clear S; intro a S)
      refine wl_nil ?_
      refine xtn ?_
      refine c_cond S (fun h10 => ?_) (fun h10 => ?_)
      · refine c_seq ?_
        have hR2 : R.2 = 0 := of_decide_eq_true h10
        obtain ⟨gq, cur, hq, -⟩ := own_cells (S.row q x.said.length) hs0
        have hLe : LeC x.said.length e := ⟨hsl.2⟩
        have hLl : LeC x.said.length x.said.length := ⟨Nat.le_refl _⟩
        have hL0 : LeC 0 x.said.length := ⟨Nat.zero_le _⟩
        subst hq
        refine c_drawL 21 [(0, true), (1, true), (2, true), (3, true), (4, true), (5, true), (6, true), (7, true), (8, true), (9, true), (10, true), (11, true), (12, true), (13, true), (14, true), (15, true), (16, true), (17, false), (18, false), (19, false), (20, true), (21, false)] [Wk.box g 134 (cWal b (some ⟨gq, 0, none⟩) e x)] S ?_; clear S; intro w S
        iterate 17 (refine dqL S ?_; clear S; intro a S)
        refine dlL ?_
        refine sn S ?_; clear S; intro b80 a w S
        refine deL S ?_
        refine dlL ?_
        have hrow := S.row (some ⟨gq, 0, none⟩) x.said.length
        refine sapG ⟨gq, 0, none⟩ x.said.length (encL x.said) S (by rw [encL_len]; rfl) (fun j u hj => (own_sl hrow).2 _ rfl j u hj) (by omega) (by simp only [maxLen]; omega) (by omega) ?_
        clear S; intro g2 c2' a w S
        rw [show encL x.said ++ [.slice p8 y.bs.length c8] = encL (x.said ++ [y']) from by rw [hy', encL_append]; rfl] at S
        refine deL S ?_
        refine dlL ?_
        refine sq S ?_; clear S; intro a S
        refine deL S ?_
        refine dqL S ?_; clear S; intro a S
        refine dlL ?_
        refine sw S ?_; clear S; intro a w S
        refine dzL ?_
        refine xtn ?_
        refine c_region ?_
        iterate 6 (refine sq S ?_; clear S; intro a S)
        rw [show IntKind.i64.wrap ((x.fin : Int) + (secN y.bs.length : Int)) = ((x.fin + secN y.bs.length : Nat) : Int) from by rw [w64 _ (by omega) (by omega)]; rfl] at S
        iterate 2 (refine sq S ?_; clear S; intro a S)
        refine sw S ?_; clear S; intro a w S
        refine wl_nil ?_
        refine xtn ?_
        refine c_seq ?_
        refine c_region ?_
        refine sq S ?_; clear S; intro a S
        refine sw S ?_; clear S; intro a w S
        refine wl_nil ?_
        refine xtn ?_
        refine c_ret ?_
        obtain ⟨x', hx'⟩ : ∃ x' : WS, x' = { x with said := x.said ++ [y'], fin := x.fin + secN y.bs.length } := ⟨_, rfl⟩
        have hya : y'.bs = y.bs := by rw [hy']
        have hap : appS x y' R.2 = x' := by rw [appS, if_pos hR2, hx', hya]
        have hbr : brkF x' R.2 = x' := by rw [brkF, hR2]; simp
        replace S := S.sub [Wk.row 25 1 (some ⟨g2, 0, none⟩) (x.said.length + 1) c2' (encL (x.said ++ [y'])), entI [y'], Wk.box b4 26 [.int .i64 R.2], Wk.box g 134 [.pointer (some ⟨b, 0, none⟩), .int .i64 (x.n : Int), .int .u32 x.turn, .slice (some ⟨g2, 0, none⟩) (x.said.length + 1) c2', .int .i64 ((x.fin + secN y.bs.length : Nat) : Int), .bool x.broken], entI x.said, dkI b m p2 c2 R.1] []
        replace S := S.front (entI x.said)
        replace S := S.front (entI [y'])
        replace S := St.entAdd S
        rw [show x.said.length + 1 = x'.said.length from by rw [hx']; simp] at S
        replace S := St.items S (bs' := [entI x'.said, Wk.row 25 1 (some ⟨g2, 0, none⟩) x'.said.length c2' (encL x'.said), Wk.box b4 26 [.int .i64 R.2], Wk.box g 134 (cWal b (some ⟨g2, 0, none⟩) c2' x'), dkI b m p2 c2 R.1]) (by rw [hx'])
        have hc2 := own_le (S.row (some ⟨g2, 0, none⟩) x'.said.length)
        have hne : ¬ b4 = g := St.apart2 S (Wk.box b4 26 [.int .i64 R.2]) (Wk.box g 134 (cWal b (some ⟨g2, 0, none⟩) c2' x')) b4 rfl
        refine endDef1 (Wk.box g 134 (cWal b (some ⟨g2, 0, none⟩) c2' x')) (Wk.box g 134 (cWal b (some ⟨g2, 0, none⟩) c2' (brkF x' R.2))) S rfl ((breaks_d g b4 b (some ⟨g2, 0, none⟩) c2' x' R.2 .returning w (S.box g) (BoxF.stable (S.boxF b4) hne)).mono fun _ _ _ h => h) (fun _ h => h) (fun w' hwd => ?_)
        rw [hbr] at hwd
        have S2 := (St.ofWd hwd).sub [entI x'.said, Wk.row 25 1 (some ⟨g2, 0, none⟩) x'.said.length c2' (encL x'.said), Wk.box g 134 (cWal b (some ⟨g2, 0, none⟩) c2' x'), dkI b m p2 c2 R.1] []
        have S3 := S2.perm [Wk.box g 134 (cWal b (some ⟨g2, 0, none⟩) c2' x'), Wk.row 25 1 (some ⟨g2, 0, none⟩) x'.said.length c2' (encL x'.said), entI x'.said, dkI b m p2 c2 R.1] (((List.Perm.swap _ _ _).trans ((List.Perm.cons _ (List.Perm.swap _ _ _)))).trans (List.Perm.swap _ _ _))
        have hh := St.hold4 S3 rfl rfl rfl rfl
        have h1 := St.new4 S3 rfl rfl rfl rfl
        refine .inr ⟨hro0, by rw [hR], p2, c2, some ⟨g2, 0, none⟩, c2', y', hya, by rw [hx'] at hc2; simp at hc2; omega, ?_⟩
        rw [← hR, hap]
        exact ⟨hh, h1⟩
      · refine c_skip ?_
        refine xtn ?_
        refine c_seq ?_
        refine c_region ?_
        refine sq S ?_; clear S; intro a S
        refine sw S ?_; clear S; intro a w S
        refine wl_nil ?_
        refine xtn ?_
        refine c_ret ?_
        have hR2 : R.2 ≠ 0 := of_decide_eq_false h10
        have hap : appS x y' R.2 = { x with broken := true } := by rw [appS, if_neg hR2]
        have hbr : brkF x R.2 = { x with broken := true } := by simp [brkF, hR2]
        have S := S.sub [Wk.box b4 26 [.int .i64 R.2], Wk.box g 134 (cWal b q e x), Wk.row 25 1 q x.said.length e (encL x.said), entI x.said, dkI b m p2 c2 R.1] []
        have hne : ¬ b4 = g := St.apart2 S (Wk.box b4 26 [.int .i64 R.2]) (Wk.box g 134 (cWal b q e x)) b4 rfl
        refine endDef1 (Wk.box g 134 (cWal b q e x)) (Wk.box g 134 (cWal b q e (brkF x R.2))) S rfl ((breaks_d g b4 b q e x R.2 .returning w (S.box g) (BoxF.stable (S.boxF b4) hne)).mono fun _ _ _ h => h) (fun _ h => h) (fun w' hwd => ?_)
        rw [hbr] at hwd
        have S3 := (St.ofWd hwd).sub [Wk.box g 134 (cWal b q e { x with broken := true }), Wk.row 25 1 q x.said.length e (encL x.said), entI x.said, dkI b m p2 c2 R.1] []
        have hh := St.hold4 S3 rfl rfl rfl rfl
        have h1 := St.new4 S3 rfl rfl rfl rfl
        refine .inr ⟨hro0, by rw [hR], p2, c2, q, e, y', by rw [hy'], hsl.2, ?_⟩
        rw [← hR, hap]
        exact ⟨hh, h1⟩
end Go.Proofs.YtdakncgafdnjfaaGreat

/- Package wal: Checkpoint. -/
namespace Go.Proofs.YtdakncgafdnjfaaGreat
open Go Go.Wk
set_option synthInstance.maxSize 100000
set_option synthInstance.maxHeartbeats 400000
set_option maxRecDepth 100000

theorem upT_range (t : Int) : 0 ≤ upT t ∧ upT t ≤ 4294967295 := by
  unfold upT IntKind.wrap
  simp only [IntKind.bits, IntKind.signed, Bool.false_and]
  simp; omega
/-- why bytes are not taken down as a checkpoint. -/
def roomC (x : WS) (bs : List UInt8) : Int := if refF x bs = 0 then (if x.n < secN bs.length ∨ upT x.turn = 0 then 6 else 0) else refF x bs
/-- a log behind a checkpoint. -/
def chkS (x : WS) (y : LBy) (r : Int) : WS := if r = 0 then { x with turn := upT x.turn, said := [y], fin := secN y.bs.length } else { x with broken := true }
theorem chk_c (g b m : Nat) (p : Option Addr) (c : Nat) (s : DS) (q : Option Addr) (e : Nat) (x : WS) (y : LBy) (w0 : World) (hn : x.n ≤ 1000) (_ht : 0 ≤ x.turn ∧ x.turn ≤ 4294967295) (hyl : y.bs.length ≤ 10000000) (hl : s.loose.length ≤ 980000)
    (hd : (both (dkI b m p c s) (walI g b q e x)).holds w0) (f0 : Stable (both (dkI b m p c s) (walI g b q e x)).foot w0 (GlF y.p y.bs)) :
    Ret Tryz.prog 19 [.pointer (some ⟨g, 0, none⟩), .slice y.p y.bs.length y.c] w0 (both (dkI b m p c s) (walI g b q e x)).foot fun v w' =>
      (roomC x y.bs ≠ 0 ∧ v = .int .i64 (roomC x y.bs) ∧ (both (dkI b m p c s) (walI g b q e x)).holds w') ∨
      (roomC x y.bs = 0 ∧ v = .int .i64 (begF x.n (upT x.turn) y.bs s).2 ∧ ∃ p' c' q' e', ∃ y' : LBy, y'.bs = y.bs ∧ ((begF x.n (upT x.turn) y.bs s).2 ≠ 0 → q' = q ∧ e' = e) ∧ ((begF x.n (upT x.turn) y.bs s).2 = 0 → 1 ≤ e') ∧
        (both (dkI b m p' c' (begF x.n (upT x.turn) y.bs s).1) (walI g b q' e' (chkS x y' (begF x.n (upT x.turn) y.bs s).2))).holds w' ∧
        ∀ k, (both (dkI b m p' c' (begF x.n (upT x.turn) y.bs s).1) (walI g b q' e' (chkS x y' (begF x.n (upT x.turn) y.bs s).2))).foot k → (both (dkI b m p c s) (walI g b q e x)).foot k ∨ w0.heap.size ≤ k) := by
  have hut := upT_range x.turn
  refine enterD Tryz.func19 rfl rfl (Wd.it2Lent (x := dkI b m p c s) (y := walI g b q e x) (fs := [GlF y.p y.bs]) hd rfl rfl (by intro Φ hΦ; obtain rfl := List.mem_singleton.1 hΦ; exact f0)) (fun a S => ?_)
  simp only [Tryz.ntmps19, List.length_cons, List.length_nil, Nat.reduceAdd, Nat.reduceSub, List.replicate_succ, List.replicate_zero, List.cons_append, List.nil_append] at S
  replace S := S.front (walI g b q e x)
  replace S := St.open3 S
  refine c_seq ?_
  refine c_region ?_
  refine sa S ?_; clear S; intro b4 a w S
  refine wl_nil ?_
  refine xtn ?_
  iterate 2 (refine c_seq ?_)
  refine c_region ?_
  iterate 2 (refine sq S ?_; clear S; intro a S)
  refine sr S (refuses_c g b q e x y _ (BoxF.stable (S.boxF g) (fun h => h))) ?_; clear S; rintro _ a w rfl S
  refine sq S ?_; clear S; intro a S
  refine wl_nil ?_
  refine xtn ?_
  refine c_seq ?_
  refine c_region ?_
  iterate 2 (refine sq S ?_; clear S; intro a S)
  refine wl_nil ?_
  refine xtn ?_
  refine c_cond S (fun h2 => ?_) (fun h2 => ?_)
  · refine c_seq ?_
    refine c_region ?_
    refine sq S ?_; clear S; intro a S
    refine sw S ?_; clear S; intro a w S
    refine wl_nil ?_
    refine xtn ?_
    refine c_ret ?_
    refine xtr ?_
    have he : refF x y.bs ≠ 0 := by simpa using h2
    have hR : roomC x y.bs = refF x y.bs := by rw [roomC, if_neg he]
    have hh := St.hold4 (S.sub [Wk.box g 134 (cWal b q e x), Wk.row 25 1 q x.said.length e (encL x.said), entI x.said, dkI b m p c s] []) rfl rfl rfl rfl
    refine endD1 S (.inl ?_)
    rw [hR]
    exact ⟨he, rfl, hh⟩
  · refine c_skip ?_
    refine xtn ?_
    refine c_seq ?_
    have he : refF x y.bs = 0 := by simpa using h2
    obtain ⟨hy4, hbk⟩ := refF_zero he
    refine c_region ?_
    iterate 2 (refine sq S ?_; clear S; intro a S)
    refine sr S (sectors_c (y.bs.length : Int) _) ?_; clear S; rintro _ a w rfl S
    rw [secF_nat _ hy4] at S
    refine sq S ?_; clear S; intro a S
    refine wl_nil ?_
    refine xtn ?_
    iterate 2 (refine c_seq ?_)
    refine c_region ?_
    iterate 8 (refine sq S ?_; clear S; intro a S)
    iterate 7 (refine gQ S ?_; clear S; intro a S)
    refine sq S ?_; clear S; intro a S
    refine wl_nil ?_
    refine xtn ?_
    refine c_cond S (fun h5 => ?_) (fun h5 => ?_)
    · refine c_seq ?_
      refine c_region ?_
      refine sw S ?_; clear S; intro a w S
      refine wl_nil ?_
      refine xtn ?_
      refine c_ret ?_
      refine xtr ?_
      have hro : x.n < secN y.bs.length ∨ upT x.turn = 0 := by
        rw [show IntKind.u32.wrap (x.turn + 1) = upT x.turn from rfl] at h5
        simp at h5; omega
      have hR : roomC x y.bs = 6 := by rw [roomC, if_pos he, if_pos hro]
      have hh := St.hold4 (S.sub [Wk.box g 134 (cWal b q e x), Wk.row 25 1 q x.said.length e (encL x.said), entI x.said, dkI b m p c s] []) rfl rfl rfl rfl
      refine endD1 S (.inl ?_)
      rw [hR]
      exact ⟨by decide, rfl, hh⟩
    · refine c_skip ?_
      refine xtn ?_
      refine c_seq ?_
      have hro : ¬ (x.n < secN y.bs.length ∨ upT x.turn = 0) := by
        rw [show IntKind.u32.wrap (x.turn + 1) = upT x.turn from rfl] at h5
        simp at h5; omega
      refine c_region ?_
      refine sq S ?_; clear S; intro a S
      refine sdefc S ?_; clear S; intro a S
      refine wl_nil ?_
      refine xtn ?_
      refine c_seq ?_
      refine c_region ?_
      refine sq S ?_; clear S; intro a S
      replace S := S.addNil 5 1
      refine sap S (by simp only [maxLen]; omega) (by omega) ?_; clear S; rintro p8 c8 a w - S
      rw [show ([] : List Value) ++ encL y.bs = encL y.bs from rfl, Nat.zero_add] at S
      have hc8 := own_le (S.row p8 y.bs.length)
      replace S := St.rowEnt S ⟨p8, c8, y.bs⟩ (S.row p8 y.bs.length)
      obtain ⟨y', hy'⟩ : ∃ y' : LBy, y' = ⟨p8, c8, y.bs⟩ := ⟨_, rfl⟩
      rw [← hy'] at S
      obtain ⟨R, hR⟩ : ∃ R, R = begF x.n (upT x.turn) y.bs s := ⟨_, rfl⟩
      have hro0 : roomC x y.bs = 0 := by rw [roomC, if_pos he, if_neg hro]
      refine sq S ?_; clear S; intro a S
      refine wl_nil ?_
      refine xtn ?_
      refine c_seq ?_
      refine c_region ?_
      iterate 4 (refine sq S ?_; clear S; intro a S)
      refine sr S (next_c b x.n x.turn _) ?_; clear S; rintro _ a w rfl S
      refine sa S ?_; clear S; intro b8 a w S
      refine sw S ?_; clear S; intro a w S
      refine wl_nil ?_
      refine xtn ?_
      iterate 2 (refine c_seq ?_)
      refine c_region ?_
      iterate 2 (refine sq S ?_; clear S; intro a S)
      have hgl : Stable (dkI b m p c s).foot w (GlF y'.p y'.bs) := St.entGl S (fun k hk hk2 => St.apart2 S (entI [y']) (dkI b m p c s) k hk hk2) (by simp)
      rw [hy'] at hgl
      refine sit (dkI b m p c s) S (begin_c b m x.n p c s (upT x.turn) y.bs p8 c8 _ hn hut hy4 hc8 (by omega) (S.it (dkI b m p c s)) hgl) rfl ?_; clear S hgl; rintro _ a w ⟨rfl, p2, c2, hh, hn2⟩ hS
      have S := hS (dkI b m p2 c2 (begF x.n (upT x.turn) y.bs s).1) hh hn2
      clear hS
      rw [← hR] at S
      refine sw S ?_; clear S; intro a w S
      refine wl_nil ?_
      refine xtn ?_
      refine c_seq ?_
      refine c_region ?_
      iterate 2 (refine sq S ?_; clear S; intro a S)
      refine wl_nil ?_
      refine xtn ?_
      refine c_cond S (fun h11 => ?_) (fun h11 => ?_)
      · refine c_region ?_
        iterate 5 (refine sq S ?_; clear S; intro a S)
        refine sn S ?_; clear S; intro b52 a w S
        iterate 3 (refine sq S ?_; clear S; intro a S)
        refine sw S ?_; clear S; intro a w S
        iterate 2 (refine sq S ?_; clear S; intro a S)
        refine sw S ?_; clear S; intro a w S
        iterate 2 (refine sq S ?_; clear S; intro a S)
        refine sw S ?_; clear S; intro a w S
        refine wl_nil ?_
        refine xtn ?_
        refine c_seq ?_
        refine c_region ?_
        refine sq S ?_; clear S; intro a S
        refine sw S ?_; clear S; intro a w S
        refine wl_nil ?_
        refine xtn ?_
        refine c_ret ?_
        have hR2 : R.2 = 0 := of_decide_eq_true h11
        obtain ⟨x', hx'⟩ : ∃ x' : WS, x' = { x with turn := upT x.turn, said := [y'], fin := secN y.bs.length } := ⟨_, rfl⟩
        have hya : y'.bs = y.bs := by rw [hy']
        have hap : chkS x y' R.2 = x' := by rw [chkS, if_pos hR2, hx', hya]
        have hbr : brkF x' R.2 = x' := by rw [brkF, hR2]; simp
        replace S := S.boxRow b52 1 1 rfl (by decide)
        replace S := S.sub [Wk.row 25 1 (some ⟨b52, 0, none⟩) 1 1 [.slice p8 y.bs.length c8], entI [y'], Wk.box b4 26 [.int .i64 R.2], Wk.box g 134 [.pointer (some ⟨b, 0, none⟩), .int .i64 (x.n : Int), .int .u32 (upT x.turn), .slice (some ⟨b52, 0, none⟩) 1 1, .int .i64 (secN y.bs.length : Int), .bool x.broken], dkI b m p2 c2 R.1] []
        replace S := St.items S (bs' := [Wk.row 25 1 (some ⟨b52, 0, none⟩) x'.said.length 1 (encL x'.said), entI x'.said, Wk.box b4 26 [.int .i64 R.2], Wk.box g 134 (cWal b (some ⟨b52, 0, none⟩) 1 x'), dkI b m p2 c2 R.1]) (by rw [hx', hy']; rfl)
        have hne : ¬ b4 = g := St.apart2 S (Wk.box b4 26 [.int .i64 R.2]) (Wk.box g 134 (cWal b (some ⟨b52, 0, none⟩) 1 x')) b4 rfl
        refine endDef1 (Wk.box g 134 (cWal b (some ⟨b52, 0, none⟩) 1 x')) (Wk.box g 134 (cWal b (some ⟨b52, 0, none⟩) 1 (brkF x' R.2))) S rfl ((breaks_d g b4 b (some ⟨b52, 0, none⟩) 1 x' R.2 .returning w (S.box g) (BoxF.stable (S.boxF b4) hne)).mono fun _ _ _ h => h) (fun _ h => h) (fun w' hwd => ?_)
        rw [hbr] at hwd
        have S2 := (St.ofWd hwd).sub [Wk.row 25 1 (some ⟨b52, 0, none⟩) x'.said.length 1 (encL x'.said), entI x'.said, Wk.box g 134 (cWal b (some ⟨b52, 0, none⟩) 1 x'), dkI b m p2 c2 R.1] []
        have S3 := S2.perm [Wk.box g 134 (cWal b (some ⟨b52, 0, none⟩) 1 x'), Wk.row 25 1 (some ⟨b52, 0, none⟩) x'.said.length 1 (encL x'.said), entI x'.said, dkI b m p2 c2 R.1] ((List.Perm.swap _ _ _).trans (List.Perm.cons _ (List.Perm.swap _ _ _)))
        have hh := St.hold4 S3 rfl rfl rfl rfl
        have h1 := St.new4 S3 rfl rfl rfl rfl
        refine .inr ⟨hro0, by rw [hR], p2, c2, some ⟨b52, 0, none⟩, 1, y', hya, fun h => absurd (hR ▸ hR2) h, fun _ => Nat.le_refl _, ?_⟩
        rw [← hR, hap]
        exact ⟨hh, h1⟩
      · refine c_skip ?_
        refine xtn ?_
        refine c_seq ?_
        refine c_region ?_
        refine sq S ?_; clear S; intro a S
        refine sw S ?_; clear S; intro a w S
        refine wl_nil ?_
        refine xtn ?_
        refine c_ret ?_
        have hR2 : R.2 ≠ 0 := of_decide_eq_false h11
        have hap : chkS x y' R.2 = { x with broken := true } := by rw [chkS, if_neg hR2]
        have hbr : brkF x R.2 = { x with broken := true } := by simp [brkF, hR2]
        have S := S.sub [Wk.box b4 26 [.int .i64 R.2], Wk.box g 134 (cWal b q e x), Wk.row 25 1 q x.said.length e (encL x.said), entI x.said, dkI b m p2 c2 R.1] []
        have hne : ¬ b4 = g := St.apart2 S (Wk.box b4 26 [.int .i64 R.2]) (Wk.box g 134 (cWal b q e x)) b4 rfl
        refine endDef1 (Wk.box g 134 (cWal b q e x)) (Wk.box g 134 (cWal b q e (brkF x R.2))) S rfl ((breaks_d g b4 b q e x R.2 .returning w (S.box g) (BoxF.stable (S.boxF b4) hne)).mono fun _ _ _ h => h) (fun _ h => h) (fun w' hwd => ?_)
        rw [hbr] at hwd
        have S3 := (St.ofWd hwd).sub [Wk.box g 134 (cWal b q e { x with broken := true }), Wk.row 25 1 q x.said.length e (encL x.said), entI x.said, dkI b m p2 c2 R.1] []
        have hh := St.hold4 S3 rfl rfl rfl rfl
        have h1 := St.new4 S3 rfl rfl rfl rfl
        refine .inr ⟨hro0, by rw [hR], p2, c2, q, e, y', by rw [hy'], fun _ => ⟨rfl, rfl⟩, fun h => absurd h (by rw [← hR]; exact hR2), ?_⟩
        rw [← hR, hap]
        exact ⟨hh, h1⟩
end Go.Proofs.YtdakncgafdnjfaaGreat

/- Disks in plain words: what they hold, behind writes, a sync, a crash. -/
namespace Go.Proofs.YtdakncgafdnjfaaGreat
open Go Go.Wk
set_option maxRecDepth 100000

theorem getB_put (k u : Int) (v : Blk) : ∀ f, getB k (putB u v f) = if k = u then some v else getB k f
  | [] => by simp [putB, getB]
  | (w, x) :: f => by
    rw [putB]
    split
    · rename_i h
      subst h
      rw [getB, getB]
      split <;> rfl
    · rename_i h
      rw [getB, getB, getB_put k u v f]
      by_cases hw : k = w
      · subst hw; rw [if_pos rfl, if_pos rfl, if_neg (fun e => h e.symm)]
      · rw [if_neg hw, if_neg hw]
theorem findB_snoc (k : Int) (x : LWr) : ∀ l, findB k (l ++ [x]) = (if x.at_ = k then some x.b else none).or (findB k l)
  | [] => by simp [findB]
  | y :: l => by rw [List.cons_append, findB, findB_snoc k x l, findB, Option.or_assoc]
theorem settle_all (j : Int) (l : List LWr) (f : List (Int × Blk)) : ∀ k, k ≤ l.length → getB j (settleK (fun _ => true) l f k) = (findB j (l.take k)).or (getB j f)
  | 0, _ => by rw [settleK, List.take_zero, findB, Option.none_or]
  | k + 1, h => by
    rw [settleK, if_pos rfl, getB_put, take_snocW (by omega), findB_snoc, settle_all j l f k (by omega)]
    by_cases e : j = (nthG l k).at_
    · rw [if_pos e, if_pos e.symm]; rfl
    · rw [if_neg e, if_neg (fun h => e h.symm)]; rfl
theorem settle_any (j : Int) (st : Nat → Bool) (l : List LWr) (f : List (Int × Blk)) : ∀ k, k ≤ l.length → getB j (settleK st l f k) = getB j f ∨ ∃ x ∈ l, x.at_ = j ∧ getB j (settleK st l f k) = some x.b
  | 0, _ => .inl rfl
  | k + 1, h => by
    rw [settleK]
    split
    · rw [getB_put]
      by_cases e : j = (nthG l k).at_
      · rw [if_pos e]; exact .inr ⟨nthG l k, nthG_mem (by omega), e.symm, rfl⟩
      · rw [if_neg e]; exact settle_any j st l f k (by omega)
    · exact settle_any j st l f k (by omega)
theorem holds_firm {s : DS} (h : s.loose = []) (k : Int) : holdsF s k = (getB k s.firm).getD zB := by rw [holdsF, h, findB, Option.none_or]
/-- a disk with power, where nothing is to fail. -/
structure Up (s : DS) : Prop where
  on : s.out = false
  fit : s.fails.on = false
/-- does the power go now? -/
def hit (s : DS) : Bool := (metF s.arms).1
theorem met_off {c : Cnt} (h : c.on = false) : metF c = (false, c) := by rw [metF, if_neg (by rw [h]; exact Bool.false_ne_true)]
theorem hit_off {s : DS} (h : s.arms.on = false) : hit s = false := by rw [hit, met_off h]
theorem ask_up {s : DS} (h : Up s) {k : Int} (hk : 0 ≤ k ∧ k < s.size) (b : Bool) : askE s k b = if b && hit s then 9 else 0 := by
  rw [askE, if_neg (by rw [h.on]; exact Bool.false_ne_true), if_neg (by omega), met_off h.fit, if_neg (by exact Bool.false_ne_true)]; rfl
theorem rd_up {s : DS} (h : Up s) {k : Int} (hk : 0 ≤ k ∧ k < s.size) : askE s k false = 0 ∧ rdB s k = holdsF s k ∧ rdD s k = opD s := by
  have h1 : askE s k false = 0 := by rw [ask_up h hk]; rfl
  refine ⟨h1, by rw [rdB, if_pos h1], ?_⟩
  rw [rdD, if_pos h1, askD, if_neg (by rw [h.on]; exact Bool.false_ne_true), if_neg (by omega), met_off h.fit, if_neg (by exact Bool.false_ne_true), if_neg (by exact Bool.false_ne_true)]
theorem askD_up {s : DS} (h : Up s) {k : Int} (hk : 0 ≤ k ∧ k < s.size) : askD s k true = if hit s then { s with arms := (metF s.arms).2, out := true } else { s with arms := (metF s.arms).2 } := by
  rw [askD, if_neg (by rw [h.on]; exact Bool.false_ne_true), if_neg (by omega), met_off h.fit, if_neg (by exact Bool.false_ne_true), if_pos rfl]
  rfl
theorem asked_up {s : DS} (h : Up s) {k : Int} (hk : 0 ≤ k ∧ k < s.size) (g : DS → DS) : (hit s = false ∧ askE s k true = 0 ∧ askedD g s k = opD (g { s with arms := (metF s.arms).2 })) ∨ (hit s = true ∧ askE s k true = 9 ∧ askedD g s k = { s with arms := (metF s.arms).2, out := true }) := by
  have h1 := ask_up h hk true
  have h2 := askD_up h hk
  cases hh : hit s with
  | false =>
    rw [hh] at h1 h2
    replace h1 : askE s k true = 0 := h1
    refine .inl ⟨rfl, h1, ?_⟩
    rw [askedD, if_pos h1, h2]; rfl
  | true =>
    rw [hh] at h1 h2
    replace h1 : askE s k true = 9 := h1
    refine .inr ⟨rfl, h1, ?_⟩
    rw [askedD, if_neg (by rw [h1]; decide), h2]; rfl
theorem met_stays {c : Cnt} (h : c.on = false) : (metF c).2.on = false := by rw [met_off h]; exact h
/-- what a disk holds, and how large it is. -/
structure Alike (s s' : DS) : Prop where
  size : s'.size = s.size
  fails : s'.fails = s.fails
  firm : s'.firm = s.firm
/-- writes, one behind the other. -/
def wrs : Nat → List Blk → List LWr
  | _, [] => []
  | k, x :: xs => ⟨(k : Int), x⟩ :: wrs (k + 1) xs
theorem wrs_mem : ∀ {xs : List Blk} {k : Nat} {y : LWr}, y ∈ wrs k xs → ∃ i, y.at_ = ((k + i : Nat) : Int) ∧ xs[i]? = some y.b
  | [], _, _, h => by cases h
  | x :: xs, k, y, h => by
    rw [wrs] at h
    rcases List.mem_cons.1 h with rfl | h
    · exact ⟨0, rfl, rfl⟩
    · obtain ⟨i, h1, h2⟩ := wrs_mem h
      exact ⟨i + 1, by rw [h1]; congr 1; omega, by simpa using h2⟩
theorem wrs_find : ∀ (xs : List Blk) (k : Nat) (j : Int), findB j (wrs k xs) = if (k : Int) ≤ j ∧ j < ((k + xs.length : Nat) : Int) then xs[(j - k).toNat]? else none
  | [], k, j => by rw [wrs, findB, if_neg (by simp only [List.length_nil]; omega)]
  | x :: xs, k, j => by
    rw [wrs, findB, wrs_find xs (k + 1) j]
    by_cases h1 : j = (k : Int)
    · subst h1
      rw [if_neg (by omega), if_pos rfl, if_pos (by simp only [List.length_cons]; omega), Int.sub_self]; rfl
    · rw [if_neg (show ¬ ((⟨(k : Int), x⟩ : LWr).at_ = j) from fun e => h1 e.symm), Option.or_none]
      by_cases h2 : (k : Int) ≤ j ∧ j < ((k + (x :: xs).length : Nat) : Int)
      · rw [if_pos h2, if_pos (by simp only [List.length_cons] at h2; omega)]
        have : (j - (k : Int)).toNat = (j - ((k + 1 : Nat) : Int)).toNat + 1 := by omega
        rw [this, List.getElem?_cons_succ]
      · rw [if_neg h2, if_neg (by simp only [List.length_cons] at h2; omega)]
/-- blocks are laid: all of them, or the power goes behind some. -/
theorem lay_w : ∀ (xs : List Blk) (s : DS) (k : Nat), Up s → ((k + xs.length : Nat) : Int) ≤ s.size →
    Alike s (layW s k xs).1 ∧ (((layW s k xs).2 = 0 ∧ (layW s k xs).1.out = false ∧ (layW s k xs).1.loose = s.loose ++ wrs k xs ∧ (s.arms.on = false → (layW s k xs).1.arms.on = false)) ∨
      (s.arms.on = true ∧ (layW s k xs).2 = 9 ∧ (layW s k xs).1.out = true ∧ ∃ i, (layW s k xs).1.loose = s.loose ++ wrs k (xs.take i)))
  | [], s, k, hu, _ => by
    rw [layW]
    exact ⟨⟨rfl, rfl, rfl⟩, .inl ⟨rfl, hu.on, by rw [wrs, List.append_nil], id⟩⟩
  | x :: xs, s, k, hu, hk => by
    simp only [List.length_cons] at hk
    rcases asked_up hu (k := (k : Int)) (by omega) (fun s => writeD s k x) with ⟨h1, h2, h3⟩ | ⟨h1, h2, h3⟩
    · rw [layW, if_pos h2, show ((k : Int) + 1) = ((k + 1 : Nat) : Int) from rfl]
      have e : wrD s k x = opD (writeD { s with arms := (metF s.arms).2 } k x) := h3
      have hu1 : Up (wrD s k x) := by rw [e]; exact ⟨hu.on, hu.fit⟩
      have hs1 : (wrD s k x).size = s.size := by rw [e]; rfl
      obtain ⟨ha, hc⟩ := lay_w xs (wrD s k x) (k + 1) hu1 (by rw [hs1]; omega)
      refine ⟨⟨ha.size.trans hs1, ha.fails.trans (by rw [e]; rfl), ha.firm.trans (by rw [e]; rfl)⟩, ?_⟩
      have hl : (wrD s k x).loose = s.loose ++ [⟨(k : Int), x⟩] := by rw [e]; rfl
      have harm : s.arms.on = false → (wrD s k x).arms.on = false := fun h => by rw [e]; exact met_stays h
      rcases hc with ⟨c1, c2, c3, c4⟩ | ⟨c0, c1, c2, i, c3⟩
      · exact .inl ⟨c1, c2, by rw [c3, hl, wrs, List.append_assoc]; rfl, fun h => c4 (harm h)⟩
      · refine .inr ⟨?_, c1, c2, i + 1, by rw [c3, hl, List.take_succ_cons, wrs, List.append_assoc]; rfl⟩
        cases hx : s.arms.on with
        | true => rfl
        | false => rw [harm hx] at c0; cases c0
    · rw [layW, if_neg (by rw [h2]; decide)]
      have e : wrD s k x = { s with arms := (metF s.arms).2, out := true } := h3
      refine ⟨by rw [e]; exact ⟨rfl, rfl, rfl⟩, .inr ⟨?_, h2, by rw [e], 0, by rw [e, List.take_zero, wrs, List.append_nil]⟩⟩
      cases hx : s.arms.on with
      | true => rfl
      | false => rw [hit_off hx] at h1; cases h1
/-- behind a sync. -/
theorem sy_up {s : DS} (hu : Up s) (h0 : 0 < s.size) : ((askE s 0 true = 0 ∧ (syD s).out = false ∧ (syD s).loose = [] ∧ (∀ j, holdsF (syD s) j = holdsF s j) ∧ (syD s).size = s.size ∧ (syD s).fails = s.fails ∧ (s.arms.on = false → (syD s).arms.on = false)) ∨
    (s.arms.on = true ∧ askE s 0 true = 9 ∧ (syD s).out = true ∧ (syD s).loose = s.loose ∧ Alike s (syD s))) := by
  rcases asked_up hu (k := 0) (by omega) (settleD fun _ => true) with ⟨h1, h2, h3⟩ | ⟨h1, h2, h3⟩
  · have e : syD s = opD (settleD (fun _ => true) { s with arms := (metF s.arms).2 }) := h3
    refine .inl ⟨h2, by rw [e]; exact hu.on, by rw [e]; rfl, fun j => ?_, by rw [e]; rfl, by rw [e]; rfl, fun h => by rw [e]; exact met_stays h⟩
    rw [holds_firm (by rw [e]; rfl), holdsF, e]
    show (getB j (settleK (fun _ => true) s.loose s.firm s.loose.length)).getD zB = _
    rw [settle_all j s.loose s.firm s.loose.length (Nat.le_refl _), List.take_length]
  · have e : syD s = { s with arms := (metF s.arms).2, out := true } := h3
    refine .inr ⟨?_, h2, by rw [e], by rw [e], by rw [e]; exact ⟨rfl, rfl, rfl⟩⟩
    cases hx : s.arms.on with
    | true => rfl
    | false => rw [hit_off hx] at h1; cases h1
/-- blocks are laid and made firm, or the power goes. -/
theorem lay_f (xs : List Blk) (s : DS) (k : Nat) (hu : Up s) (hl : s.loose = []) (h0 : 0 < s.size) (hk : ((k + xs.length : Nat) : Int) ≤ s.size) :
    ((layF s k xs).2 = 0 ∧ Up (layF s k xs).1 ∧ (layF s k xs).1.loose = [] ∧ (layF s k xs).1.size = s.size ∧ (s.arms.on = false → (layF s k xs).1.arms.on = false) ∧ ∀ j, holdsF (layF s k xs).1 j = (findB j (wrs k xs)).getD (holdsF s j)) ∨
    (s.arms.on = true ∧ (layF s k xs).2 = 9 ∧ (layF s k xs).1.out = true ∧ Alike s (layF s k xs).1 ∧ ∃ i, (layF s k xs).1.loose = wrs k (xs.take i)) := by
  obtain ⟨ha, hc⟩ := lay_w xs s k hu hk
  rw [hl] at hc
  simp only [List.nil_append] at hc
  rcases hc with ⟨c1, c2, c3, c4⟩ | ⟨c0, c1, c2, i, c3⟩
  · have e : layF s k xs = (syD (layW s k xs).1, askE (layW s k xs).1 0 true) := by rw [layF, if_pos c1]
    have hu1 : Up (layW s k xs).1 := ⟨c2, by rw [ha.fails]; exact hu.fit⟩
    rw [e]
    rcases sy_up hu1 (by rw [ha.size]; exact h0) with ⟨d1, d2, d3, d4, d5, d6, d7⟩ | ⟨d0, d1, d2, d3, d4⟩
    · refine .inl ⟨d1, ⟨d2, by rw [d6]; exact hu1.fit⟩, d3, d5.trans ha.size, fun h => d7 (c4 h), fun j => ?_⟩
      show holdsF (syD (layW s k xs).1) j = _
      rw [d4, holdsF, c3, ha.firm, holds_firm hl]
      cases findB j (wrs k xs) <;> rfl
    · refine .inr ⟨?_, d1, d2, ⟨d4.size.trans ha.size, d4.fails.trans ha.fails, d4.firm.trans ha.firm⟩, xs.length, by rw [List.take_length]; exact d3.trans c3⟩
      cases hx : s.arms.on with
      | true => rfl
      | false => rw [c4 hx] at d0; cases d0
  · have e : layF s k xs = layW s k xs := by rw [layF, if_neg (by rw [c1]; decide)]
    rw [e]
    exact .inr ⟨c0, c1, c2, ha, i, c3⟩
/-- behind a crash each sector holds what was firm, or what was written to it. -/
theorem crash_any (l : List Bool) (s : DS) : Up (crashD l s) ∧ (crashD l s).loose = [] ∧ (crashD l s).size = s.size ∧ (crashD l s).arms.on = false ∧ ∀ j, holdsF (crashD l s) j = (getB j s.firm).getD zB ∨ ∃ x ∈ s.loose, x.at_ = j ∧ holdsF (crashD l s) j = x.b := by
  refine ⟨⟨rfl, rfl⟩, rfl, rfl, rfl, fun j => ?_⟩
  rw [holds_firm (s := crashD l s) rfl]
  show (getB j (settleK (keepF l) s.loose s.firm s.loose.length)).getD zB = _ ∨ _
  rcases settle_any j (keepF l) s.loose s.firm s.loose.length (Nat.le_refl _) with h | ⟨x, h1, h2, h3⟩
  · rw [h]; exact .inl rfl
  · exact .inr ⟨x, h1, h2, by show (getB j (settleK (keepF l) s.loose s.firm s.loose.length)).getD zB = _; rw [h3]; rfl⟩
/-- behind a laying that the power cut: what was there, or what was to come. -/
theorem crash_lay (l : List Bool) {s : DS} {xs : List Blk} {k : Nat} (hl : s.loose = []) {r : DS} (ha : Alike s r) {i : Nat} (hr : r.loose = wrs k (xs.take i)) (j : Int) :
    holdsF (crashD l r) j = holdsF s j ∨ ∃ m, j = ((k + m : Nat) : Int) ∧ xs[m]? = some (holdsF (crashD l r) j) := by
  obtain ⟨_, _, _, _, h1⟩ := crash_any l r
  rcases h1 j with e | ⟨x, hx, h2, h3⟩
  · rw [e, ha.firm, holds_firm hl]; exact .inl rfl
  · rw [hr] at hx
    obtain ⟨m, e1, e2⟩ := wrs_mem hx
    rw [List.getElem?_take] at e2
    split at e2
    · exact .inr ⟨m, h2.symm.trans e1, by rw [h3]; exact e2⟩
    · cases e2
end Go.Proofs.YtdakncgafdnjfaaGreat

/- Package wal in plain words: logs on disks, taken down, cut, found. -/
namespace Go.Proofs.YtdakncgafdnjfaaGreat
open Go Go.Wk
set_option maxRecDepth 100000

/-- a field of blocks. -/
def fieldOf (s : DS) (fr n : Nat) : List Blk := (List.range n).map fun i => holdsF s ((fr + i : Nat) : Int)
theorem fieldOf_len (s : DS) (fr n : Nat) : (fieldOf s fr n).length = n := by simp [fieldOf]
theorem fieldOf_get (s : DS) (fr n i : Nat) (h : i < n) : (fieldOf s fr n)[i]? = some (holdsF s ((fr + i : Nat) : Int)) := by
  rw [fieldOf, List.getElem?_map, List.getElem?_range h]; rfl
theorem fieldOf_eq {s s' : DS} {fr n : Nat} (h : ∀ i, i < n → holdsF s' ((fr + i : Nat) : Int) = holdsF s ((fr + i : Nat) : Int)) : fieldOf s' fr n = fieldOf s fr n :=
  List.map_congr_left fun i hi => h i (List.mem_range.1 hi)
/-- the other title tells no later book. -/
def Below (s : DS) (t : Int) (i : Nat) (y : Blk) : Prop := (mayF s (tellN y) && decide (tellT y % 2 = (i : Int)) && decide (y.l = (titleF (tellT y) (tellN y)).l)) = true → tellT y < t
/-- a log's disk, but for what lies behind the log's end. -/
structure LogOn (s : DS) (n : Nat) (t : Int) (said : List (List UInt8)) (tail : List Blk) : Prop where
  up : Up s
  loose : s.loose = []
  hn : 4 ≤ n ∧ n ≤ 1000
  size : ((2 * n + 2 : Nat) : Int) ≤ s.size
  ht : 0 ≤ t ∧ t ≤ 4294967295
  title : holdsF s ((t % 2).toNat : Int) = titleF t n
  other : Below s t (1 - (t % 2).toNat) (holdsF s ((1 - (t % 2).toNat : Nat) : Int))
  some_ : said ≠ []
  short : ∀ b ∈ said, b.length ≤ 40000
  cur : fieldOf s (fromN n t) n = laidF t said 0 ++ tail
  oth : ∀ i, i < n → Fresh (t + 1) (holdsF s ((fromN n (t + 1) + i : Nat) : Int))
def Live (s : DS) (n : Nat) (t : Int) (said : List (List UInt8)) : Prop := ∃ tail, LogOn s n t said tail ∧ ∀ x ∈ tail, Fresh t x
def Able (s : DS) (n : Nat) (t : Int) (said : List (List UInt8)) : Prop := ∃ tail, LogOn s n t said tail ∧ NoEntry t (said.length : Nat) tail ∧ ∀ x ∈ tail, Fresh (t + 1) x
def Clean (s : DS) (n : Nat) (t : Int) (said : List (List UInt8)) : Prop := ∃ k, LogOn s n t said (List.replicate k zB)
def endF (t : Int) (said : List (List UInt8)) : Nat := (laidF t said 0).length
theorem LogOn.len {s : DS} {n : Nat} {t : Int} {said : List (List UInt8)} {tail : List Blk} (h : LogOn s n t said tail) : endF t said + tail.length = n := by
  have := congrArg List.length h.cur
  rw [fieldOf_len, List.length_append] at this
  exact this.symm
theorem laid_len (t : Int) : ∀ (said : List (List UInt8)) (j : Nat), said.length ≤ (laidF t said j).length
  | [], _ => Nat.le_refl _
  | b :: l, j => by
    have := laid_len t l (j + 1)
    have := secN_pos b.length
    rw [laidF, List.length_append, leavesF_len, List.length_cons]; omega
theorem LogOn.few {s : DS} {n : Nat} {t : Int} {said : List (List UInt8)} {tail : List Blk} (h : LogOn s n t said tail) : said.length ≤ n ∧ 0 < said.length :=
  ⟨by have := laid_len t said 0; have := h.len; unfold endF at this; omega, List.length_pos_iff.2 h.some_⟩
theorem Live.able {s : DS} {n : Nat} {t : Int} {said : List (List UInt8)} (h : Live s n t said) : Able s n t said := by
  obtain ⟨tail, h, hf⟩ := h
  have h1 := h.few
  have h2 := h.hn
  exact ⟨tail, h, noEntry_fresh h.ht.2 (by omega) hf, fun x hx => (hf x hx).mono (by omega)⟩
theorem from_bound {n : Nat} (t : Int) (hn : n ≤ 1000) : 2 ≤ fromN n t ∧ fromN n t ≤ 2 + n := by
  unfold fromN
  rcases (show (t % 2).toNat = 0 ∨ (t % 2).toNat = 1 by omega) with h | h <;> rw [h] <;> omega
/-- two fields lie apart. -/
theorem from_apart {n : Nat} (t : Int) {i j : Nat} (hi : i < n) (hj : j < n) : fromN n t + i ≠ fromN n (t + 1) + j := by
  unfold fromN
  rcases (show t % 2 = 0 ∨ t % 2 = 1 by omega) with h | h
  · rw [show (t + 1) % 2 = 1 from by omega, h]; simp; omega
  · rw [show (t + 1) % 2 = 0 from by omega, h]; simp; omega
theorem over_in {xs : List Blk} {k i : Nat} (hi : i < xs.length) (u : Blk) : (findB ((k + i : Nat) : Int) (wrs k xs)).getD u = (xs[i]?).getD u := by
  rw [wrs_find, if_pos (by omega)]
  congr 2; omega
theorem over_out {xs : List Blk} {k : Nat} {j : Int} (h : j < (k : Int) ∨ ((k + xs.length : Nat) : Int) ≤ j) (u : Blk) : (findB j (wrs k xs)).getD u = u := by
  rw [wrs_find, if_neg (by omega)]; rfl
/-- a field with something laid into it. -/
theorem field_over {s s' : DS} {fr n k : Nat} {xs : List Blk} (hk : k + xs.length ≤ n) (h : ∀ j, holdsF s' j = (findB j (wrs (fr + k) xs)).getD (holdsF s j)) : fieldOf s' fr n = (fieldOf s fr n).take k ++ xs ++ (fieldOf s fr n).drop (k + xs.length) := by
  have hl : ((fieldOf s fr n).take k).length = k := by rw [List.length_take, fieldOf_len]; omega
  apply List.ext_getElem?
  intro i
  by_cases hi : i < n
  · rw [fieldOf_get s' fr n i hi, h]
    by_cases h1 : i < k
    · rw [over_out (.inl (by omega)), List.append_assoc, List.getElem?_append_left (by omega), List.getElem?_take, if_pos h1, fieldOf_get s fr n i hi]
    · by_cases h2 : i < k + xs.length
      · rw [show (fr + i : Nat) = fr + k + (i - k) from by omega, over_in (by omega), List.append_assoc, List.getElem?_append_right (by omega), hl, List.getElem?_append_left (by omega), List.getElem?_eq_getElem (by omega)]; rfl
      · rw [over_out (.inr (by omega)), List.getElem?_append_right (by rw [List.length_append, hl]; omega), List.length_append, hl, List.getElem?_drop, show k + xs.length + (i - (k + xs.length)) = i from by omega, fieldOf_get s fr n i hi]
  · rw [List.getElem?_eq_none (by rw [fieldOf_len]; omega), List.getElem?_eq_none (by rw [List.length_append, List.length_append, hl, List.length_drop, fieldOf_len]; omega)]
/-- each is what it was, or what was to come. -/
def Mix (tail xs tail' : List Blk) : Prop := tail'.length = tail.length ∧ ∀ (i : Nat) (x : Blk), tail'[i]? = some x → tail[i]? = some x ∨ xs[i]? = some x
theorem mix_entry {t j : Int} {bs : List UInt8} {tail tail' : List Blk} (ht : t ≤ 4294967295) (hj : 1 ≤ j ∧ j ≤ 4294967295) (hb : bs.length ≤ 40000) (hf : ∀ x ∈ tail, Fresh t x) (hm : Mix tail (leavesF t j bs) tail') (_hn : (leavesF t j bs).length ≤ tail.length) :
    (∃ rest, tail' = leavesF t j bs ++ rest ∧ ∀ x ∈ rest, Fresh t x) ∨ NoEntry t j tail' := by
  by_cases hp : leavesF t j bs <+: tail'
  · obtain ⟨rest, hr⟩ := hp
    refine .inl ⟨rest, hr.symm, fun x hx => ?_⟩
    obtain ⟨i, hi⟩ := List.getElem?_of_mem hx
    have h1 : tail'[(leavesF t j bs).length + i]? = some x := by rw [← hr, List.getElem?_append_right (by omega), show (leavesF t j bs).length + i - (leavesF t j bs).length = i from by omega]; exact hi
    rcases hm.2 _ _ h1 with h2 | h2
    · exact hf x (List.mem_of_getElem? h2)
    · rw [List.getElem?_eq_none (by omega)] at h2; cases h2
  · refine .inr fun bs' hb' ⟨rest, hr⟩ => hp ?_
    have key : ∀ i, i < secN bs'.length → (leavesF t j bs)[i]? = some (leafF t j bs' i) := fun i hi => by
      have h1 : tail'[i]? = some (leafF t j bs' i) := by rw [← hr, List.getElem?_append_left (by rw [leavesF_len]; exact hi)]; exact leaves_get t j bs' i hi
      rcases hm.2 _ _ h1 with h2 | h2
      · exact absurd rfl (hf _ (List.mem_of_getElem? h2) t j bs' i (Int.le_refl _) ht hj.1 hj.2)
      · exact h2
    have h0 := key 0 (secN_pos _)
    rw [leaves_get t j bs 0 (secN_pos _)] at h0
    have hlen : (bs.length : Int) = (bs'.length : Int) := wbe2_inj (by omega) (by omega) (leaf_parts (Option.some.inj h0)).2.2.1
    have hll : bs.length = bs'.length := by omega
    have he : leavesF t j bs = leavesF t j bs' := by
      apply List.ext_getElem?
      intro i
      by_cases hi : i < secN bs'.length
      · rw [key i hi, leaves_get t j bs' i hi]
      · rw [List.getElem?_eq_none (by rw [leavesF_len, hll]; omega), List.getElem?_eq_none (by rw [leavesF_len]; omega)]
    rw [he]; exact ⟨rest, hr⟩
/-! counting -/
theorem cntR_up (s : DS) (hu : Up s) (h2 : 1 < s.size) : cntF s = (if (cntStep s 1 (holdsF s 1) (cntStep s 0 (holdsF s 0) ⟨false, 0, 0⟩)).has then (opD (opD s), 0, cntStep s 1 (holdsF s 1) (cntStep s 0 (holdsF s 0) ⟨false, 0, 0⟩)) else (opD (opD s), 140, ⟨false, 0, 0⟩)) := by
  have hu1 : Up (opD s) := ⟨hu.on, hu.fit⟩
  obtain ⟨a1, a2, a3⟩ := rd_up hu (k := ((0 : Nat) : Int)) (by omega)
  obtain ⟨b1, b2, b3⟩ := rd_up hu1 (k := ((1 : Nat) : Int)) (by show (0 : Int) ≤ 1 ∧ (1 : Int) < s.size; omega)
  rw [cntF, cntR, if_pos a1, a2, a3, cntR, if_pos b1, b2, b3, cntR]
  rfl
/-! a field is read -/
end Go.Proofs.YtdakncgafdnjfaaGreat

/- Package wal in plain words: appending, checkpoints, openings, wherever the power goes. -/
namespace Go.Proofs.YtdakncgafdnjfaaGreat
open Go Go.Wk
set_option maxRecDepth 100000

theorem over_ne {xs : List Blk} {k : Nat} {j : Int} (h : ∀ i, i < xs.length → j ≠ ((k + i : Nat) : Int)) (u : Blk) : (findB j (wrs k xs)).getD u = u := by
  refine over_out ?_ u
  by_cases h1 : j < (k : Int)
  · exact .inl h1
  · refine .inr ?_
    by_cases h2 : ((k + xs.length : Nat) : Int) ≤ j
    · exact h2
    · exact absurd (show j = ((k + (j - k).toNat : Nat) : Int) by omega) (h _ (by omega))
/-- what changes behind a log's end alone. -/
theorem LogOn.inner {s s' : DS} {n : Nat} {t : Int} {said : List (List UInt8)} {tail : List Blk} (h : LogOn s n t said tail) (hu : Up s') (hl : s'.loose = []) (hz : s'.size = s.size)
    (hh : ∀ j : Int, (∀ i, i < n → endF t said ≤ i → j ≠ ((fromN n t + i : Nat) : Int)) → holdsF s' j = holdsF s j) : LogOn s' n t said ((fieldOf s' (fromN n t) n).drop (endF t said)) := by
  have hb := from_bound t h.hn.2
  have hm := Int.emod_lt_of_pos t (show (0 : Int) < 2 by decide)
  have hm0 := Int.emod_nonneg t (show (2 : Int) ≠ 0 by decide)
  have hlen := h.len
  refine ⟨hu, hl, h.hn, by rw [hz]; exact h.size, h.ht, ?_, ?_, h.some_, h.short, ?_, ?_⟩
  · rw [hh _ (fun i _ _ => by omega)]; exact h.title
  · have := h.other
    unfold Below mayF at this ⊢
    rw [hz, hh _ (fun i _ _ => by omega)]; exact this
  · have e : (fieldOf s' (fromN n t) n).take (endF t said) = laidF t said 0 := by
      have h2 : (fieldOf s (fromN n t) n).take (endF t said) = laidF t said 0 := by rw [h.cur]; exact List.take_left' rfl
      rw [← h2]
      apply List.ext_getElem?
      intro i
      rw [List.getElem?_take, List.getElem?_take]
      by_cases hi : i < endF t said
      · rw [if_pos hi, if_pos hi, fieldOf_get _ _ _ _ (by omega), fieldOf_get _ _ _ _ (by omega), hh _ (fun a _ ha => by omega)]
      · rw [if_neg hi, if_neg hi]
    rw [← e, List.take_append_drop]
  · intro i hi
    rw [hh _ (fun a ha _ => by have := from_apart t ha hi; omega)]; exact h.oth i hi
theorem LogOn.snoc {s : DS} {n : Nat} {t : Int} {said : List (List UInt8)} {rest : List Blk} {bs : List UInt8} (h : LogOn s n t said (leavesF t (said.length : Nat) bs ++ rest)) (hb : bs.length ≤ 40000) : LogOn s n t (said ++ [bs]) rest where
  up := h.up
  loose := h.loose
  hn := h.hn
  size := h.size
  ht := h.ht
  title := h.title
  other := h.other
  some_ := by simp
  short := fun b hm => by
    rcases List.mem_append.1 hm with hm | hm
    · exact h.short b hm
    · obtain rfl := List.mem_singleton.1 hm; exact hb
  cur := by rw [laidF_snoc, List.append_assoc, Nat.zero_add]; exact h.cur
  oth := h.oth
/-- something is taken down. -/
theorem append_live {s : DS} {n : Nat} {t : Int} {said : List (List UInt8)} (h : Live s n t said) (bs : List UInt8) (hb : bs.length ≤ 40000) (hr : endF t said + secN bs.length ≤ n) :
    ((layF s ((fromN n t + endF t said : Nat) : Int) (leavesF t (said.length : Nat) bs)).2 = 0 ∧ Live (layF s ((fromN n t + endF t said : Nat) : Int) (leavesF t (said.length : Nat) bs)).1 n t (said ++ [bs]) ∧ (s.arms.on = false → (layF s ((fromN n t + endF t said : Nat) : Int) (leavesF t (said.length : Nat) bs)).1.arms.on = false)) ∨
    (s.arms.on = true ∧ (layF s ((fromN n t + endF t said : Nat) : Int) (leavesF t (said.length : Nat) bs)).2 = 9 ∧ (layF s ((fromN n t + endF t said : Nat) : Int) (leavesF t (said.length : Nat) bs)).1.out = true ∧ ∀ keep, Able (crashD keep (layF s ((fromN n t + endF t said : Nat) : Int) (leavesF t (said.length : Nat) bs)).1) n t said ∨ Able (crashD keep (layF s ((fromN n t + endF t said : Nat) : Int) (leavesF t (said.length : Nat) bs)).1) n t (said ++ [bs])) := by
  obtain ⟨tail, hL, hf⟩ := h
  have hfb := from_bound t hL.hn.2
  have hlen := hL.len
  have hsz := hL.size
  have hn := hL.hn
  have hfew := hL.few
  obtain ⟨xs, hxs⟩ : ∃ xs, xs = leavesF t (said.length : Nat) bs := ⟨_, rfl⟩
  have hxl : xs.length = secN bs.length := by rw [hxs, leavesF_len]
  rw [← hxs]
  have htl : ∀ i, i < tail.length → tail[i]? = some (holdsF s ((fromN n t + endF t said + i : Nat) : Int)) := fun i hi => by
    have h1 := fieldOf_get s (fromN n t) n (endF t said + i) (by omega)
    rw [hL.cur, List.getElem?_append_right (by unfold endF; omega), show endF t said + i - (laidF t said 0).length = i from by unfold endF; omega] at h1
    rw [h1]; congr 3; omega
  rcases lay_f xs s (fromN n t + endF t said) hL.up hL.loose (by omega) (by omega) with ⟨c1, c2, c3, c4, c5, c6⟩ | ⟨c0, c1, c2, c3, i, c4⟩
  · refine .inl ⟨c1, ?_, c5⟩
    have h1 := hL.inner c2 c3 c4 (fun j hj => by rw [c6, over_ne (fun i hi => by have := hj (endF t said + i) (by omega) (by omega); omega)])
    have h2 := field_over (n := n) (xs := xs) (k := endF t said) (by omega) c6
    have hk : ((fieldOf s (fromN n t) n).take (endF t said)).length = endF t said := by rw [List.length_take, fieldOf_len]; omega
    rw [h2, List.append_assoc, List.drop_left' hk, hL.cur] at h1
    subst hxs
    refine ⟨_, h1.snoc hb, fun x hx => hf x ?_⟩
    rw [List.drop_append, List.drop_of_length_le (by unfold endF; omega), List.nil_append] at hx
    exact List.mem_of_mem_drop hx
  · refine .inr ⟨c0, c1, c2, fun keep => ?_⟩
    obtain ⟨d1, d2, d3, d4, _⟩ := crash_any keep (layF s ((fromN n t + endF t said : Nat) : Int) xs).1
    have hcl := fun j => crash_lay keep hL.loose c3 c4 j
    have h1 := hL.inner d1 d2 (d3.trans c3.size) (fun j hj => by
      rcases hcl j with e | ⟨m, e1, e2⟩
      · exact e
      · have hm := (List.getElem?_eq_some_iff.1 e2).1
        exact absurd (e1.trans (by congr 1; omega)) (hj (endF t said + m) (by omega) (by omega)))
    obtain ⟨tail', ht'⟩ : ∃ tail', tail' = (fieldOf (crashD keep (layF s ((fromN n t + endF t said : Nat) : Int) xs).1) (fromN n t) n).drop (endF t said) := ⟨_, rfl⟩
    rw [← ht'] at h1
    have hlen' := h1.len
    have hmix : Mix tail xs tail' := by
      refine ⟨by omega, fun a x hx => ?_⟩
      have ha : a < tail'.length := (List.getElem?_eq_some_iff.1 hx).1
      rw [ht', List.getElem?_drop, fieldOf_get _ _ _ _ (by omega)] at hx
      obtain rfl := Option.some.inj hx
      rcases hcl ((fromN n t + (endF t said + a) : Nat) : Int) with e | ⟨m, e1, e2⟩
      · rw [e, htl a (by omega)]; left; congr 3; omega
      · right; rw [← e2]; congr 1; omega
    rw [hxs] at hmix
    rcases mix_entry hL.ht.2 (by omega) hb hf hmix (by rw [← hxs]; omega) with ⟨rest, e, hr'⟩ | hne
    · rw [e] at h1
      exact .inr (Live.able ⟨rest, h1.snoc hb, hr'⟩)
    · refine .inl ⟨tail', h1, hne, fun x hx => ?_⟩
      obtain ⟨a, ha⟩ := List.getElem?_of_mem hx
      rcases hmix.2 a x ha with h2 | h2
      · exact (hf x (List.mem_of_getElem? h2)).mono (by omega)
      · have hm : a < secN bs.length := by have := (List.getElem?_eq_some_iff.1 h2).1; rw [leavesF_len] at this; exact this
        rw [leaves_get t _ bs a hm] at h2
        rw [← Option.some.inj h2]
        exact fresh_old _ t _ bs a hL.ht (by omega)
end Go.Proofs.YtdakncgafdnjfaaGreat

/- Package wal in plain words: openings, a new log. -/
namespace Go.Proofs.YtdakncgafdnjfaaGreat
open Go Go.Wk
set_option maxRecDepth 100000

/-- a new log. -/
theorem format_live (n : Nat) (hn : 4 ≤ n ∧ n ≤ 1000) : (fmtF n (newD ((2 * n + 2 : Nat) : Int))).2 = 0 ∧ Live (fmtF n (newD ((2 * n + 2 : Nat) : Int))).1 n 0 [[]] ∧ (fmtF n (newD ((2 * n + 2 : Nat) : Int))).1.arms.on = false := by
  obtain ⟨s0, hs0⟩ : ∃ s0, s0 = newD ((2 * n + 2 : Nat) : Int) := ⟨_, rfl⟩
  rw [← hs0]
  have hu0 : Up s0 := by rw [hs0]; exact ⟨rfl, rfl⟩
  have hz0 : s0.size = ((2 * n + 2 : Nat) : Int) := by rw [hs0]; rfl
  have ha0 : s0.arms.on = false := by rw [hs0]; rfl
  have hh0 : ∀ j, holdsF s0 j = zB := fun j => by rw [hs0]; rfl
  have off : ∀ {s : DS}, s.arms.on = false → ¬ s.arms.on = true := fun h h2 => by rw [h] at h2; cases h2
  rcases lay_f (List.replicate (2 * n + 2) zB) s0 0 hu0 (by rw [hs0]; rfl) (by omega) (by rw [List.length_replicate]; omega) with ⟨c1, c2, c3, c4, c5, c6⟩ | ⟨c0, _⟩
  · replace c1 : (layF s0 0 (List.replicate (2 * n + 2) zB)).2 = 0 := c1
    have hfm : fmtF n s0 = begF n 0 [] (layF s0 0 (List.replicate (2 * n + 2) zB)).1 := by rw [fmtF, if_pos c1]
    rw [hfm]
    obtain ⟨s1, hs1⟩ : ∃ s1, s1 = (layF s0 0 (List.replicate (2 * n + 2) zB)).1 := ⟨_, rfl⟩
    replace c2 : Up s1 := by rw [hs1]; exact c2
    replace c3 : s1.loose = [] := by rw [hs1]; exact c3
    replace c4 : s1.size = s0.size := by rw [hs1]; exact c4
    replace c5 : s1.arms.on = false := by rw [hs1]; exact c5 ha0
    have hh1 : ∀ j, holdsF s1 j = zB := fun j => by
      rw [hs1]
      have := c6 j
      rw [hh0, wrs_find] at this
      refine Eq.trans this ?_
      split
      · rw [List.getElem?_replicate]; split <;> rfl
      · rfl
    rw [← hs1]
    have hxl : (leavesF 0 0 []).length = 1 := rfl
    rcases lay_f (leavesF 0 0 []) s1 2 c2 c3 (by omega) (by rw [hxl]; omega) with ⟨d1, d2, d3, d4, d5, d6⟩ | ⟨d0, _⟩
    · have h2n : fromN n 0 = 2 := by simp [fromN]
      replace d1 : (layF s1 ((2 : Nat) : Int) (leavesF 0 0 [])).2 = 0 := d1
      have hbg : begF n 0 [] s1 = layF (layF s1 ((2 : Nat) : Int) (leavesF 0 0 [])).1 (((0 : Int) % 2).toNat : Nat) [titleF 0 n] := by
        show (if (layF s1 (fromN n 0 : Nat) (leavesF 0 0 [])).2 = 0 then layF (layF s1 (fromN n 0 : Nat) (leavesF 0 0 [])).1 (((0 : Int) % 2).toNat : Nat) [titleF 0 n] else layF s1 (fromN n 0 : Nat) (leavesF 0 0 [])) = _
        rw [h2n]; exact if_pos d1
      rw [hbg]
      obtain ⟨s2, hs2⟩ : ∃ s2, s2 = (layF s1 ((2 : Nat) : Int) (leavesF 0 0 [])).1 := ⟨_, rfl⟩
      replace d2 : Up s2 := by rw [hs2]; exact d2
      replace d3 : s2.loose = [] := by rw [hs2]; exact d3
      replace d4 : s2.size = s1.size := by rw [hs2]; exact d4
      replace d5 : s2.arms.on = false := by rw [hs2]; exact d5 c5
      replace d6 : ∀ j, holdsF s2 j = (findB j (wrs 2 (leavesF 0 0 []))).getD (holdsF s1 j) := fun j => by rw [hs2]; exact d6 j
      rw [← hs2]
      rcases lay_f [titleF 0 n] s2 0 d2 d3 (by omega) (by simp only [List.length_singleton]; omega) with ⟨e1, e2, e3, e4, e5, e6⟩ | ⟨e0, _⟩
      · have h0 : holdsF (layF s2 (((0 : Int) % 2).toNat : Nat) [titleF 0 n]).1 0 = titleF 0 n := by
          have := e6 0
          exact this
        have hj : ∀ j : Int, j ≠ 0 → holdsF (layF s2 (((0 : Int) % 2).toNat : Nat) [titleF 0 n]).1 j = holdsF s2 j := fun j hj => by
          have := e6 j
          rw [over_ne (fun i hi => by have : i = 0 := by simpa using hi
                                      subst this; exact hj)] at this
          exact this
        refine ⟨e1, ⟨List.replicate (n - 1) zB, ⟨e2, e3, hn, ?_, by omega, h0, ?_, by simp, fun b hb => ?_, ?_, fun i hi => ?_⟩, fun x hx => ?_⟩, e5 d5⟩
        · have : (layF s2 (((0 : Int) % 2).toNat : Nat) [titleF 0 n]).1.size = s2.size := e4
          rw [this]; omega
        · rw [hj _ (by decide), d6, over_ne (fun i hi => by rw [hxl] at hi; omega), hh1]
          intro hb
          rw [show tellN zB = 0 from by decide] at hb
          simp [mayF] at hb
        · obtain rfl := List.mem_singleton.1 hb; simp
        · have h1 := field_over (s := s1) (s' := s2) (fr := 2) (n := n) (k := 0) (xs := leavesF 0 0 []) (by rw [hxl]; omega) (fun j => d6 j)
          rw [h2n, fieldOf_eq fun i hi => hj _ (by omega), h1, List.take_zero, List.nil_append, laidF, laidF, List.append_nil]
          congr 1
          rw [hxl, fieldOf, show (fun i => holdsF s1 ((2 + i : Nat) : Int)) = fun _ => zB from funext fun i => hh1 _]
          rw [List.map_const', List.length_range, List.drop_replicate]
        · rw [hj _ (by have := from_bound (0 + 1) (n := n) hn.2; omega), d6, over_ne (fun a ha => by rw [hxl] at ha; have := from_apart 0 (n := n) (i := a) (j := i) (by omega) hi; rw [h2n] at this; omega), hh1]
          exact fresh_zero _
        · rw [(List.mem_replicate.1 hx).2]; exact fresh_zero _
      · exact absurd e0 (off d5)
    · exact absurd d0 (off c5)
  · exact absurd c0 (off ha0)
end Go.Proofs.YtdakncgafdnjfaaGreat

/- The laws of layer 4: accounts of logs, and whether two are one. -/
namespace Go.Proofs.YtdakncgafdnjfaaGreat
open Go Go.Wk
set_option synthInstance.maxSize 100000
set_option synthInstance.maxHeartbeats 400000
set_option maxRecDepth 100000

/-- rows of entries. -/
abbrev bsL (ys : List LBy) : List (List UInt8) := ys.map LBy.bs
/-- an account. -/
abbrev accI (p : Option Addr) (c : Nat) (ys : List LBy) : Wk.Item := both (Wk.row 25 1 p ys.length c (encL ys)) (entI ys)
end Go.Proofs.YtdakncgafdnjfaaGreat

/- The laws of layer 4: logs as the laws hold them: told, taken down, opened. -/
namespace Go.Proofs.YtdakncgafdnjfaaGreat
open Go Go.Wk
set_option synthInstance.maxSize 100000
set_option synthInstance.maxHeartbeats 400000
set_option maxRecDepth 100000

/-- a log and its disk. -/
structure LG where
  m : Nat
  p : Option Addr
  c : Nat
  s : DS
  q : Option Addr
  e : Nat
  x : WS
abbrev lgI (b g : Nat) (L : LG) : Wk.Item := both (dkI b L.m L.p L.c L.s) (walI g b L.q L.e L.x)
/-- what a log tells. -/
structure LgSays (L : LG) (said : List (List UInt8)) : Prop where
  says : bsL L.x.said = said
  some_ : said ≠ []
  few : said.length ≤ 1000
  short : ∀ b ∈ said, b.length ≤ 40000
/-- a log that is as it should be. -/
structure LgOk (L : LG) (n : Nat) (t : Int) (said : List (List UInt8)) : Prop where
  num : L.x.n = n
  turn : L.x.turn = t
  says : bsL L.x.said = said
  fin : L.x.fin = endF t said
  broken : L.x.broken = false
  live : Live L.s n t said
theorem lg_cap {b g : Nat} {L : LG} {w : World} (h : (lgI b g L).holds w) : L.x.said.length ≤ L.e := own_le h.2.1.2.1.1
/-! what is taken down -/
def wantF (n : Nat) (t : Int) (said : List (List UInt8)) (ck : Bool) (bs : List UInt8) : Int := if 40000 < bs.length then 3 else if (if ck then n else n - endF t said) < secN bs.length then 6 else 0
def nextT (ck : Bool) (t : Int) : Int := if ck then t + 1 else t
def nextS (ck : Bool) (said : List (List UInt8)) (bs : List UInt8) : List (List UInt8) := if ck then [bs] else said ++ [bs]
def TakeR (L L' : LG) (n : Nat) (t : Int) (said : List (List UInt8)) (ck : Bool) (bs : List UInt8) (e : Int) : Prop :=
  (wantF n t said ck bs ≠ 0 ∧ e = wantF n t said ck bs ∧ L' = L) ∨
  (wantF n t said ck bs = 0 ∧ e = 0 ∧ L'.m = L.m ∧ LgOk L' n (nextT ck t) (nextS ck said bs) ∧ (L.s.arms.on = false → L'.s.arms.on = false)) ∨
  (wantF n t said ck bs = 0 ∧ L.s.arms.on = true ∧ e = 9 ∧ L'.m = L.m ∧ L'.s.out = true ∧ L'.s.loose.length ≤ 2000 ∧ LgSays L' said ∧ ∀ keep, Able (crashD keep L'.s) n t said ∨ Able (crashD keep L'.s) n (nextT ck t) (nextS ck said bs))
/-! openings -/
end Go.Proofs.YtdakncgafdnjfaaGreat

/- The laws of layer 4: what takes something down, what is told behind it. -/
namespace Go.Proofs.YtdakncgafdnjfaaGreat
open Go Go.Wk
set_option synthInstance.maxSize 100000
set_option synthInstance.maxHeartbeats 400000
set_option maxRecDepth 100000

def ckF (x : LAct) : Bool := decide (kindF x.kind = 3)
end Go.Proofs.YtdakncgafdnjfaaGreat

/- The laws of layer 4: what was lived through. -/
namespace Go.Proofs.YtdakncgafdnjfaaGreat
open Go Go.Wk
set_option synthInstance.maxSize 100000
set_option synthInstance.maxHeartbeats 400000
set_option maxRecDepth 100000

instance encAct : Enc LAct := ⟨4, cAct, fun _ => rfl, fun x u hu => by simp only [List.mem_cons, List.not_mem_nil, or_false] at hu; rcases hu with rfl | rfl | rfl | rfl <;> rfl⟩
instance layAct : Lay LAct := { encAct with
  dflt := ⟨0, 0, 0, none, 0, []⟩
  inn := fun w x => x.keep.length ≤ x.c ∧ x.c ≤ maxLen ∧ GlF x.p x.keep w
  mono := fun _w _w' _x h hx => ⟨hx.1, hx.2.1, hx.2.2.mono h⟩ }
instance : SzE LAct 4 := ⟨rfl, by decide⟩
instance {x : LAct} : CellsOf x [.int .i64 x.kind, .int .i64 x.n, .int .u8 (x.fill.toNat : Int), .slice x.p x.keep.length x.c] := ⟨rfl⟩
end Go.Proofs.YtdakncgafdnjfaaGreat

/- The laws of layer 4: does the layer do anything? -/
namespace Go.Proofs.YtdakncgafdnjfaaGreat
open Go Go.Wk
set_option synthInstance.maxSize 100000
set_option synthInstance.maxHeartbeats 400000
set_option maxRecDepth 100000

theorem laid_sum (t : Int) : ∀ (said : List (List UInt8)) (j : Nat), (laidF t said j).length = (said.map fun b => secN b.length).sum
  | [], _ => rfl
  | b :: l, j => by rw [laidF, List.length_append, leavesF_len, laid_sum t l, List.map_cons, List.sum_cons]
theorem endF_sum (t : Int) (said : List (List UInt8)) : endF t said = (said.map fun b => secN b.length).sum := laid_sum t said 0
end Go.Proofs.YtdakncgafdnjfaaGreat

/- The laws of layer 4: how many sectors; of a log that is not there. -/
namespace Go.Proofs.YtdakncgafdnjfaaGreat
open Go Go.Wk
set_option synthInstance.maxSize 100000
set_option synthInstance.maxHeartbeats 400000
set_option maxRecDepth 100000

end Go.Proofs.YtdakncgafdnjfaaGreat

/- The laws of layer 4: what has room is taken down. -/
namespace Go.Proofs.YtdakncgafdnjfaaGreat
open Go Go.Wk
set_option synthInstance.maxSize 100000
set_option synthInstance.maxHeartbeats 400000
set_option maxRecDepth 100000

end Go.Proofs.YtdakncgafdnjfaaGreat

/- The laws of layer 4: which loose writes stay; what is found. -/
namespace Go.Proofs.YtdakncgafdnjfaaGreat
open Go Go.Wk
set_option synthInstance.maxSize 100000
set_option synthInstance.maxHeartbeats 400000
set_option maxRecDepth 100000

def keptF (x : LAct) : List Bool := x.keep.take (min x.keep.length 100)
def LG.arm (L : LG) (k : Int) : LG := { L with s := armD L.s k }
end Go.Proofs.YtdakncgafdnjfaaGreat

/- The laws of layer 4: what was taken down lasts. -/
namespace Go.Proofs.YtdakncgafdnjfaaGreat
open Go Go.Wk
set_option synthInstance.maxSize 100000
set_option synthInstance.maxHeartbeats 400000
set_option maxRecDepth 100000

/-- what may be found behind a crash. -/
def FindR (s : DS) (n : Nat) (e : Int) (now next : List (List UInt8)) : Prop := s.loose.length ≤ 2000 ∧ ∀ keep, (∃ t, Able (crashD keep s) n t now) ∨ (e = 9 ∧ ∃ t, Able (crashD keep s) n t next)
def moreA : LAct := ⟨0, 50, 200, none, 0, []⟩
end Go.Proofs.YtdakncgafdnjfaaGreat

/- The laws of layer 4: what an opening left is found once more. -/
namespace Go.Proofs.YtdakncgafdnjfaaGreat
open Go Go.Wk
set_option synthInstance.maxSize 100000
set_option synthInstance.maxHeartbeats 400000
set_option maxRecDepth 100000

/-! of a log whose disk another one has: what it tells -/
end Go.Proofs.YtdakncgafdnjfaaGreat

/- Logs as they are seen: what each call tells and leaves, as functions of the disk and of what was told, whatever fails. -/
namespace Go.Proofs.YtdakncgafdnjfaaGreat
open Go Go.Wk
set_option synthInstance.maxSize 100000
set_option synthInstance.maxHeartbeats 400000
set_option maxRecDepth 100000

/-- a log and its disk, without where they lie. -/
structure LV where
  s : DS
  n : Nat
  turn : Int
  said : List (List UInt8)
  fin : Nat
  broken : Bool
def LG.v (L : LG) : LV := ⟨L.s, L.x.n, L.x.turn, bsL L.x.said, L.x.fin, L.x.broken⟩
def LV.x (V : LV) : WS := ⟨V.n, V.turn, [], V.fin, V.broken⟩
structure LV.Wf (V : LV) (k : Nat) : Prop where
  n : V.n ≤ 1000
  fin : V.fin ≤ V.n
  some_ : 0 < V.said.length
  few : V.said.length ≤ V.fin
  short : ∀ b ∈ V.said, b.length ≤ 40000
  turn : 0 ≤ V.turn ∧ V.turn ≤ 4294967295
  loose : V.s.loose.length ≤ k
def appV (V : LV) (bs : List UInt8) : LV × Int :=
  if roomF V.x bs ≠ 0 then (V, roomF V.x bs) else
  if (layF V.s ((fromN V.n V.turn + V.fin : Nat) : Int) (leavesF V.turn (V.said.length : Int) bs)).2 = 0 then
    ({ V with s := (layF V.s ((fromN V.n V.turn + V.fin : Nat) : Int) (leavesF V.turn (V.said.length : Int) bs)).1, said := V.said ++ [bs], fin := V.fin + secN bs.length }, 0)
  else ({ V with s := (layF V.s ((fromN V.n V.turn + V.fin : Nat) : Int) (leavesF V.turn (V.said.length : Int) bs)).1, broken := true }, (layF V.s ((fromN V.n V.turn + V.fin : Nat) : Int) (leavesF V.turn (V.said.length : Int) bs)).2)
def chkV (V : LV) (bs : List UInt8) : LV × Int :=
  if roomC V.x bs ≠ 0 then (V, roomC V.x bs) else
  if (begF V.n (upT V.turn) bs V.s).2 = 0 then ({ V with s := (begF V.n (upT V.turn) bs V.s).1, turn := upT V.turn, said := [bs], fin := secN bs.length }, 0)
  else ({ V with s := (begF V.n (upT V.turn) bs V.s).1, broken := true }, (begF V.n (upT V.turn) bs V.s).2)
theorem v_len (L : LG) : L.v.said.length = L.x.said.length := List.length_map _
theorem append_v (b g : Nat) (L : LG) (k : Nat) (y : LBy) (h : L.v.Wf k) (hk : k ≤ 980000) (hyl : y.bs.length ≤ 10000000) (w0 : World) (hd : (lgI b g L).holds w0) (f0 : Stable (lgI b g L).foot w0 (GlF y.p y.bs)) :
    Ret Tryz.prog 20 [.pointer (some ⟨g, 0, none⟩), .slice y.p y.bs.length y.c] w0 (lgI b g L).foot fun v w' => ∃ L', v = .int .i64 (appV L.v y.bs).2 ∧ (lgI b g L').holds w' ∧ (∀ k, (lgI b g L').foot k → (lgI b g L).foot k ∨ w0.heap.size ≤ k) ∧ L'.m = L.m ∧ L'.v = (appV L.v y.bs).1 := by
  have hvl := v_len L
  have hcap := lg_cap hd
  obtain ⟨m, p, c, s, q, e, x⟩ := L
  have hn : x.n ≤ 1000 := h.n
  have hfi : x.fin ≤ x.n := h.fin
  have hs0 := h.some_
  have hsf : (LG.v ⟨m, p, c, s, q, e, x⟩).said.length ≤ x.fin := h.few
  have ht : 0 ≤ x.turn ∧ x.turn ≤ 4294967295 := h.turn
  have hl : s.loose.length ≤ k := h.loose
  have hvl : (LG.v ⟨m, p, c, s, q, e, x⟩).said.length = x.said.length := hvl
  rw [hvl] at hs0 hsf
  have hcap : x.said.length ≤ e := hcap
  refine (append_c g b m p c s q e x y w0 hn hfi ⟨by omega, hcap⟩ hs0 ht hyl (by omega) hd f0).mono fun v w' => ?_
  have hrm : roomF (LG.v ⟨m, p, c, s, q, e, x⟩).x y.bs = roomF x y.bs := rfl
  unfold appV
  rw [hrm, hvl]
  rintro (⟨ha, rfl, hb⟩ | ⟨ha, rfl, p', c', q', e', y', hy', he', hh, hf⟩)
  · rw [if_pos ha]
    exact ⟨⟨m, p, c, s, q, e, x⟩, rfl, hb, fun k hk => .inl hk, rfl, rfl⟩
  · rw [if_neg (fun h => h ha)]
    have hR : layF (LG.v ⟨m, p, c, s, q, e, x⟩).s ((fromN (LG.v ⟨m, p, c, s, q, e, x⟩).n (LG.v ⟨m, p, c, s, q, e, x⟩).turn + (LG.v ⟨m, p, c, s, q, e, x⟩).fin : Nat) : Int) (leavesF (LG.v ⟨m, p, c, s, q, e, x⟩).turn (x.said.length : Int) y.bs) = layF s ((fromN x.n x.turn + x.fin : Nat) : Int) (leavesF x.turn (x.said.length : Int) y.bs) := rfl
    rw [hR]
    obtain ⟨R, hR⟩ : ∃ R, R = layF s ((fromN x.n x.turn + x.fin : Nat) : Int) (leavesF x.turn (x.said.length : Int) y.bs) := ⟨_, rfl⟩
    rw [← hR] at hh hf ⊢
    refine ⟨⟨m, p', c', R.1, q', e', appS x y' R.2⟩, ?_, hh, hf, rfl, ?_⟩
    · by_cases h2 : R.2 = 0
      · rw [if_pos h2, h2]
      · rw [if_neg h2]
    · by_cases h2 : R.2 = 0
      · rw [if_pos h2]
        show LG.v _ = _
        unfold LG.v appS
        rw [if_pos h2]
        simp only [bsL, List.map_append, List.map_cons, List.map_nil, hy']
      · rw [if_neg h2]
        show LG.v _ = _
        unfold LG.v appS
        rw [if_neg h2]
theorem chk_v (b g : Nat) (L : LG) (k : Nat) (y : LBy) (h : L.v.Wf k) (hk : k ≤ 980000) (hyl : y.bs.length ≤ 10000000) (w0 : World) (hd : (lgI b g L).holds w0) (f0 : Stable (lgI b g L).foot w0 (GlF y.p y.bs)) :
    Ret Tryz.prog 19 [.pointer (some ⟨g, 0, none⟩), .slice y.p y.bs.length y.c] w0 (lgI b g L).foot fun v w' => ∃ L', v = .int .i64 (chkV L.v y.bs).2 ∧ (lgI b g L').holds w' ∧ (∀ k, (lgI b g L').foot k → (lgI b g L).foot k ∨ w0.heap.size ≤ k) ∧ L'.m = L.m ∧ L'.v = (chkV L.v y.bs).1 := by
  obtain ⟨m, p, c, s, q, e, x⟩ := L
  have hn : x.n ≤ 1000 := h.n
  have ht : 0 ≤ x.turn ∧ x.turn ≤ 4294967295 := h.turn
  have hl : s.loose.length ≤ k := h.loose
  refine (chk_c g b m p c s q e x y w0 hn ht hyl (by omega) hd f0).mono fun v w' => ?_
  have hrm : roomC (LG.v ⟨m, p, c, s, q, e, x⟩).x y.bs = roomC x y.bs := rfl
  unfold chkV
  rw [hrm]
  rintro (⟨ha, rfl, hb⟩ | ⟨ha, rfl, p', c', q', e', y', hy', -, -, hh, hf⟩)
  · rw [if_pos ha]
    exact ⟨⟨m, p, c, s, q, e, x⟩, rfl, hb, fun k hk => .inl hk, rfl, rfl⟩
  · rw [if_neg (fun h => h ha)]
    have hR : begF (LG.v ⟨m, p, c, s, q, e, x⟩).n (upT (LG.v ⟨m, p, c, s, q, e, x⟩).turn) y.bs (LG.v ⟨m, p, c, s, q, e, x⟩).s = begF x.n (upT x.turn) y.bs s := rfl
    rw [hR]
    obtain ⟨R, hR⟩ : ∃ R, R = begF x.n (upT x.turn) y.bs s := ⟨_, rfl⟩
    rw [← hR] at hh hf ⊢
    refine ⟨⟨m, p', c', R.1, q', e', chkS x y' R.2⟩, ?_, hh, hf, rfl, ?_⟩
    · by_cases h2 : R.2 = 0
      · rw [if_pos h2, h2]
      · rw [if_neg h2]
    · by_cases h2 : R.2 = 0
      · rw [if_pos h2]
        show LG.v _ = _
        unfold LG.v chkS
        rw [if_pos h2]
        simp only [bsL, List.map_cons, List.map_nil, hy']
      · rw [if_neg h2]
        show LG.v _ = _
        unfold LG.v chkS
        rw [if_neg h2]
/-! a log is opened, and laid -/
def opnV (s : DS) : LV := ⟨(openF s).1, (openF s).2.2.n, (openF s).2.2.turn, (openF s).2.2.said, (openF s).2.2.fin, false⟩
theorem openV_c (b m : Nat) (p : Option Addr) (c : Nat) (s : DS) (hl : s.loose.length ≤ 980000) (w0 : World) (hd : (dkI b m p c s).holds w0) :
    Ret Tryz.prog 54 [.pointer (some ⟨b, 0, none⟩)] w0 (dkI b m p c s).foot fun v w' =>
      ((openF s).2.1 ≠ 0 ∧ v = .tuple ⟨[.pointer none, .int .i64 (openF s).2.1]⟩ ∧ ∃ p' c', (dkI b m p' c' (openF s).1).holds w' ∧ ∀ k, (dkI b m p' c' (openF s).1).foot k → (dkI b m p c s).foot k ∨ w0.heap.size ≤ k) ∨
      ((openF s).2.1 = 0 ∧ ∃ g L, v = .tuple ⟨[.pointer (some ⟨g, 0, none⟩), .int .i64 0]⟩ ∧ L.m = m ∧ L.v = opnV s ∧ (lgI b g L).holds w' ∧ ∀ k, (lgI b g L).foot k → (dkI b m p c s).foot k ∨ w0.heap.size ≤ k) := by
  refine (open_c b m p c s w0 hl hd).mono fun v w' => ?_
  rintro (h | ⟨h0, g, p', c', q, e, x, hv, ⟨x1, x2, x3, x4, x5⟩, hh, hf⟩)
  · exact .inl h
  · refine .inr ⟨h0, g, ⟨m, p', c', (openF s).1, q, e, x⟩, hv, rfl, ?_, hh, hf⟩
    unfold LG.v opnV
    simp only [x1, x2, x4, x5, bsL, x3]
def fmtV (n : Nat) (s : DS) : LV := ⟨(fmtF n s).1, n, 0, [[]], 1, false⟩
theorem format_v (b m n : Nat) (p : Option Addr) (c : Nat) (s : DS) (hm : mayF s n = true) (hl : s.loose.length ≤ 980000) (w0 : World) (hd : (dkI b m p c s).holds w0) :
    Ret Tryz.prog 18 [.pointer (some ⟨b, 0, none⟩), .int .i64 (n : Int)] w0 (dkI b m p c s).foot fun v w' =>
      ((fmtF n s).2 ≠ 0 ∧ v = .tuple ⟨[.pointer none, .int .i64 (fmtF n s).2]⟩ ∧ ∃ p' c', (dkI b m p' c' (fmtF n s).1).holds w' ∧ ∀ k, (dkI b m p' c' (fmtF n s).1).foot k → (dkI b m p c s).foot k ∨ w0.heap.size ≤ k) ∨
      ((fmtF n s).2 = 0 ∧ ∃ g L, v = .tuple ⟨[.pointer (some ⟨g, 0, none⟩), .int .i64 0]⟩ ∧ L.m = m ∧ L.v = fmtV n s ∧ (lgI b g L).holds w' ∧ ∀ k, (lgI b g L).foot k → (dkI b m p c s).foot k ∨ w0.heap.size ≤ k) := by
  refine (format_c b m n p c s w0 hm hl hd).mono fun v w' => ?_
  rintro (h | ⟨h0, g, p', c', q, e, hv, hh, hf⟩)
  · exact .inl h
  · exact .inr ⟨h0, g, ⟨m, p', c', (fmtF n s).1, q, e, newW n⟩, hv, rfl, rfl, hh, hf⟩
/-! what a log tells -/
theorem left_v (b g : Nat) (L : LG) (k : Nat) (h : L.v.Wf k) (w0 : World) (hd : (lgI b g L).holds w0) : Ret Tryz.prog 100 [.pointer (some ⟨g, 0, none⟩)] w0 (fun _ => False) fun v _ => v = .int .i64 ((L.v.n : Int) - L.v.fin) := by
  have h1 := h.n
  have h2 := h.fin
  have h3 := h.few
  have h4 := h.some_
  rw [v_len] at h3 h4
  exact wleft_c g b L.q L.e L.x ⟨by omega, h4⟩ (show L.v.fin ≤ _ by omega) h1 w0 (BoxF.stable hd.2.1.1 (fun h => h))
theorem broken_v (b g : Nat) (L : LG) (w0 : World) (hd : (lgI b g L).holds w0) : Ret Tryz.prog 99 [.pointer (some ⟨g, 0, none⟩)] w0 (fun _ => False) fun v _ => v = .bool L.v.broken :=
  wbroken_c g b L.q L.e L.x w0 (BoxF.stable hd.2.1.1 (fun h => h))
end Go.Proofs.YtdakncgafdnjfaaGreat

/- Logs on disks where something is to fail: as if the power were to go then. -/
namespace Go.Proofs.YtdakncgafdnjfaaGreat
open Go Go.Wk
set_option maxRecDepth 100000

def Cnt.ok (c : Cnt) : Prop := c.on = true → 0 ≤ c.left ∧ c.left ≤ 9223372036854775807
/-- the one of two counters that is met first. -/
def bothC (f a : Cnt) : Cnt := if f.on then (if a.on then (if f.left ≤ a.left then f else a) else f) else a
/-- the same writes on the same sectors. -/
structure Same3 (r r' : DS) : Prop where
  loose : r.loose = r'.loose
  firm : r.firm = r'.firm
  size : r.size = r'.size
/-- a disk, and one whose power goes where that one fails. -/
structure Sim (s s' : DS) : Prop where
  same : Same3 s s'
  on : s.out = false
  up : Up s'
  arms : s'.arms = bothC s.fails s.arms
  okf : s.fails.ok
  oka : s.arms.ok
/-! what lasts -/
/-- a log's disk, where something may be to fail. -/
def LiveF (s : DS) (n : Nat) (t : Int) (said : List (List UInt8)) : Prop := ∃ s', Sim s s' ∧ Live s' n t said
theorem Live.liveF {s : DS} {n : Nat} {t : Int} {said : List (List UInt8)} (h : Live s n t said) (ha : s.arms.ok) : LiveF s n t said := by
  obtain ⟨tail, hL, _⟩ := id h
  refine ⟨s, ⟨⟨rfl, rfl, rfl⟩, hL.up.on, hL.up, ?_, ?_, ha⟩, h⟩
  · rw [bothC, if_neg (by rw [hL.up.fit]; exact Bool.false_ne_true)]
  · intro h1; rw [hL.up.fit] at h1; cases h1
end Go.Proofs.YtdakncgafdnjfaaGreat

/- Vaults over logs: what a put does. -/
namespace Go.Proofs.YtdakncgafdnjfaaGreat
open Go Go.Wk
set_option synthInstance.maxSize 100000
set_option synthInstance.maxHeartbeats 400000
set_option maxRecDepth 100000

def fitsV (V : LV) (bs : List UInt8) : Bool := decide (0 < secF (bs.length : Int)) && decide (secF (bs.length : Int) ≤ (V.n : Int) - V.fin)
def putR (V : LV) (rows l : List PRow) : LV × Int := if fitsV V (encP l) then appV V (encP l) else chkV V (encP (behP rows l))
def putV (V : LV) (rows l : List PRow) : LV × List PRow × Int :=
  if V.broken then (V, rows, 8) else
  if batchP l = false then (V, rows, 2) else
  if 64 < (behP rows l).length then (V, rows, 6) else
  ((putR V rows l).1, if (putR V rows l).2 = 0 then behP rows l else rows, (putR V rows l).2)
theorem secF_pos {n : Int} (h : 0 < secF n) : 0 ≤ n ∧ n ≤ 40000 := by
  unfold secF at h
  split at h
  · omega
  · omega
theorem encP_len {l : List PRow} (h : batchP l = true) : (encP l).length ≤ 4200000 := by
  rw [batchP, Bool.and_eq_true, decide_eq_true_eq] at h
  have h1 := rowsB_len l (goodP_all _ _ h.1)
  rw [encP, List.length_cons]
  omega
end Go.Proofs.YtdakncgafdnjfaaGreat

/- Logs that are whole: an append, a checkpoint. -/
namespace Go.Proofs.YtdakncgafdnjfaaGreat
open Go Go.Wk
set_option synthInstance.maxSize 100000
set_option synthInstance.maxHeartbeats 400000
set_option maxRecDepth 100000

structure LvOk (V : LV) (n : Nat) (t : Int) (said : List (List UInt8)) : Prop where
  num : V.n = n
  turn : V.turn = t
  says : V.said = said
  fin : V.fin = endF t said
  whole : V.broken = false
  live : LiveF V.s n t said
theorem LvOk.wf {V : LV} {n : Nat} {t : Int} {said : List (List UInt8)} (h : LvOk V n t said) : V.Wf 0 := by
  obtain ⟨s', hs, tail, hL, -⟩ := h.live
  have hlen := hL.len
  have hfew := hL.few
  have hll := laid_len t said 0
  refine ⟨by rw [h.num]; exact hL.hn.2, by rw [h.num, h.fin]; omega, by rw [h.says]; exact hfew.2, by rw [h.says, h.fin]; exact hll, by rw [h.says]; exact hL.short, by rw [h.turn]; exact hL.ht, ?_⟩
  rw [hs.same.loose, hL.loose]; exact Nat.le_refl _
/-- a log to which nothing happens. -/
structure LvOff (V : LV) (n : Nat) (t : Int) (said : List (List UInt8)) : Prop where
  ok : LvOk V n t said
  live : Live V.s n t said
  off : V.s.arms.on = false
theorem fmt_lv (n : Nat) (hn : 4 ≤ n ∧ n ≤ 1000) : LvOff (fmtV n (newD ((2 * n + 2 : Nat) : Int))) n 0 [[]] := by
  obtain ⟨h1, h2, h3⟩ := format_live n hn
  exact ⟨⟨rfl, rfl, rfl, rfl, rfl, h2.liveF (fun h => by rw [h3] at h; cases h)⟩, h2, h3⟩
theorem room_lv {V : LV} {n : Nat} {t : Int} {said : List (List UInt8)} (h : LvOk V n t said) (bs : List UInt8) (hb : bs.length ≤ 40000) : roomF V.x bs = if n < endF t said + secN bs.length then 6 else 0 := by
  obtain ⟨q1, q2, q3, q4, q5, q6⟩ := h
  obtain ⟨s, n', turn, said', fin, broken⟩ := V
  simp only at q1 q2 q3 q4 q5 q6
  subst q1 q2 q3 q4 q5
  have e1 : refF (LV.x ⟨s, n', turn, said', endF turn said', false⟩) bs = 0 := by
    rw [refF, if_neg (by omega)]; rfl
  obtain ⟨s', hs, tail, hL, -⟩ := q6
  have hlen := hL.len
  have hll := laid_len turn said' 0
  rw [roomF, if_pos e1]
  show (if n' - endF turn said' < secN bs.length then (6 : Int) else 0) = _
  by_cases h : n' < endF turn said' + secN bs.length
  · rw [if_pos h, if_pos (by omega)]
  · rw [if_neg h, if_neg (by have : endF turn said' ≤ n' := by omega
                             omega)]
theorem app_off {V : LV} {n : Nat} {t : Int} {said : List (List UInt8)} (h : LvOff V n t said) (bs : List UInt8) (hb : bs.length ≤ 40000) (hr : endF t said + secN bs.length ≤ n) :
    (appV V bs).2 = 0 ∧ LvOff (appV V bs).1 n t (said ++ [bs]) := by
  have hroom := room_lv h.ok bs hb
  rw [if_neg (by omega)] at hroom
  obtain ⟨⟨q1, q2, q3, q4, q5, q6⟩, hl, ho⟩ := h
  obtain ⟨s, n', turn, said', fin, broken⟩ := V
  simp only at q1 q2 q3 q4 q5 q6 hl ho hroom
  subst q1 q2 q3 q4 q5
  obtain ⟨a1, a2, a3⟩ := (append_live hl bs hb hr).resolve_right (fun h => by rw [ho] at h; cases h.1)
  have he : endF turn (said' ++ [bs]) = endF turn said' + secN bs.length := by
    rw [endF_sum, endF_sum, List.map_append, List.sum_append]; simp
  unfold appV
  rw [if_neg (fun h => h hroom), if_pos a1]
  exact ⟨rfl, ⟨⟨rfl, rfl, rfl, he.symm, rfl, a2.liveF (fun h => by rw [a3 ho] at h; cases h)⟩, a2, a3 ho⟩⟩
theorem fits_lv {V : LV} {n : Nat} {t : Int} {said : List (List UInt8)} (h : LvOk V n t said) (bs : List UInt8) : fitsV V bs = true ↔ bs.length ≤ 40000 ∧ endF t said + secN bs.length ≤ n := by
  obtain ⟨s', hs, tail, hL, -⟩ := h.live
  have hlen := hL.len
  have hll := laid_len t said 0
  have hsp := secN_pos bs.length
  rw [fitsV, Bool.and_eq_true, decide_eq_true_eq, decide_eq_true_eq, h.num, h.fin]
  constructor
  · rintro ⟨h1, h2⟩
    have h3 := (secF_pos h1).2
    rw [secF_nat _ (by omega)] at h2
    exact ⟨by omega, by omega⟩
  · rintro ⟨h1, h2⟩
    rw [secF_nat _ h1]
    omega
theorem putV_off {V : LV} {n : Nat} {t : Int} {said : List (List UInt8)} (h : LvOff V n t said) (rows l : List PRow) (hB : batchP l = true) (hle : (behP rows l).length ≤ 64) (hb : (encP l).length ≤ 40000) (hr : endF t said + secN (encP l).length ≤ n) :
    (putV V rows l).2.2 = 0 ∧ (putV V rows l).2.1 = behP rows l ∧ LvOff (putV V rows l).1 n t (said ++ [encP l]) := by
  have hf := (fits_lv h.ok (encP l)).2 ⟨hb, hr⟩
  obtain ⟨a1, a2⟩ := app_off h (encP l) hb hr
  have e : putR V rows l = appV V (encP l) := by rw [putR, if_pos hf]
  rw [putV, if_neg (by rw [h.ok.whole]; simp), if_neg (by rw [hB]; simp), if_neg (by omega), e]
  exact ⟨a1, by rw [if_pos a1], a2⟩
def wk1 : List PRow := [⟨[97], .mk 1 0 0 [120] []⟩, ⟨[98], .mk 3 1 0 [] []⟩]
def wk2 : List PRow := [⟨[97], zeroT⟩]
theorem wk1_ok : batchP wk1 = true ∧ behP [] wk1 = wk1 ∧ (encP wk1).length = 14 := by
  refine ⟨by decide, by rfl, by decide⟩
theorem wk2_ok : batchP wk2 = true ∧ behP wk1 wk2 = [⟨[98], .mk 3 1 0 [] []⟩] ∧ (encP wk2).length = 5 := by
  refine ⟨by decide, by rfl, by decide⟩
end Go.Proofs.YtdakncgafdnjfaaGreat

/- Package vault: a vault on a log; Put. -/
namespace Go.Proofs.YtdakncgafdnjfaaGreat
open Go Go.Wk
set_option synthInstance.maxSize 100000
set_option synthInstance.maxHeartbeats 400000
set_option maxRecDepth 100000

structure VT where
  L : LG
  p : Option Addr
  c : Nat
  xs : List LRow
abbrev cVt (g : Nat) (V : VT) : List Value := [.pointer (some ⟨g, 0, none⟩), .slice V.p V.xs.length V.c]
abbrev rwI (V : VT) : Wk.Item := Wk.row 150 6 V.p V.xs.length V.c (encL V.xs)
abbrev vtI (h b g : Nat) (V : VT) : Wk.Item := both (Wk.box h 144 (cVt g V)) (both (lgI b g V.L) (rwI V))
def encE (l : List PRow) : Int := if batchP l then 0 else 2
def encQ (l : List PRow) : List UInt8 := if batchP l then encP l else []
theorem vencode_q (xs : List LRow) (p : Option Addr) (n c : Nat) (w0 : World) (hn : xs.length = n) (hc : n ≤ c) (hl : ∀ x ∈ xs, x.name.length ≤ 9223372036854775807) (hll : n ≤ 9223372036854775807) (hx : Stable (fun _ => False) w0 (GlF p xs)) :
    Ret Tryz.prog 14 [.slice p n c] w0 (fun _ => False) fun v w' => ∃ (p' : Option Addr) (c' : Nat), v = .tuple ⟨[.slice p' (encQ (rsP xs)).length c', .int .i64 (encE (rsP xs))]⟩ ∧ w'.ownsRow 0 5 1 (.slice p' (encQ (rsP xs)).length c') (encQ (rsP xs)).length (encL (encQ (rsP xs))) ∧ ∀ ad, p' = some ad → w0.heap.size ≤ ad.block := by
  refine (vencode_c xs p n c w0 hn hc hl hll hx).mono fun v w' => ?_
  rintro (⟨hb, rfl⟩ | ⟨hb, h⟩)
  · rw [encQ, encE, hb]
    exact ⟨none, 0, rfl, World.ownsRow_nil _ _ _ _, fun _ h => by cases h⟩
  · rw [encQ, encE, hb]
    exact h
theorem vdown_nil (w0 : World) : Ret Tryz.prog 30 [.pointer none] w0 (fun _ => False) fun v _ => v = .bool true := by
  refine enter Tryz.func30 rfl rfl (Wd.start w0) (fun a S => ?_)
  simp only [Tryz.ntmps30, List.length_cons, List.length_nil, Nat.reduceAdd, Nat.reduceSub, List.replicate_succ, List.replicate_zero, List.cons_append, List.nil_append] at S
  refine c_seq ?_
  refine c_region ?_
  refine sq S ?_; clear S; intro a S
  refine wl_nil ?_
  refine xtn ?_
  refine c_seq ?_
  refine c_region ?_
  iterate 3 (refine sq S ?_; clear S; intro a S)
  iterate 5 (refine gF' S ?_; clear S; intro a S)
  iterate 2 (refine sq S ?_; clear S; intro a S)
  refine wl_nil ?_
  refine xtn ?_
  refine c_ret ?_
  exact end1 S (fun _ => rfl)
theorem vput_nil (q : Option Addr) (n d : Nat) (w0 : World) : Ret Tryz.prog 29 [.pointer none, .slice q n d] w0 (fun _ => False) fun v _ => v = .int .i64 1 := by
  refine enter Tryz.func29 rfl rfl (Wd.start w0) (fun a S => ?_)
  simp only [Tryz.ntmps29, List.length_cons, List.length_nil, Nat.reduceAdd, Nat.reduceSub, List.replicate_succ, List.replicate_zero, List.cons_append, List.nil_append] at S
  refine c_seq ?_
  refine c_region ?_
  refine sq S ?_; clear S; intro a S
  refine wl_nil ?_
  refine xtn ?_
  refine c_seq ?_
  refine c_block ?_
  refine c_seq ?_
  refine c_region ?_
  iterate 3 (refine sq S ?_; clear S; intro a S)
  refine wl_nil ?_
  refine xtn ?_
  refine c_condT S ?_
  refine c_seq ?_
  refine c_region ?_
  refine sq S ?_; clear S; intro a S
  refine wl_nil ?_
  refine xtn ?_
  refine c_ret ?_
  refine xbr ?_
  refine xtr ?_
  exact end1 S (fun _ => rfl)
theorem vrows_nil (w0 : World) : Ret Tryz.prog 26 [.pointer none] w0 (fun _ => False) fun v _ => v = .slice none 0 0 := by
  refine enter Tryz.func26 rfl rfl (Wd.start w0) (fun a S => ?_)
  simp only [Tryz.ntmps26, List.length_cons, List.length_nil, Nat.reduceAdd, Nat.reduceSub, List.replicate_succ, List.replicate_zero, List.cons_append, List.nil_append] at S
  refine c_seq ?_
  refine c_region ?_
  refine sq S ?_; clear S; intro a S
  refine wl_nil ?_
  refine xtn ?_
  iterate 2 (refine c_seq ?_)
  refine c_region ?_
  iterate 2 (refine sq S ?_; clear S; intro a S)
  refine wl_nil ?_
  refine xtn ?_
  refine c_condT S ?_
  refine c_seq ?_
  refine c_region ?_
  refine sq S ?_; clear S; intro a S
  refine wl_nil ?_
  refine xtn ?_
  refine c_ret ?_
  refine xtr ?_
  exact end1 S (fun _ => rfl)
theorem vget_nil (s : List UInt8) (w0 : World) : Ret Tryz.prog 27 [.pointer none, str s] w0 (fun _ => False) fun v _ => v = .tuple ⟨[vL zeroL, .bool false]⟩ := by
  refine enter Tryz.func27 rfl rfl (Wd.start w0) (fun a S => ?_)
  simp only [Tryz.ntmps27, List.length_cons, List.length_nil, Nat.reduceAdd, Nat.reduceSub, List.replicate_succ, List.replicate_zero, List.cons_append, List.nil_append] at S
  refine c_seq ?_
  refine c_region ?_
  refine sa S ?_; clear S; intro b4 a w S
  refine sq S ?_; clear S; intro a S
  refine wl_nil ?_
  refine xtn ?_
  iterate 2 (refine c_seq ?_)
  refine c_region ?_
  iterate 2 (refine sq S ?_; clear S; intro a S)
  refine wl_nil ?_
  refine xtn ?_
  refine c_condT S ?_
  refine c_seq ?_
  refine c_region ?_
  refine sq S ?_; clear S; intro a S
  refine sw S ?_; clear S; intro a w S
  refine sq S ?_; clear S; intro a S
  refine wl_nil ?_
  refine xtn ?_
  refine c_ret ?_
  refine xtr ?_
  exact end2 S (fun _ => rfl)
theorem vput_c (h b g : Nat) (V : VT) (l : List LRow) (q : Option Addr) (d k : Nat) (hwf : V.L.v.Wf k) (hk : k ≤ 970000) (hkp : KeptP (rsP V.xs)) (hxl : V.xs.length ≤ 64) (hll : l.length ≤ 200) (hnl : ∀ x ∈ l, x.name.length ≤ 9223372036854775807) (hdl : l.length ≤ d) (w0 : World) (hd : (vtI h b g V).holds w0) (fA : Stable (vtI h b g V).foot w0 (AllI V.xs)) (fl : Stable (vtI h b g V).foot w0 (GlF q l)) :
    Ret Tryz.prog 29 [.pointer (some ⟨h, 0, none⟩), .slice q l.length d] w0 (vtI h b g V).foot fun v w' => ∃ V', v = .int .i64 (putV V.L.v (rsP V.xs) (rsP l)).2.2 ∧ (vtI h b g V').holds w' ∧ (∀ k, (vtI h b g V').foot k → (vtI h b g V).foot k ∨ w0.heap.size ≤ k) ∧ V'.L.m = V.L.m ∧ V'.L.v = (putV V.L.v (rsP V.xs) (rsP l)).1 ∧ rsP V'.xs = (putV V.L.v (rsP V.xs) (rsP l)).2.1 ∧ ∀ y ∈ V'.xs, y ∈ V.xs ∨ y ∈ l := by
  obtain ⟨L, p, c, xs⟩ := V
  have hxl : xs.length ≤ 64 := hxl
  have hkp : KeptP (rsP xs) := hkp
  have hwf : L.v.Wf k := hwf
  have hn1 := hwf.n
  have hn2 := hwf.fin
  refine enter Tryz.func29 rfl rfl (Wd.it2Lent (x := Wk.box h 144 (cVt g ⟨L, p, c, xs⟩)) (y := both (lgI b g L) (rwI ⟨L, p, c, xs⟩)) (fs := [AllI xs, GlF q l]) hd rfl rfl (by simp; exact ⟨fA, fl⟩)) (fun a S => ?_)
  simp only [Tryz.ntmps29, List.length_cons, List.length_nil, Nat.reduceAdd, Nat.reduceSub, List.replicate_succ, List.replicate_zero, List.cons_append, List.nil_append] at S
  refine c_seq ?_
  refine c_region ?_
  refine sq S ?_; clear S; intro a S
  refine wl_nil ?_
  refine xtn ?_
  refine c_seq ?_
  refine c_block ?_
  refine c_seq ?_
  refine c_region ?_
  iterate 3 (refine sq S ?_; clear S; intro a S)
  refine wl_nil ?_
  refine xtn ?_
  refine c_condF S ?_
  refine c_seq ?_
  refine c_region ?_
  iterate 4 (refine sq S ?_; clear S; intro a S)
  replace S := S.front (both (lgI b g L) (rwI ⟨L, p, c, xs⟩))
  replace S := S.ofBoth
  refine sr S (broken_v b g L _ (S.it (lgI b g L))) ?_; clear S; rintro _ a w rfl S
  refine sq S ?_; clear S; intro a S
  refine wl_nil ?_
  refine xtn ?_
  refine c_cond S (fun h3 => ?_) (fun h3 => ?_)
  · refine c_seq ?_
    refine c_region ?_
    refine sq S ?_; clear S; intro a S
    refine wl_nil ?_
    refine xtn ?_
    refine c_ret ?_
    refine xbr ?_
    refine xtr ?_
    have hv : putV L.v (rsP xs) (rsP l) = (L.v, rsP xs, 8) := by rw [putV, if_pos h3]
    replace S := (((S.front (rwI ⟨L, p, c, xs⟩)).front (lgI b g L)).toBoth.front (Wk.box h 144 (cVt g ⟨L, p, c, xs⟩))).toBoth
    have h1 := S.it (vtI h b g ⟨L, p, c, xs⟩)
    have h2 := S.itNew (vtI h b g ⟨L, p, c, xs⟩) rfl
    exact end1 S (fun _ => ⟨⟨L, p, c, xs⟩, by rw [hv], h1, h2, rfl, by rw [hv], by rw [hv], fun y hy => .inl hy⟩)
  · refine c_skip ?_
    refine xbn ?_
    refine xtn ?_
    refine c_seq ?_
    refine c_region ?_
    refine sq S ?_; clear S; intro a S
    have hbr : ¬ L.v.broken = true := by simpa using h3
    refine srn S (vencode_q l q l.length d _ rfl hdl hnl (by omega) (S.gl0 q)) ?_; clear S; rintro _ a w ⟨p5, c5, rfl, hown, hnew⟩ hS -
    have S := hS hown hnew
    clear hS
    iterate 5 (refine sq S ?_; clear S; intro a S)
    refine wl_nil ?_
    refine xtn ?_
    iterate 2 (refine c_seq ?_)
    refine c_region ?_
    iterate 2 (refine sq S ?_; clear S; intro a S)
    refine wl_nil ?_
    refine xtn ?_
    refine c_cond S (fun h6 => ?_) (fun h6 => ?_)
    · refine c_seq ?_
      refine c_region ?_
      iterate 2 (refine sq S ?_; clear S; intro a S)
      refine wl_nil ?_
      refine xtn ?_
      refine c_ret ?_
      refine xtr ?_
      have hB : batchP (rsP l) = false := by
        cases hb : batchP (rsP l) with
        | false => rfl
        | true => rw [encE, hb] at h6; simp at h6
      have hv : putV L.v (rsP xs) (rsP l) = (L.v, rsP xs, 2) := by rw [putV, if_neg hbr, if_pos hB]
      have he : encE (rsP l) = 2 := by rw [encE, hB]; rfl
      replace S := (((S.front (rwI ⟨L, p, c, xs⟩)).front (lgI b g L)).toBoth.front (Wk.box h 144 (cVt g ⟨L, p, c, xs⟩))).toBoth
      have h1 := S.it (vtI h b g ⟨L, p, c, xs⟩)
      have h2 := S.itNew (vtI h b g ⟨L, p, c, xs⟩) rfl
      exact end1 S (fun _ => ⟨⟨L, p, c, xs⟩, by rw [hv, he], h1, h2, rfl, by rw [hv], by rw [hv], fun y hy => .inl hy⟩)
    · refine c_skip ?_
      refine xtn ?_
      refine c_seq ?_
      have hB : batchP (rsP l) = true := by
        cases hb : batchP (rsP l) with
        | true => rfl
        | false => rw [encE, hb] at h6; simp at h6
      have hQ : encQ (rsP l) = encP (rsP l) := by rw [encQ, hB]; rfl
      have hQl := encP_len hB
      rw [hQ] at S
      refine c_region ?_
      iterate 5 (refine sq S ?_; clear S; intro a S)
      refine srn S (vbehind_c xs p c l q d w (by omega) (by omega) (gl_own (S.row p xs.length) ((S.mem.fact (AllI xs)).less fun _ _ h => h.elim) (fun _ _ h => h)) (S.gl0 q) hkp.up) ?_; clear S; rintro _ a w ⟨ys, p8, c8, rfl, hown8, hnew8, hys, hmem⟩ hS -
      have S := hS hown8 hnew8
      clear hS
      have hyl : ys.length = (behP (rsP xs) (rsP l)).length := by rw [← hys, rsP_len]
      have hky : KeptP (rsP ys) := by rw [hys]; exact keptP_beh hkp hB
      refine sq S ?_; clear S; intro a S
      refine wl_nil ?_
      refine xtn ?_
      iterate 2 (refine c_seq ?_)
      refine c_region ?_
      iterate 3 (refine sq S ?_; clear S; intro a S)
      refine wl_nil ?_
      refine xtn ?_
      refine c_cond S (fun h9 => ?_) (fun h9 => ?_)
      · refine c_seq ?_
        refine c_region ?_
        refine sq S ?_; clear S; intro a S
        refine wl_nil ?_
        refine xtn ?_
        refine c_ret ?_
        refine xtr ?_
        have h9' : 64 < (behP (rsP xs) (rsP l)).length := by have := of_decide_eq_true h9; omega
        have hv : putV L.v (rsP xs) (rsP l) = (L.v, rsP xs, 6) := by rw [putV, if_neg hbr, if_neg (by rw [hB]; simp), if_pos h9']
        replace S := (((S.front (rwI ⟨L, p, c, xs⟩)).front (lgI b g L)).toBoth.front (Wk.box h 144 (cVt g ⟨L, p, c, xs⟩))).toBoth
        have h1 := S.it (vtI h b g ⟨L, p, c, xs⟩)
        have h2 := S.itNew (vtI h b g ⟨L, p, c, xs⟩) rfl
        exact end1 S (fun _ => ⟨⟨L, p, c, xs⟩, by rw [hv], h1, h2, rfl, by rw [hv], by rw [hv], fun y hy => .inl hy⟩)
      · refine c_skip ?_
        refine xtn ?_
        refine c_mrge2 S (fun (L2 : LG) (e : Int) uu => [(5, uu 5), (0, .int .i64 e), (1, uu 8), (26, uu 35), (0, uu 36), (0, uu 37), (0, uu 38), (0, uu 39), (0, uu 40), (0, uu 41), (0, uu 42), (0, uu 43), (0, uu 44), (0, uu 45), (0, uu 46), (0, uu 47), (0, uu 48), (0, uu 49), (0, uu 50), (0, uu 51), (0, uu 52), (0, uu 53), (0, uu 54), (0, uu 55), (0, uu 56), (0, uu 57), (0, uu 58), (0, uu 59), (0, uu 60), (0, uu 61), (0, uu 62), (0, uu 63), (0, uu 64), (0, uu 65), (0, uu 66), (0, uu 67), (0, uu 68), (0, uu 69)]) (fun (L2 : LG) (e : Int) => [lgI b g L2, Wk.row 150 6 p8 ys.length c8 (encL ys), Wk.box h 144 (cVt g ⟨L, p, c, xs⟩), rwI ⟨L, p, c, xs⟩]) (fun (L2 : LG) (e : Int) => [AllI ys, AllI xs, GlF q l]) (fun (L2 : LG) (e : Int) => L2.m = L.m ∧ L2.v = (putR L.v (rsP xs) (rsP l)).1 ∧ e = (putR L.v (rsP xs) (rsP l)).2) ?_ ?_
        · refine c_seq ?_
          have h9' : ¬ 64 < (behP (rsP xs) (rsP l)).length := by have := of_decide_eq_false h9; omega
          replace S := S.add (Φ := AllI ys) (fun w' hw' y hy => (hmem y hy).elim (fun h => S.wd.facts (AllI xs) (by simp) w' hw' y h) (fun h => (S.wd.facts (GlF q l) (by simp) w' hw').2 y h))
          refine c_region ?_
          iterate 2 (refine sq S ?_; clear S; intro a S)
          refine sr S (sectors_c ((encP (rsP l)).length : Int) _) ?_; clear S; rintro _ a w rfl S
          refine sq S ?_; clear S; intro a S
          refine wl_nil ?_
          refine xtn ?_
          refine c_seq ?_
          refine c_region ?_
          iterate 3 (refine sq S ?_; clear S; intro a S)
          refine gS S (fun hs1 S => ?_) (fun hs1 S => ?_)
          · refine gT S ?_
            refine sq S ?_; clear S; intro a S
            refine gT S ?_
            refine sq S ?_; clear S; intro a S
            refine gT S ?_
            refine sq S ?_; clear S; intro a S
            refine gT S ?_
            refine sq S ?_; clear S; intro a S
            refine gT S ?_
            refine sq S ?_; clear S; intro a S
            refine gT S ?_
            refine sr S (left_v b g L k hwf _ (S.it (lgI b g L))) ?_; clear S; rintro _ a w rfl S
            refine gT S ?_
            iterate 2 (refine sq S ?_; clear S; intro a S)
            refine wl_nil ?_
            refine xtn ?_
            refine c_cond S (fun h12 => ?_) (fun h12 => ?_)
            · refine c_region ?_
              iterate 5 (refine sq S ?_; clear S; intro a S)
              have hfit : fitsV L.v (encP (rsP l)) = true := by rw [fitsV, hs1, h12]; rfl
              have hsm := (secF_pos (of_decide_eq_true hs1)).2
              replace S := (S.front (Wk.row 5 1 p5 (encP (rsP l)).length c5 (encL (encP (rsP l))))).rowToGl p5 (encP (rsP l)) (e := 5) (sz := 1) (n := (encP (rsP l)).length) (c := c5) (fun _ _ _ _ => trivial)
              refine sit (lgI b g L) S (append_v b g L k ⟨p5, c5, encP (rsP l)⟩ hwf (by omega) (by show (encP (rsP l)).length ≤ _; omega) w (S.it (lgI b g L)) (S.lend (lgI b g L) (S.mem.fact (GlF p5 (encP (rsP l)))))) rfl ?_; clear S; rintro _ a w ⟨L2, rfl, hh2, hf2, hm2, hv2⟩ hS
              have S := hS (lgI b g L2) hh2 hf2
              clear hS
              refine sq S ?_; clear S; intro a S
              refine wl_nil ?_
              refine xtn ?_
              replace S := ((S.front (rwI ⟨L, p, c, xs⟩)).front (Wk.box h 144 (cVt g ⟨L, p, c, xs⟩))).front (Wk.row 150 6 p8 ys.length c8 (encL ys))
              replace S := S.front (lgI b g L2)
              exact ⟨L2, _, S.uu, ⟨hm2, by rw [putR, if_pos hfit]; exact hv2, by rw [putR, if_pos hfit]⟩, S.sub _ _⟩
            · refine c_seq ?_
              refine c_region ?_
              refine sq S ?_; clear S; intro a S
              have hfit : fitsV L.v (encP (rsP l)) = false := by
                rw [fitsV]
                first
                  | rw [hs1, h12]; rfl
                  | rw [hs1]; rfl
              have hlt := foots_lt S
              refine sr S (all_vf p8 ys.length c8 w) ?_; clear S; rintro _ a w ⟨g1, rfl, n1, f1⟩ S
              replace S := S.add (Φ := BoxF g1 142 [.slice p8 ys.length c8]) (BoxF.stable f1 (fun hm => by have := hlt _ hm; omega))
              refine srn S (collectR_c g1 ys p8 c8 (by omega) w ((S.mem.fact (BoxF g1 142 [.slice p8 ys.length c8])).less fun _ _ h => h.elim) (gl_own (S.row p8 ys.length) ((S.mem.fact (AllI ys)).less fun _ _ h => h.elim) (fun _ _ h => h))) ?_; clear S; rintro _ a w ⟨p9, c9, rfl, hown9, hnew9⟩ hS -
              have S := hS hown9 hnew9
              clear hS
              have hByes : batchP (rsP ys) = true := keptP_batch hky (by rw [rsP_len]; omega)
              have hn9 : ∀ x ∈ ys, x.name.length ≤ 9223372036854775807 := fun x hx => by have := (rightP_name (hky.right _ (rsP_mem hx))).2; have : x.name.length ≤ 32 := this; omega
              refine srn S (vencode_q ys p9 ys.length c9 _ rfl (own_le (S.row p9 ys.length)) hn9 (by omega) (gl_own (S.row p9 ys.length) ((S.mem.fact (AllI ys)).less fun _ _ h => h.elim) (fun _ _ h => h))) ?_; clear S; rintro _ a w ⟨p10, c10, rfl, hown10, hnew10⟩ hS -
              have S := hS hown10 hnew10
              clear hS
              have hQ2 : encQ (rsP ys) = encP (rsP ys) := by rw [encQ, hByes]; rfl
              have hE2 : encE (rsP ys) = 0 := by rw [encE, hByes]; rfl
              have hQl2 := encP_len hByes
              rw [hQ2, hE2] at S
              iterate 5 (refine sq S ?_; clear S; intro a S)
              refine wl_nil ?_
              refine xtn ?_
              refine c_seq ?_
              refine c_region ?_
              iterate 2 (refine sq S ?_; clear S; intro a S)
              refine wl_nil ?_
              refine xtn ?_
              refine c_condT S ?_
              refine c_region ?_
              iterate 5 (refine sq S ?_; clear S; intro a S)
              replace S := (S.front (Wk.row 5 1 p10 (encP (rsP ys)).length c10 (encL (encP (rsP ys))))).rowToGl p10 (encP (rsP ys)) (e := 5) (sz := 1) (n := (encP (rsP ys)).length) (c := c10) (fun _ _ _ _ => trivial)
              refine sit (lgI b g L) S (chk_v b g L k ⟨p10, c10, encP (rsP ys)⟩ hwf (by omega) (by show (encP (rsP ys)).length ≤ _; omega) w (S.it (lgI b g L)) (S.lend (lgI b g L) (S.mem.fact (GlF p10 (encP (rsP ys)))))) rfl ?_; clear S; rintro _ a w ⟨L2, rfl, hh2, hf2, hm2, hv2⟩ hS
              have S := hS (lgI b g L2) hh2 hf2
              clear hS
              refine sq S ?_; clear S; intro a S
              refine wl_nil ?_
              refine xtn ?_
              replace S := ((S.front (rwI ⟨L, p, c, xs⟩)).front (Wk.box h 144 (cVt g ⟨L, p, c, xs⟩))).front (Wk.row 150 6 p8 ys.length c8 (encL ys))
              replace S := S.front (lgI b g L2)
              exact ⟨L2, _, S.uu, ⟨hm2, by rw [putR, hfit, ← hys]; exact hv2, by rw [putR, hfit, ← hys]; rfl⟩, S.sub _ _⟩
          · refine gF S ?_; clear S; intro a S
            iterate 6 (refine gF S ?_; clear S; intro a S)
            refine sq S ?_; clear S; intro a S
            refine wl_nil ?_
            refine xtn ?_
            refine c_condF S ?_
            refine c_seq ?_
            refine c_region ?_
            refine sq S ?_; clear S; intro a S
            have hfit : fitsV L.v (encP (rsP l)) = false := by
              rw [fitsV]
              first
                | rw [hs1, h12]; rfl
                | rw [hs1]; rfl
            have hlt := foots_lt S
            refine sr S (all_vf p8 ys.length c8 w) ?_; clear S; rintro _ a w ⟨g1, rfl, n1, f1⟩ S
            replace S := S.add (Φ := BoxF g1 142 [.slice p8 ys.length c8]) (BoxF.stable f1 (fun hm => by have := hlt _ hm; omega))
            refine srn S (collectR_c g1 ys p8 c8 (by omega) w ((S.mem.fact (BoxF g1 142 [.slice p8 ys.length c8])).less fun _ _ h => h.elim) (gl_own (S.row p8 ys.length) ((S.mem.fact (AllI ys)).less fun _ _ h => h.elim) (fun _ _ h => h))) ?_; clear S; rintro _ a w ⟨p9, c9, rfl, hown9, hnew9⟩ hS -
            have S := hS hown9 hnew9
            clear hS
            have hByes : batchP (rsP ys) = true := keptP_batch hky (by rw [rsP_len]; omega)
            have hn9 : ∀ x ∈ ys, x.name.length ≤ 9223372036854775807 := fun x hx => by have := (rightP_name (hky.right _ (rsP_mem hx))).2; have : x.name.length ≤ 32 := this; omega
            refine srn S (vencode_q ys p9 ys.length c9 _ rfl (own_le (S.row p9 ys.length)) hn9 (by omega) (gl_own (S.row p9 ys.length) ((S.mem.fact (AllI ys)).less fun _ _ h => h.elim) (fun _ _ h => h))) ?_; clear S; rintro _ a w ⟨p10, c10, rfl, hown10, hnew10⟩ hS -
            have S := hS hown10 hnew10
            clear hS
            have hQ2 : encQ (rsP ys) = encP (rsP ys) := by rw [encQ, hByes]; rfl
            have hE2 : encE (rsP ys) = 0 := by rw [encE, hByes]; rfl
            have hQl2 := encP_len hByes
            rw [hQ2, hE2] at S
            iterate 5 (refine sq S ?_; clear S; intro a S)
            refine wl_nil ?_
            refine xtn ?_
            refine c_seq ?_
            refine c_region ?_
            iterate 2 (refine sq S ?_; clear S; intro a S)
            refine wl_nil ?_
            refine xtn ?_
            refine c_condT S ?_
            refine c_region ?_
            iterate 5 (refine sq S ?_; clear S; intro a S)
            replace S := (S.front (Wk.row 5 1 p10 (encP (rsP ys)).length c10 (encL (encP (rsP ys))))).rowToGl p10 (encP (rsP ys)) (e := 5) (sz := 1) (n := (encP (rsP ys)).length) (c := c10) (fun _ _ _ _ => trivial)
            refine sit (lgI b g L) S (chk_v b g L k ⟨p10, c10, encP (rsP ys)⟩ hwf (by omega) (by show (encP (rsP ys)).length ≤ _; omega) w (S.it (lgI b g L)) (S.lend (lgI b g L) (S.mem.fact (GlF p10 (encP (rsP ys)))))) rfl ?_; clear S; rintro _ a w ⟨L2, rfl, hh2, hf2, hm2, hv2⟩ hS
            have S := hS (lgI b g L2) hh2 hf2
            clear hS
            refine sq S ?_; clear S; intro a S
            refine wl_nil ?_
            refine xtn ?_
            replace S := ((S.front (rwI ⟨L, p, c, xs⟩)).front (Wk.box h 144 (cVt g ⟨L, p, c, xs⟩))).front (Wk.row 150 6 p8 ys.length c8 (encL ys))
            replace S := S.front (lgI b g L2)
            exact ⟨L2, _, S.uu, ⟨hm2, by rw [putR, hfit, ← hys]; exact hv2, by rw [putR, hfit, ← hys]; rfl⟩, S.sub _ _⟩
        · clear S; rintro L2 e uu a w ⟨hm2, hv2, he2⟩ S
          iterate 2 (refine c_seq ?_)
          have h9' : ¬ 64 < (behP (rsP xs) (rsP l)).length := by have := of_decide_eq_false h9; omega
          refine c_region ?_
          iterate 2 (refine sq S ?_; clear S; intro a S)
          refine wl_nil ?_
          refine xtn ?_
          refine c_cond S (fun h17 => ?_) (fun h17 => ?_)
          · refine c_region ?_
            iterate 4 (refine sq S ?_; clear S; intro a S)
            refine sw S ?_; clear S; intro a w S
            refine wl_nil ?_
            refine xtn ?_
            refine c_seq ?_
            refine c_region ?_
            iterate 2 (refine sq S ?_; clear S; intro a S)
            refine wl_nil ?_
            refine xtn ?_
            refine c_ret ?_
            have h17' : (putR L.v (rsP xs) (rsP l)).2 = 0 := by rw [← he2]; simpa using h17
            have hv : putV L.v (rsP xs) (rsP l) = ((putR L.v (rsP xs) (rsP l)).1, behP (rsP xs) (rsP l), (putR L.v (rsP xs) (rsP l)).2) := by rw [putV, if_neg hbr, if_neg (by rw [hB]; simp), if_neg h9', if_pos h17']
            replace S := (((S.front (rwI ⟨L2, p8, c8, ys⟩)).front (lgI b g L2)).toBoth.front (Wk.box h 144 (cVt g ⟨L2, p8, c8, ys⟩))).toBoth
            have h1 := S.it (vtI h b g ⟨L2, p8, c8, ys⟩)
            have h2 := S.itNew (vtI h b g ⟨L2, p8, c8, ys⟩) rfl
            exact end1 S (fun _ => ⟨⟨L2, p8, c8, ys⟩, by rw [hv, he2], h1, h2, hm2, by rw [hv]; exact hv2, by rw [hv]; exact hys, hmem⟩)
          · refine c_skip ?_
            refine xtn ?_
            refine c_seq ?_
            refine c_region ?_
            iterate 2 (refine sq S ?_; clear S; intro a S)
            refine wl_nil ?_
            refine xtn ?_
            refine c_ret ?_
            have h17' : ¬ (putR L.v (rsP xs) (rsP l)).2 = 0 := by rw [← he2]; simpa using h17
            have hv : putV L.v (rsP xs) (rsP l) = ((putR L.v (rsP xs) (rsP l)).1, rsP xs, (putR L.v (rsP xs) (rsP l)).2) := by rw [putV, if_neg hbr, if_neg (by rw [hB]; simp), if_neg h9', if_neg h17']
            replace S := (((S.front (rwI ⟨L, p, c, xs⟩)).front (lgI b g L2)).toBoth.front (Wk.box h 144 (cVt g ⟨L2, p, c, xs⟩))).toBoth
            have h1 := S.it (vtI h b g ⟨L2, p, c, xs⟩)
            have h2 := S.itNew (vtI h b g ⟨L2, p, c, xs⟩) rfl
            exact end1 S (fun _ => ⟨⟨L2, p, c, xs⟩, by rw [hv, he2], h1, h2, hm2, by rw [hv]; exact hv2, by rw [hv], fun y hy => .inl hy⟩)
end Go.Proofs.YtdakncgafdnjfaaGreat

/- Package vault: Get, Rows, Down, Format, Open without a log. -/
namespace Go.Proofs.YtdakncgafdnjfaaGreat
open Go Go.Wk
set_option synthInstance.maxSize 100000
set_option synthInstance.maxHeartbeats 400000
set_option maxRecDepth 100000

theorem vget_c (h g : Nat) (V : VT) (s : List UInt8) (w0 : World) (hxl : V.xs.length ≤ 1000) (f1 : Stable (fun _ => False) w0 (BoxF h 144 (cVt g V))) (f2 : Stable (fun _ => False) w0 (GlF V.p V.xs)) (hup : SortedP (rsP V.xs)) :
    Ret Tryz.prog 27 [.pointer (some ⟨h, 0, none⟩), str s] w0 (fun _ => False) fun v _ => ∃ i b, AtP V.xs s i b ∧ v = .tuple ⟨[vL (if b then (nthG V.xs i).term else zeroL), .bool b]⟩ := by
  obtain ⟨L, p, c, xs⟩ := V
  have hxl : xs.length ≤ 1000 := hxl
  refine enter Tryz.func27 rfl rfl (Wd.begin (fs := [BoxF h 144 (cVt g ⟨L, p, c, xs⟩), GlF p xs]) (by simp; exact ⟨f1, f2⟩)) (fun a S => ?_)
  simp only [Tryz.ntmps27, List.length_cons, List.length_nil, Nat.reduceAdd, Nat.reduceSub, List.replicate_succ, List.replicate_zero, List.cons_append, List.nil_append] at S
  refine c_seq ?_
  refine c_region ?_
  refine sa S ?_; clear S; intro b4 a w S
  refine sq S ?_; clear S; intro a S
  refine wl_nil ?_
  refine xtn ?_
  iterate 2 (refine c_seq ?_)
  refine c_region ?_
  iterate 2 (refine sq S ?_; clear S; intro a S)
  refine wl_nil ?_
  refine xtn ?_
  refine c_condF S ?_
  refine c_skip ?_
  refine xtn ?_
  refine c_seq ?_
  refine c_region ?_
  iterate 5 (refine sq S ?_; clear S; intro a S)
  refine sr S (rsearch_c xs p xs.length c s _ rfl (by omega) (S.gl0 p) hup) ?_; clear S; rintro _ a w ⟨i, b, rfl, hat⟩ S
  iterate 5 (refine sq S ?_; clear S; intro a S)
  refine wl_nil ?_
  refine xtn ?_
  iterate 2 (refine c_seq ?_)
  refine c_region ?_
  iterate 2 (refine sq S ?_; clear S; intro a S)
  refine wl_nil ?_
  refine xtn ?_
  refine c_cond S (fun h4 => ?_) (fun h4 => ?_)
  · refine c_seq ?_
    refine c_region ?_
    refine sq S ?_; clear S; intro a S
    refine sw S ?_; clear S; intro a w S
    refine sq S ?_; clear S; intro a S
    refine wl_nil ?_
    refine xtn ?_
    refine c_ret ?_
    refine xtr ?_
    have hb : b = false := by simpa using h4
    exact end2 S (fun _ => ⟨i, b, hat, by rw [hb]; rfl⟩)
  · refine c_skip ?_
    refine xtn ?_
    refine c_seq ?_
    have hb : b = true := by simpa using h4
    have hK : KLt i xs.length := ⟨hat.lt hb⟩
    refine c_region ?_
    iterate 8 (refine sq S ?_; clear S; intro a S)
    refine sw S ?_; clear S; intro a w S
    refine sq S ?_; clear S; intro a S
    refine wl_nil ?_
    refine xtn ?_
    refine c_ret ?_
    exact end2 S (fun _ => ⟨i, b, hat, by rw [hb]; rfl⟩)
theorem vrows_c (h g : Nat) (V : VT) (w0 : World) (hxl : V.xs.length ≤ 1000) (f1 : Stable (fun _ => False) w0 (BoxF h 144 (cVt g V))) (f2 : Stable (fun _ => False) w0 (GlF V.p V.xs)) :
    Ret Tryz.prog 26 [.pointer (some ⟨h, 0, none⟩)] w0 (fun _ => False) fun v w' => ∃ p' c', v = .slice p' V.xs.length c' ∧ w'.ownsRow 0 45 6 (.slice p' V.xs.length c') V.xs.length (encL V.xs) ∧ ∀ ad, p' = some ad → w0.heap.size ≤ ad.block := by
  obtain ⟨L, p, c, xs⟩ := V
  have hxl : xs.length ≤ 1000 := hxl
  refine enter Tryz.func26 rfl rfl (Wd.begin (fs := [BoxF h 144 (cVt g ⟨L, p, c, xs⟩), GlF p xs]) (by simp; exact ⟨f1, f2⟩)) (fun a S => ?_)
  simp only [Tryz.ntmps26, List.length_cons, List.length_nil, Nat.reduceAdd, Nat.reduceSub, List.replicate_succ, List.replicate_zero, List.cons_append, List.nil_append] at S
  refine c_seq ?_
  refine c_region ?_
  refine sq S ?_; clear S; intro a S
  refine wl_nil ?_
  refine xtn ?_
  iterate 2 (refine c_seq ?_)
  refine c_region ?_
  iterate 2 (refine sq S ?_; clear S; intro a S)
  refine wl_nil ?_
  refine xtn ?_
  refine c_condF S ?_
  refine c_skip ?_
  refine xtn ?_
  refine c_seq ?_
  refine c_region ?_
  iterate 4 (refine sq S ?_; clear S; intro a S)
  have hlt := foots_lt S
  refine sr S (all_vf p xs.length c _) ?_; clear S; rintro _ a w ⟨g1, rfl, n1, f1⟩ S
  replace S := S.add (Φ := BoxF g1 142 [.slice p xs.length c]) (BoxF.stable f1 (fun hm => by have := hlt _ hm; omega))
  refine srn S (collectR_c g1 xs p c (by omega) w ((S.mem.fact (BoxF g1 142 [.slice p xs.length c])).less fun _ _ h => h.elim) (S.gl0 p)) ?_; clear S; rintro _ a w ⟨p9, c9, rfl, hown9, hnew9⟩ hS -
  have S := hS hown9 hnew9
  clear hS
  refine sq S ?_; clear S; intro a S
  refine wl_nil ?_
  refine xtn ?_
  refine c_ret ?_
  have hrow := S.row p9 xs.length
  have hnew := S.rowNew p9 xs.length
  exact end1 S (fun _ => ⟨p9, c9, rfl, hrow, fun ad h => (hnew ad h).elim (fun h => h.elim) id⟩)
theorem vformat_nil (n : Int) (w0 : World) : Ret Tryz.prog 28 [.pointer none, .int .i64 n] w0 (fun _ => False) fun v _ => v = .tuple ⟨[.pointer none, .int .i64 1]⟩ := by
  refine enter Tryz.func28 rfl rfl (Wd.start w0) (fun a S => ?_)
  simp only [Tryz.ntmps28, List.length_cons, List.length_nil, Nat.reduceAdd, Nat.reduceSub, List.replicate_succ, List.replicate_zero, List.cons_append, List.nil_append] at S
  refine c_seq ?_
  refine c_region ?_
  iterate 2 (refine sq S ?_; clear S; intro a S)
  refine wl_nil ?_
  refine xtn ?_
  refine c_seq ?_
  refine c_region ?_
  iterate 2 (refine sq S ?_; clear S; intro a S)
  refine sr S (format_nil n _) ?_; clear S; rintro _ a w rfl S
  iterate 5 (refine sq S ?_; clear S; intro a S)
  refine wl_nil ?_
  refine xtn ?_
  iterate 2 (refine c_seq ?_)
  refine c_region ?_
  iterate 2 (refine sq S ?_; clear S; intro a S)
  refine wl_nil ?_
  refine xtn ?_
  refine c_condT S ?_
  refine c_seq ?_
  refine c_region ?_
  iterate 3 (refine sq S ?_; clear S; intro a S)
  refine wl_nil ?_
  refine xtn ?_
  refine c_ret ?_
  refine xtr ?_
  exact end2 S (fun _ => rfl)
theorem vformat_ok (b m n : Nat) (p : Option Addr) (c : Nat) (s : DS) (hm : mayF s n = true) (hl : s.loose.length ≤ 980000) (h0 : (fmtF n s).2 = 0) (w0 : World) (hd : (dkI b m p c s).holds w0) :
    Ret Tryz.prog 28 [.pointer (some ⟨b, 0, none⟩), .int .i64 (n : Int)] w0 (dkI b m p c s).foot fun v w' => ∃ h g L, v = .tuple ⟨[.pointer (some ⟨h, 0, none⟩), .int .i64 0]⟩ ∧ L.m = m ∧ L.v = fmtV n s ∧ (vtI h b g ⟨L, none, 0, []⟩).holds w' ∧ ∀ k, (vtI h b g ⟨L, none, 0, []⟩).foot k → (dkI b m p c s).foot k ∨ w0.heap.size ≤ k := by
  refine enter Tryz.func28 rfl rfl (Wd.itLent (x := dkI b m p c s) (fs := []) hd (by simp)) (fun a S => ?_)
  simp only [Tryz.ntmps28, List.length_cons, List.length_nil, Nat.reduceAdd, Nat.reduceSub, List.replicate_succ, List.replicate_zero, List.cons_append, List.nil_append] at S
  refine c_seq ?_
  refine c_region ?_
  iterate 2 (refine sq S ?_; clear S; intro a S)
  refine wl_nil ?_
  refine xtn ?_
  refine c_seq ?_
  refine c_region ?_
  iterate 2 (refine sq S ?_; clear S; intro a S)
  refine sit (dkI b m p c s) S (format_v b m n p c s hm hl _ (S.it (dkI b m p c s))) rfl ?_; clear S; rintro _ a w (⟨h, -⟩ | ⟨-, g, L, rfl, hm2, hv2, hh2, hf2⟩) hS
  · exact absurd h0 h
  have S := hS (lgI b g L) hh2 hf2
  clear hS
  iterate 5 (refine sq S ?_; clear S; intro a S)
  refine wl_nil ?_
  refine xtn ?_
  iterate 2 (refine c_seq ?_)
  refine c_region ?_
  iterate 2 (refine sq S ?_; clear S; intro a S)
  refine wl_nil ?_
  refine xtn ?_
  refine c_condF S ?_
  refine c_skip ?_
  refine xtn ?_
  refine c_seq ?_
  refine c_region ?_
  iterate 2 (refine sq S ?_; clear S; intro a S)
  refine sa S ?_; clear S; intro b19 a w S
  iterate 2 (refine sq S ?_; clear S; intro a S)
  refine wl_nil ?_
  refine xtn ?_
  refine c_ret ?_
  replace S := S.addNil 150 6
  rw [show Wk.row 150 6 none 0 0 [] = rwI ⟨L, none, 0, []⟩ from rfl] at S
  rw [show [Value.pointer (some ⟨g, 0, none⟩), Value.slice none 0 0] = cVt g ⟨L, none, 0, []⟩ from rfl] at S
  replace S := (((S.front (rwI ⟨L, none, 0, []⟩)).front (lgI b g L)).toBoth.front (Wk.box b19 144 (cVt g ⟨L, none, 0, []⟩))).toBoth
  have h1 := S.it (vtI b19 b g ⟨L, none, 0, []⟩)
  have h2 := S.itNew (vtI b19 b g ⟨L, none, 0, []⟩) rfl
  exact end2 S (fun _ => ⟨b19, g, L, rfl, hm2, hv2, h1, h2⟩)
theorem vopen_nil (w0 : World) : Ret Tryz.prog 24 [.pointer none] w0 (fun _ => False) fun v _ => v = .tuple ⟨[.pointer none, .int .i64 1]⟩ := by
  refine enter Tryz.func24 rfl rfl (Wd.start w0) (fun a S => ?_)
  simp only [Tryz.ntmps24, List.length_cons, List.length_nil, Nat.reduceAdd, Nat.reduceSub, List.replicate_succ, List.replicate_zero, List.cons_append, List.nil_append] at S
  refine c_seq ?_
  refine c_region ?_
  refine sa S ?_; clear S; intro b2 a w S
  refine sa S ?_; clear S; intro b3 a w S
  refine wl_nil ?_
  refine xtn ?_
  refine c_seq ?_
  refine c_region ?_
  refine sq S ?_; clear S; intro a S
  refine sr S (open_nil _) ?_; clear S; rintro _ a w rfl S
  iterate 5 (refine sq S ?_; clear S; intro a S)
  refine wl_nil ?_
  refine xtn ?_
  iterate 2 (refine c_seq ?_)
  refine c_region ?_
  iterate 2 (refine sq S ?_; clear S; intro a S)
  refine wl_nil ?_
  refine xtn ?_
  refine c_condT S ?_
  refine c_seq ?_
  refine c_region ?_
  refine sq S ?_; clear S; intro a S
  iterate 2 (refine sw S ?_; clear S; intro a w S)
  refine wl_nil ?_
  refine xtn ?_
  refine c_ret ?_
  refine xtr ?_
  exact end2 S (fun _ => rfl)
theorem vopen_no (b m : Nat) (p : Option Addr) (c : Nat) (s : DS) (hl : s.loose.length ≤ 980000) (h0 : (openF s).2.1 ≠ 0) (w0 : World) (hd : (dkI b m p c s).holds w0) :
    Ret Tryz.prog 24 [.pointer (some ⟨b, 0, none⟩)] w0 (dkI b m p c s).foot fun v w' => v = .tuple ⟨[.pointer none, .int .i64 (openF s).2.1]⟩ ∧ ∃ p' c', (dkI b m p' c' (openF s).1).holds w' ∧ ∀ k, (dkI b m p' c' (openF s).1).foot k → (dkI b m p c s).foot k ∨ w0.heap.size ≤ k := by
  refine enter Tryz.func24 rfl rfl (Wd.itLent (x := dkI b m p c s) (fs := []) hd (by simp)) (fun a S => ?_)
  simp only [Tryz.ntmps24, List.length_cons, List.length_nil, Nat.reduceAdd, Nat.reduceSub, List.replicate_succ, List.replicate_zero, List.cons_append, List.nil_append] at S
  refine c_seq ?_
  refine c_region ?_
  refine sa S ?_; clear S; intro b2 a w S
  refine sa S ?_; clear S; intro b3 a w S
  refine wl_nil ?_
  refine xtn ?_
  refine c_seq ?_
  refine c_region ?_
  refine sq S ?_; clear S; intro a S
  refine sit (dkI b m p c s) S (openV_c b m p c s hl _ (S.it (dkI b m p c s))) rfl ?_; clear S; rintro _ a w (⟨-, rfl, p', c', hh2, hf2⟩ | ⟨h, -⟩) hS
  rotate_left
  · exact absurd h h0
  have S := hS (dkI b m p' c' (openF s).1) hh2 hf2
  clear hS
  generalize (openF s).2.1 = e at S h0
  iterate 5 (refine sq S ?_; clear S; intro a S)
  refine wl_nil ?_
  refine xtn ?_
  iterate 2 (refine c_seq ?_)
  refine c_region ?_
  iterate 2 (refine sq S ?_; clear S; intro a S)
  rw [show (!decide (e = 0)) = true from by simpa using h0] at S
  refine wl_nil ?_
  refine xtn ?_
  refine c_condT S ?_
  refine c_seq ?_
  refine c_region ?_
  refine sq S ?_; clear S; intro a S
  iterate 2 (refine sw S ?_; clear S; intro a w S)
  refine wl_nil ?_
  refine xtn ?_
  refine c_ret ?_
  refine xtr ?_
  have h1 := S.it (dkI b m p' c' (openF s).1)
  have h2 := S.itNew (dkI b m p' c' (openF s).1) rfl
  exact end2 S (fun _ => ⟨rfl, p', c', h1, h2⟩)
end Go.Proofs.YtdakncgafdnjfaaGreat

/- Law 19: a fresh disk; wakes. -/
namespace Go.Proofs.YtdakncgafdnjfaaGreat
open Go Go.Wk
set_option synthInstance.maxSize 100000
set_option synthInstance.maxHeartbeats 400000
set_option maxRecDepth 100000

theorem lfresh_c (w0 : World) : Ret Tryz.prog 17 [] w0 (fun _ => False) fun v w' => ∃ b m, v = .pointer (some ⟨b, 0, none⟩) ∧ (dkI b m none 0 (newD 602)).holds w' ∧ ∀ k, (dkI b m none 0 (newD 602)).foot k → w0.heap.size ≤ k := by
  refine enter Tryz.func17 rfl rfl (Wd.start w0) (fun a S => ?_)
  simp only [Tryz.ntmps17, List.length_nil, Nat.reduceSub, List.replicate_succ, List.replicate_zero, List.nil_append] at S
  refine c_seq ?_
  refine c_region ?_
  refine sq S ?_; clear S; intro a S
  refine wl_nil ?_
  refine xtn ?_
  refine c_seq ?_
  refine c_region ?_
  refine snew S (dnew_dk 602 (by omega) _) ?_; clear S; rintro _ a w - ⟨b, m, rfl, hh, hnw⟩ hS -
  have S := hS (dkI b m none 0 (newD 602)) hh hnw
  clear hS
  iterate 5 (refine sq S ?_; clear S; intro a S)
  refine wl_nil ?_
  refine xtn ?_
  refine c_seq ?_
  refine c_region ?_
  iterate 2 (refine sq S ?_; clear S; intro a S)
  refine wl_nil ?_
  refine xtn ?_
  refine c_ret ?_
  have h1 := S.it (dkI b m none 0 (newD 602))
  have h2 := S.itNew (dkI b m none 0 (newD 602)) rfl
  exact end1 S (fun _ => ⟨b, m, rfl, h1, fun k hk => (h2 k hk).elim (fun h => h.elim) id⟩)
theorem lt_leaf (w : World) (k u n : Int) (s : List UInt8) : LtIn w (.mk k u n s none 0 []) := by
  rw [LtIn.iff]; exact ⟨Nat.le_refl _, Nat.zero_le _, trivial⟩
theorem row_one {xs : List LRow} {r : PRow} (h : rsP xs = [r]) : ∃ x, xs = [x] ∧ x.r = r := by
  match xs, h with
  | [x], h => exact ⟨x, rfl, by simpa [rsP] using h⟩
theorem at_one {x : LRow} {i : Nat} {b : Bool} (h : AtP [x] x.name i b) : i = 0 ∧ b = true := by
  obtain ⟨h1, h2, h3, h4⟩ := h
  have hi : i = 0 := by
    rcases Nat.eq_zero_or_pos i with h | h
    · exact h
    · have := h2 0 h
      rw [show (nthG [x] 0).name = x.name from rfl, bl_irrefl] at this; cases this
  subst hi
  exact ⟨rfl, by rw [h4]; simp [show (nthG [x] 0).name = x.name from rfl]⟩
def lw1 : List LRow := [⟨[97], textL [120]⟩, ⟨[98], secretL 1⟩]
def lw2 : List LRow := [⟨[97], zeroL⟩]
theorem lw2_p : rsP lw2 = wk2 := rfl
theorem vwakes_c (w0 : World) : Ret Tryz.prog 12 [] w0 (fun _ => False) fun v _ => v = .bool true := by
  have h0 := fmt_lv 300 (by omega)
  obtain ⟨b1, b2, b3⟩ := wk1_ok
  obtain ⟨c1, c2, c3⟩ := wk2_ok
  obtain ⟨e1, f1, g1⟩ := putV_off h0 [] wk1 b1 (by rw [b2]; decide) (by omega) (by rw [b3]; decide)
  rw [b2] at f1
  obtain ⟨e2, f2, g2⟩ := putV_off g1 wk1 wk2 c1 (by rw [c2]; decide) (by omega) (by rw [c3, endF_sum, List.map_append, List.sum_append, List.map_cons, List.map_nil, List.map_cons, List.map_nil, b3]; decide)
  rw [c2] at f2
  obtain ⟨V0, hV0⟩ : ∃ V0, V0 = fmtV 300 (newD ((2 * 300 + 2 : Nat) : Int)) := ⟨_, rfl⟩
  rw [← hV0] at h0 e1 f1 g1 e2 f2 g2
  refine enter Tryz.func12 rfl rfl (Wd.start w0) (fun a S => ?_)
  simp only [Tryz.ntmps12, List.length_nil, Nat.reduceSub, List.replicate_succ, List.replicate_zero, List.nil_append] at S
  refine c_seq ?_
  refine c_region ?_
  refine sq S ?_; clear S; intro a S
  refine wl_nil ?_
  refine xtn ?_
  refine c_seq ?_
  refine c_region ?_
  refine snew S (lfresh_c _) ?_; clear S; rintro _ a w - ⟨b, m, rfl, hh, hnw⟩ hS -
  have S := hS (dkI b m none 0 (newD 602)) hh hnw
  clear hS
  refine sit (dkI b m none 0 (newD 602)) S (vformat_ok b m 300 none 0 (newD 602) (by simp [mayF, newD]) (by simp [newD]) (format_live 300 (by omega)).1 _ (S.it (dkI b m none 0 (newD 602)))) rfl ?_; clear S; rintro _ a w ⟨h, g, L, rfl, hm2, hv2, hh2, hf2⟩ hS
  have S := hS (vtI h b g ⟨L, none, 0, []⟩) hh2 hf2
  clear hS
  iterate 5 (refine sq S ?_; clear S; intro a S)
  refine wl_nil ?_
  refine xtn ?_
  iterate 2 (refine c_seq ?_)
  refine c_region ?_
  iterate 2 (refine sq S ?_; clear S; intro a S)
  refine wl_nil ?_
  refine xtn ?_
  refine c_condF S ?_
  refine c_skip ?_
  refine xtn ?_
  refine c_seq ?_
  refine c_region ?_
  refine sq S ?_; clear S; intro a S
  refine sc S ?_; clear S; intro a w S
  refine sq S ?_; clear S; intro a S
  refine sc S ?_; clear S; intro a w S
  refine sq S ?_; clear S; intro a S
  refine sn S ?_; clear S; intro b19 a w S
  replace hv2 : L.v = V0 := hv2.trans hV0.symm
  replace S := S.boxRow b19 6 2 rfl (by simp [maxLen])
  rw [show ([.string ⟨#[97]⟩, .int .i64 (textL [120]).kind, .int .i64 (textL [120]).user, .int .i64 (textL [120]).num, str (textL [120]).text, .slice (textL [120]).p (textL [120]).kids.length (textL [120]).cap, .string ⟨#[98]⟩, .int .i64 (secretL 1).kind, .int .i64 (secretL 1).user, .int .i64 (secretL 1).num, str (secretL 1).text, .slice (secretL 1).p (secretL 1).kids.length (secretL 1).cap] : List Value) = encL lw1 from rfl] at S
  replace S := S.rowToGl (some ⟨b19, 0, none⟩) lw1 (e := 45) (sz := 6) (n := 2) (c := 2) (fun w' _ x hx => by
    simp only [lw1, List.mem_cons, List.not_mem_nil, or_false] at hx
    rcases hx with rfl | rfl
    · exact lt_leaf w' 1 0 0 [120]
    · exact lt_leaf w' 3 1 0 [])
  refine sit (vtI h b g ⟨L, none, 0, []⟩) S (vput_c h b g ⟨L, none, 0, []⟩ lw1 (some ⟨b19, 0, none⟩) 2 0 (by show L.v.Wf 0; rw [hv2]; exact h0.ok.wf) (by omega) keptP_nil (by simp) (by decide) (by decide) (by decide) w (S.it (vtI h b g ⟨L, none, 0, []⟩)) (fun _ _ x hx => by cases hx) (S.lend (vtI h b g ⟨L, none, 0, []⟩) (S.mem.fact (GlF (some ⟨b19, 0, none⟩) lw1)))) rfl ?_; clear S; rintro _ a w ⟨V1, rfl, hh3, hf3, hm3, hv3, hx3, hmem3⟩ hS
  have S := hS (vtI h b g V1) hh3 hf3
  clear hS
  rw [show (putV (VT.L ⟨L, none, 0, []⟩).v (rsP (VT.xs ⟨L, none, 0, []⟩)) (rsP lw1)).2.2 = 0 from by show (putV L.v [] wk1).2.2 = 0; rw [hv2]; exact e1] at S
  replace hx3 : rsP V1.xs = wk1 := by rw [hx3]; show (putV L.v [] wk1).2.1 = wk1; rw [hv2]; exact f1
  replace hv3 : V1.L.v = (putV V0 [] wk1).1 := by rw [hv3]; show (putV L.v [] wk1).1 = _; rw [hv2]
  have hk3 : KeptP (rsP V1.xs) := by rw [hx3, ← b2]; exact keptP_beh keptP_nil b1
  have hl3 : V1.xs.length = 2 := by rw [← rsP_len, hx3]; rfl
  replace S := S.add (Φ := AllI V1.xs) (fun w' hw' y hy => (hmem3 y hy).elim (fun h => by cases h) (fun h => ((S.mem.fact (GlF (some ⟨b19, 0, none⟩) lw1)) w' hw').2 y h))
  refine sq S ?_; clear S; intro a S
  refine wl_nil ?_
  refine xtn ?_
  refine c_seq ?_
  refine c_region ?_
  iterate 2 (refine sq S ?_; clear S; intro a S)
  refine sn S ?_; clear S; intro b23 a w S
  replace S := S.boxRow b23 6 1 rfl (by simp [maxLen])
  rw [show ([.string ⟨#[97]⟩, .int .i64 0, .int .i64 0, .int .i64 0, .string ⟨#[]⟩, .slice none 0 0] : List Value) = encL lw2 from rfl] at S
  replace S := S.rowToGl (some ⟨b23, 0, none⟩) lw2 (e := 45) (sz := 6) (n := 1) (c := 1) (fun w' _ x hx => by
    simp only [lw2, List.mem_cons, List.not_mem_nil, or_false] at hx
    rcases hx with rfl
    exact lt_leaf w' 0 0 0 [])
  refine sit (vtI h b g V1) S (vput_c h b g V1 lw2 (some ⟨b23, 0, none⟩) 1 0 (by rw [hv3]; exact g1.ok.wf) (by omega) hk3 (by omega) (by decide) (by decide) (by decide) w (S.it (vtI h b g V1)) (S.lend (vtI h b g V1) (S.mem.fact (AllI V1.xs))) (S.lend (vtI h b g V1) (S.mem.fact (GlF (some ⟨b23, 0, none⟩) lw2)))) rfl ?_; clear S; rintro _ a w ⟨V2, rfl, hh4, hf4, hm4, hv4, hx4, hmem4⟩ hS
  have S := hS (vtI h b g V2) hh4 hf4
  clear hS
  rw [hv3, hx3, lw2_p] at hv4 hx4
  rw [show (putV V1.L.v (rsP V1.xs) (rsP lw2)).2.2 = 0 from by rw [hv3, hx3, lw2_p]; exact e2] at S
  replace hx4 : rsP V2.xs = [⟨[98], .mk 3 1 0 [] []⟩] := by rw [hx4]; exact f2
  obtain ⟨x, hxx, hxr⟩ := row_one hx4
  have hxn : x.name = [98] := congrArg PRow.name hxr
  have hxt : x.term.t = secretT 1 := congrArg PRow.term hxr
  have hl4 : V2.xs.length = 1 := by rw [hxx]; rfl
  have hup4 : SortedP (rsP V2.xs) := by rw [hx4]; exact List.pairwise_singleton _ _
  replace S := S.add (Φ := AllI V2.xs) (fun w' hw' y hy => (hmem4 y hy).elim (fun h => S.wd.facts (AllI V1.xs) (by simp) w' hw' y h) (fun h => ((S.mem.fact (GlF (some ⟨b23, 0, none⟩) lw2)) w' hw').2 y h))
  refine sq S ?_; clear S; intro a S
  refine wl_nil ?_
  refine xtn ?_
  refine c_seq ?_
  refine c_region ?_
  refine sq S ?_; clear S; intro a S
  replace S := S.ofBoth
  replace S := S.front (both (lgI b g V2.L) (rwI V2))
  replace S := S.ofBoth
  refine sr S (vget_c h g V2 [98] _ (by omega) ((BoxF.stable (S.box h) (fun h => h))) (gl_own (S.row V2.p V2.xs.length) ((S.mem.fact (AllI V2.xs)).less fun _ _ h => h.elim) (fun _ _ h => h)) hup4) ?_; clear S; rintro _ a w ⟨i, bb, hat, rfl⟩ S
  obtain ⟨rfl, rfl⟩ : i = 0 ∧ bb = true := by rw [hxx, ← hxn] at hat; exact at_one hat
  rw [show (if true then (nthG V2.xs 0).term else zeroL) = x.term from by rw [hxx]; rfl] at S
  iterate 3 (refine sq S ?_; clear S; intro a S)
  refine sa S ?_; clear S; intro b5 a w S
  refine sw S ?_; clear S; intro a w S
  refine sq S ?_; clear S; intro a S
  refine wl_nil ?_
  refine xtn ?_
  refine c_seq ?_
  have hxf : Stable (foots [Wk.box b5 43 x.term.cells, lgI b g V2.L, rwI V2, Wk.box h 144 (cVt g V2)]) w (LtF x.term) := (S.mem.fact (AllI V2.xs)).imp fun _ h => h x (by rw [hxx]; exact .head _)
  replace S := S.add (Φ := LtF x.term) hxf
  refine c_drawD [(0, true), (1, true), (2, true), (3, true), (4, true), (5, true), (6, true), (7, true), (8, false), (9, true), (10, true), (11, true), (12, true), (13, true), (14, true), (15, true), (16, true), (17, false), (18, false), (19, true), (20, true)] [] S ?_; clear S; intro w S
  iterate 2 (refine dq S ?_; clear S; intro a S)
  rw [show decide ((0 : Int) = 0) = true from rfl] at S
  refine dq S ?_; clear S; intro a S
  iterate 2 (refine dqG S ?_; clear S; intro a S)
  rw [show decide ((0 : Int) = 0) = true from rfl] at S
  iterate 2 (refine dq S ?_; clear S; intro a S)
  refine dqG S ?_; clear S; intro a S
  refine dl ?_
  refine gT S ?_
  refine srn S (vrows_c h g V2 _ (by omega) (BoxF.stable (S.box h) (fun h => h)) (gl_own (S.row V2.p V2.xs.length) ((S.mem.fact (AllI V2.xs)).less fun _ _ h => h.elim) (fun _ _ h => h))) ?_; clear S; rintro _ a w ⟨p9, c9, rfl, hown9, hnew9⟩ hS -
  have S := hS hown9 hnew9
  clear hS
  rw [hl4] at S
  refine de S ?_
  iterate 2 (refine dqG S ?_; clear S; intro a S)
  rw [show decide (((1 : Nat) : Int) = 1) = true from rfl] at S
  iterate 2 (refine dq S ?_; clear S; intro a S)
  refine dqG S ?_; clear S; intro a S
  iterate 2 (refine dq S ?_; clear S; intro a S)
  refine dqG S ?_; clear S; intro a S
  refine dl ?_
  refine gC S ?_; clear S; intro a w S
  refine de S ?_
  refine dl ?_
  refine gC S ?_; clear S; intro a w S
  refine de S ?_
  iterate 2 (refine dq S ?_; clear S; intro a S)
  refine dn ?_
  refine xtn ?_
  refine c_ret ?_
  refine end1 S (fun _ => ?_)
  rw [hxt]; rfl
end Go.Proofs.YtdakncgafdnjfaaGreat

/- Law 19: VaultNone. -/
namespace Go.Proofs.YtdakncgafdnjfaaGreat
open Go Go.Wk
set_option synthInstance.maxSize 100000
set_option synthInstance.maxHeartbeats 400000
set_option maxRecDepth 100000

theorem open_new (k : Int) (hk : 1 < k) : (openF (newD k)).2.1 = 140 := by
  have hu : Up (newD k) := ⟨rfl, rfl⟩
  have hz : tellN zB = 0 := by decide
  have h0 : ∀ i B, cntStep (newD k) i zB B = B := fun i B => by
    rw [cntStep, if_neg]
    intro hc
    rw [candF, hz] at hc
    simp [mayF] at hc
  have e : cntF (newD k) = (opD (opD (newD k)), 140, ⟨false, 0, 0⟩) := by
    rw [cntR_up (newD k) hu hk, show holdsF (newD k) 0 = zB from rfl, show holdsF (newD k) 1 = zB from rfl, h0, h0]
    rfl
  rw [openF, e]
  rfl
theorem vnone_c (p : Option Addr) (n c : Nat) (s : List UInt8) (w0 : World) : Ret Tryz.prog 5 [.slice p n c, str s] w0 (fun _ => False) fun v _ => v = .bool true := by
  refine enter Tryz.func5 rfl rfl (Wd.start w0) (fun a S => ?_)
  simp only [Tryz.ntmps5, List.length_cons, List.length_nil, Nat.reduceAdd, Nat.reduceSub, List.replicate_succ, List.replicate_zero, List.cons_append, List.nil_append] at S
  refine c_seq ?_
  refine c_region ?_
  refine sq S ?_; clear S; intro a S
  refine wl_nil ?_
  refine xtn ?_
  iterate 2 (refine c_seq ?_)
  refine c_region ?_
  refine sr S (vwakes_c _) ?_; clear S; rintro _ a w rfl S
  refine sq S ?_; clear S; intro a S
  refine wl_nil ?_
  refine xtn ?_
  refine c_condF S ?_
  refine c_skip ?_
  refine xtn ?_
  refine c_seq ?_
  refine c_region ?_
  refine sq S ?_; clear S; intro a S
  refine wl_nil ?_
  refine xtn ?_
  refine c_seq ?_
  refine c_region ?_
  iterate 2 (refine sq S ?_; clear S; intro a S)
  refine sr S (vget_nil s _) ?_; clear S; rintro _ a w rfl S
  iterate 3 (refine sq S ?_; clear S; intro a S)
  refine sa S ?_; clear S; intro b6 a w S
  refine sw S ?_; clear S; intro a w S
  refine sq S ?_; clear S; intro a S
  refine wl_nil ?_
  refine xtn ?_
  refine c_seq ?_
  refine c_region ?_
  refine sr S (vopen_nil _) ?_; clear S; rintro _ a w rfl S
  iterate 5 (refine sq S ?_; clear S; intro a S)
  refine wl_nil ?_
  refine xtn ?_
  refine c_seq ?_
  refine c_region ?_
  refine sr S (vformat_nil 300 _) ?_; clear S; rintro _ a w rfl S
  iterate 5 (refine sq S ?_; clear S; intro a S)
  refine wl_nil ?_
  refine xtn ?_
  refine c_seq ?_
  refine c_region ?_
  refine snew S (lfresh_c _) ?_; clear S; rintro _ a w - ⟨b, m, rfl, hh, hnw⟩ hS -
  have S := hS (dkI b m none 0 (newD 602)) hh hnw
  clear hS
  have ho := open_new 602 (by omega)
  have hr := vopen_no b m none 0 (newD 602) (by simp [newD]) (by rw [ho]; decide) w (S.it (dkI b m none 0 (newD 602)))
  rw [ho] at hr
  refine sit (dkI b m none 0 (newD 602)) S hr rfl ?_; clear S; rintro _ a w ⟨rfl, p', c', hh2, hf2⟩ hS
  have S := hS (dkI b m p' c' (openF (newD 602)).1) hh2 hf2
  clear hS
  iterate 5 (refine sq S ?_; clear S; intro a S)
  refine wl_nil ?_
  refine xtn ?_
  refine c_seq ?_
  refine c_region ?_
  iterate 2 (refine sq S ?_; clear S; intro a S)
  refine sr S (vput_nil p n c _) ?_; clear S; rintro _ a w rfl S
  refine sq S ?_; clear S; intro a S
  rw [show decide ((1 : Int) = 1) = true from rfl] at S
  refine sq S ?_; clear S; intro a S
  refine gT S ?_
  refine sq S ?_; clear S; intro a S
  refine gT S ?_
  refine sq S ?_; clear S; intro a S
  rw [show (!false) = true from rfl] at S
  iterate 2 (refine sq S ?_; clear S; intro a S)
  refine gT S ?_
  refine sq S ?_; clear S; intro a S
  refine gT S ?_
  refine sq S ?_; clear S; intro a S
  refine gT S ?_
  refine sq S ?_; clear S; intro a S
  rw [show decide (Wk.zeroL.kind = 0) = true from rfl] at S
  iterate 2 (refine sq S ?_; clear S; intro a S)
  refine gT S ?_
  refine sq S ?_; clear S; intro a S
  refine gT S ?_
  refine sr S (vrows_nil _) ?_; clear S; rintro _ a w rfl S
  refine gT S ?_
  refine sq S ?_; clear S; intro a S
  refine gT S ?_
  refine sq S ?_; clear S; intro a S
  rw [show decide (((0 : Nat) : Int) = 0) = true from rfl] at S
  iterate 2 (refine sq S ?_; clear S; intro a S)
  refine gT S ?_
  refine sq S ?_; clear S; intro a S
  refine gT S ?_
  refine sr S (vdown_nil _) ?_; clear S; rintro _ a w rfl S
  iterate 2 (refine sq S ?_; clear S; intro a S)
  refine gT S ?_
  refine sq S ?_; clear S; intro a S
  refine gT S ?_
  iterate 3 (refine sq S ?_; clear S; intro a S)
  refine gT S ?_
  refine sq S ?_; clear S; intro a S
  refine gT S ?_
  refine sq S ?_; clear S; intro a S
  rw [show decide ((1 : Int) = 1) = true from rfl] at S
  iterate 2 (refine sq S ?_; clear S; intro a S)
  refine gT S ?_
  refine sq S ?_; clear S; intro a S
  refine gT S ?_
  iterate 3 (refine sq S ?_; clear S; intro a S)
  refine gT S ?_
  refine sq S ?_; clear S; intro a S
  refine gT S ?_
  refine sq S ?_; clear S; intro a S
  rw [show decide ((1 : Int) = 1) = true from rfl] at S
  iterate 2 (refine sq S ?_; clear S; intro a S)
  refine gT S ?_
  refine sq S ?_; clear S; intro a S
  refine gT S ?_
  iterate 3 (refine sq S ?_; clear S; intro a S)
  refine gT S ?_
  refine sq S ?_; clear S; intro a S
  refine gT S ?_
  refine sq S ?_; clear S; intro a S
  rw [show decide ((140 : Int) = 140) = true from rfl] at S
  iterate 2 (refine sq S ?_; clear S; intro a S)
  refine wl_nil ?_
  refine xtn ?_
  refine c_ret ?_
  exact end1 S (fun _ => rfl)
end Go.Proofs.YtdakncgafdnjfaaGreat

/- VaultNone answers true at every input and leaves it as it was. No condition. -/
namespace Go.Proofs.YtdakncgafdnjfaaGreat
open Go Go.Wk
open Go.ChangeShapes Go.WideShapes Go.ChangeAt Go.RowKit
set_option maxRecDepth 100000

instance troStr : Tro Tryz.prog 9 (List UInt8) := troS Tryz.underlying9 (by kernel_rfl)
instance troRow : Tro Tryz.prog 45 LRow := ⟨fun enc w base spare held fuel cs x h => by
  obtain ⟨hlen, hf⟩ := trod_flds Tryz.underlying45 h
  rw [show Tryz.prog.cellsOf 45 = 6 from by kernel_rfl] at hlen
  obtain ⟨n0, y0, g0⟩ := hf 0 9 0 rfl
  obtain ⟨n1, y1, g1⟩ := hf 1 43 1 rfl
  obtain ⟨u, e0, i0⟩ := trod_fld (α := List UInt8) g0 rfl
  obtain ⟨t, e1, i1⟩ := trod_fld (α := LTerm) g1 rfl
  refine ⟨⟨u, t⟩, ?_, i1⟩
  match cs, hlen with
  | [c0, c1, c2, c3, c4, c5], _ =>
    have q0 : [c0] = [str u] := e0
    have q1 : [c1, c2, c3, c4, c5] = t.cells := e1
    show _ = str u :: t.cells
    simp only [List.cons.injEq, and_true] at q0
    rw [q0, ← q1], by kernel_rfl⟩
instance troRows : Tro Tryz.prog 22 (Sl LRow) := troSl Tryz.underlying22 (by kernel_rfl)
theorem open_str {H : Type} {enc : TypeId × Value → H} {P : Program} {w : World} {base : Nat} {sp : Nat → Bool} {held : Bool} {r : Reach} {b0 : Nat} {t : TypeId} {v : Value} {d : DataW H} {ps : List MemPlace} (ht : P.underlying t = some .string) (hval : Value.okWide P w r b0 t v) (hd : DataW.Trod enc P w base sp held t v d ps) :
    ∃ s : List UInt8, v = str s ∧ d = .lit (.string s) ∧ ps = [] := by
  obtain ⟨s, rfl, rfl, rfl, -⟩ := Go.ChangeMaps.open_string ht hval hd
  exact ⟨s.data.toList, by cases s; simp [str], rfl, rfl⟩
theorem vaultnone_lifted (os : Os) (started : os.Started) (H : Type) (enc : TypeId × Value → H) :
    ReturnsInHanded {} Tryz.checked os 5 .any (Rows.vaultNoneSpec.pre6 enc Tryz.prog Tryz.f5 Rows.vaultNoneRow.domain false) (Rows.vaultNoneSpec.post enc Tryz.prog Tryz.f5 false true false false) := by
  refine returnsInHanded_of_change (C := Tryz.checked) own started (by kernel_rfl) Tryz.func5
    (ChangeSpec.witness6 (enc := enc) (C := Tryz.checked) false ⟨#[], #[.slice none 0 0, .string .empty], []⟩ 8 (by kernel_rfl) (by kernel_rfl) (by kernel_rfl) (by kernel_rfl)) ?_
  intro W base args ds gs before hval0 hW _ _
  have hval : ∀ (j : Nat) t v, Tryz.f5.params[j]? = some t → args[j]? = some v → Value.okWide Tryz.prog W .any base t v := hval0
  have hW2 := hW
  obtain ⟨p, q, hA0, hV, rfl, _, _⟩ := hW
  have hA : DataW.TrodAll enc Tryz.prog W 0 (fun _ => true) true Tryz.f5.params.toList args.toList ds p := hA0
  rw [Tryz.params5] at hA hval
  obtain ⟨v0, v1, d0, d1, p0, p1, rfl, rfl, rfl, h0, h1⟩ := trodAll_two hA
  obtain ⟨rfl, rfl⟩ := trodVars_none hV
  obtain ⟨l, rfl, l_l, m_l, h_l⟩ := slice_of_Trod (α := LRow) Tryz.underlying22 h0 (hval 0 22 v0 rfl rfl)
  obtain ⟨s, rfl, rfl, rfl⟩ := open_str Tryz.underlying9 (hval 1 9 v1 rfl rfl) h1
  refine Ret.law (vnone_c l.p l.xs.length l.cap s W) fun W1 hag => ?_
  exact ⟨_, rfl, law_post (B := 4) laidOut (by kernel_rfl) rfl rfl rfl hW2 rfl rfl rfl hag⟩
theorem vaultnone_holds : Rows.VaultNoneSaid :=
  OpenClaim.holds_of_wide 5 Tryz.f5 rfl rfl rfl rfl rfl rfl rfl ⟨rfl, rfl, rfl, rfl, rfl⟩ rfl rfl rfl rfl rfl (by kernel_rfl) Tryz.func5 (by kernel_rfl)
    (of_decide_eq_true (by kernel_rfl)) (by unfold Func.isWrapper; rw [if_neg (of_decide_eq_false (by kernel_rfl))]; exact ⟨rfl, rfl⟩)
    (fun os started H enc _ => vaultnone_lifted os started H enc)
end Go.Proofs.YtdakncgafdnjfaaGreat
