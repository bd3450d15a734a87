/- 8: a part of this claim's texts, joined: SpoilC SpoilD LawTreeD RowTreeProofs. -/
import Derived.Test.YtieeoakdkbackaaDoorPt7
import Derived.Test.YtieeoakdkbackaaDoorTie
import Derived.Test.YtieeoakdkbackaaDoorCards
import Derived.SevenTiedAt
/- Proofs in new memory. -/
namespace Go.Proofs.YtieeoakdkbackaaDoor
open Go Go.Wk
set_option synthInstance.maxSize 100000
set_option synthInstance.maxHeartbeats 400000
set_option maxRecDepth 100000

def TUF (B0 : Nat) (t : LTerm) : World → Prop := fun w => TU (fun k => B0 ≤ k) w t
def AllTU (B0 : Nat) (ts : List LTerm) : World → Prop := fun w => ∀ t ∈ ts, TU (fun k => B0 ≤ k) w t
theorem AllTU.snoc {B0 : Nat} {M : Nat → Prop} {w : World} {L : List LTerm} {r : LTerm} (h : Stable M w (AllTU B0 L)) (hr : Stable M w (TUF B0 r)) : Stable M w (AllTU B0 (L ++ [r])) := fun w' hw x hx => by
  rcases List.mem_append.1 hx with hx | hx
  · exact h w' hw x hx
  · rw [List.mem_singleton.1 hx]; exact hr w' hw
def IsU (B0 : Nat) (M : Nat → Prop) (w : World) (v : Value) (T : Term) : Prop := ∃ q : LTerm, v = vL q ∧ q.t = T ∧ Stable M w (LtF q) ∧ Stable M w (TUF B0 q)
theorem hashU_c (B0 : Nat) (t : LTerm) (M : Nat → Prop) (w0 : World) (hM : ∀ k, M k → k < w0.heap.size) (hf : Stable M w0 (LtF t)) (hu : Stable M w0 (TUF B0 t)) (hB0 : B0 ≤ w0.heap.size) : Ret Tryd.prog 125 [vL t] w0 (fun _ => False) fun v w' => IsU B0 M w' v (.hash t.t) := by
  refine enter Tryd.func125 rfl rfl (Wd.beginM (M := M) (fs := [LtF t, TUF B0 t]) hM (by simp; exact ⟨hf, hu⟩)) (fun a S => ?_)
  simp only [Tryd.ntmps125, List.length_cons, List.length_nil, Nat.reduceAdd, Nat.reduceSub, List.replicate_succ, List.replicate_zero, List.cons_append, List.nil_append] at S
  refine c_seq ?_
  refine c_region ?_
  refine sa S ?_; clear S; intro b1 a w S
  refine sa S ?_; clear S; intro b2 a w S
  refine wl_nil ?_
  refine xtn ?_
  refine c_seq ?_
  refine c_region ?_
  refine sq S ?_; clear S; intro a S
  refine sn S ?_; clear S; intro b4 a w S
  refine sc S ?_; clear S; intro a w S
  refine sw S ?_; clear S; intro a w S
  refine wl_nil ?_
  refine xtn ?_
  refine c_ret ?_
  have hb : w0.heap.size ≤ b4 := (S.boxNew b4).elim (fun h => h.elim) id
  refine end1 S (fun _ => ?_)
  refine ⟨hashL (some ⟨b4, 0, none⟩) t, rfl, rfl, fun w' hw' => ?_, fun w' hw' => ?_⟩
  · have h1 := S.laterFact (Φ := LtF t) (by simp) w' hw'
    exact ⟨by simp, by simp [maxLen], LsIn.of_block [t] (S.laterBox hw' b4) (fun x hx => by obtain rfl := List.mem_singleton.1 hx; exact h1)⟩
  · have h1 := S.laterFact (Φ := TUF B0 t) (by simp) w' hw'
    have h2 := S.laterBox hw' b4
    show TU _ w' (hashL (some ⟨b4, 0, none⟩) t)
    rw [TU, LU, LU]
    exact ⟨⟨b4, _, _, rfl, Nat.le_trans hB0 hb, h2⟩, h1, trivial⟩
theorem pairU_c (B0 : Nat) (x y : LTerm) (M : Nat → Prop) (w0 : World) (hM : ∀ k, M k → k < w0.heap.size) (hx : Stable M w0 (LtF x)) (hy : Stable M w0 (LtF y)) (hux : Stable M w0 (TUF B0 x)) (huy : Stable M w0 (TUF B0 y)) (hB0 : B0 ≤ w0.heap.size) : Ret Tryd.prog 72 [vL x, vL y] w0 (fun _ => False) fun v w' => IsU B0 M w' v (.pair x.t y.t) := by
  refine enter Tryd.func72 rfl rfl (Wd.beginM (M := M) (fs := [LtF x, LtF y, TUF B0 x, TUF B0 y]) hM (by simp; exact ⟨hx, hy, hux, huy⟩)) (fun a S => ?_)
  simp only [Tryd.ntmps72, List.length_cons, List.length_nil, Nat.reduceAdd, Nat.reduceSub, List.replicate_succ, List.replicate_zero, List.cons_append, List.nil_append] at S
  refine c_seq ?_
  refine c_region ?_
  refine sa S ?_; clear S; intro b2 a w S
  refine sa S ?_; clear S; intro b3 a w S
  refine sa S ?_; clear S; intro b4 a w S
  refine wl_nil ?_
  refine xtn ?_
  refine c_seq ?_
  refine c_region ?_
  iterate 2 (refine sq S ?_; clear S; intro a S)
  refine sn S ?_; clear S; intro b7 a w S
  refine sc S ?_; clear S; intro a w S
  refine sw S ?_; clear S; intro a w S
  refine wl_nil ?_
  refine xtn ?_
  refine c_ret ?_
  have hb : w0.heap.size ≤ b7 := (S.boxNew b7).elim (fun h => h.elim) id
  refine end1 S (fun _ => ?_)
  refine ⟨pairL (some ⟨b7, 0, none⟩) x y, rfl, rfl, fun w' hw' => ?_, fun w' hw' => ?_⟩
  · have h1 := S.laterFact (Φ := LtF x) (by simp) w' hw'
    have h2 := S.laterFact (Φ := LtF y) (by simp) w' hw'
    exact ⟨by simp, by simp [maxLen], LsIn.of_block [x, y] (S.laterBox hw' b7) (by simpa using ⟨h1, h2⟩)⟩
  · have h1 := S.laterFact (Φ := TUF B0 x) (by simp) w' hw'
    have h2 := S.laterFact (Φ := TUF B0 y) (by simp) w' hw'
    have h3 := S.laterBox hw' b7
    show TU _ w' (pairL (some ⟨b7, 0, none⟩) x y)
    rw [TU, LU, LU, LU]
    exact ⟨⟨b7, _, _, rfl, Nat.le_trans hB0 hb, h3⟩, h1, ⟨b7, _, _, rfl, Nat.le_trans hB0 hb, h3⟩, h2, trivial⟩
theorem trowU_c (B0 : Nat) (m : LMark) (M : Nat → Prop) (w0 : World) (hm : 0 ≤ m.ver ∧ m.ver ≤ 65535) (hM : ∀ k, M k → k < w0.heap.size) (ht : Stable M w0 TabF) (hB0 : B0 ≤ w0.heap.size) : Ret Tryd.prog 100 [vMark m] w0 (fun _ => False) fun v w' => IsU B0 M w' v (.pair (textT m.key) (textT (Lib.itoa m.ver))) := by
  refine enter Tryd.func100 rfl rfl (Wd.beginM (M := M) (fs := [TabF]) hM (by simpa using ht)) (fun a S => ?_)
  simp only [Tryd.ntmps100, List.length_cons, List.length_nil, Nat.reduceAdd, Nat.reduceSub, List.replicate_succ, List.replicate_zero, List.cons_append, List.nil_append] at S
  refine c_seq ?_
  refine c_region ?_
  refine sa S ?_; clear S; intro b1 a w S
  refine sa S ?_; clear S; intro b2 a w S
  refine wl_nil ?_
  refine xtn ?_
  refine c_seq ?_
  refine c_drawD [(0, true), (1, true), (3, true), (4, true), (2, false), (5, false), (6, false), (7, false), (8, false)] [b2] S ?_; clear S; intro w S
  iterate 4 (refine dq S ?_; clear S; intro a S)
  refine dl ?_
  refine sc S ?_; clear S; intro a w S
  refine de S ?_
  refine dl ?_
  refine sr S (itoa_c m.ver ⟨by omega, by omega⟩ _ (S.mem.fact0 TabF).now) ?_; clear S; rintro _ a w rfl S
  refine de S ?_
  refine dl ?_
  refine sc S ?_; clear S; intro a w S
  refine de S ?_
  refine dl ?_
  replace S := (S.add (Φ := LtF (textL m.key)) (fun _ _ => by simp [LtIn, textL, LsIn, LtF])).add (Φ := LtF (textL (Lib.itoa m.ver))) (fun _ _ => by simp [LtIn, textL, LsIn, LtF])
  refine sr S (pairU_c B0 (textL m.key) (textL (Lib.itoa m.ver)) _ w (foots_lt S) (S.t _) (S.t _) (fun _ _ => by simp [TUF, TU, LU, textL]) (fun _ _ => by simp [TUF, TU, LU, textL]) (Nat.le_trans hB0 S.wd.agree.size)) ?_; clear S; rintro _ a w ⟨r, rfl, hr, hrf, hru⟩ S
  replace S := (S.add hru).add hrf
  refine de S ?_
  refine dl ?_
  refine sw S ?_; clear S; intro a w S
  refine de S ?_
  refine dn ?_
  refine xtn ?_
  refine c_ret ?_
  have hlat := S.laterT (M := M) r
  have hlatu := S.laterFact (M := M) (Φ := TUF B0 r) (by simp)
  refine end1 S (fun _ => ?_)
  exact ⟨r, rfl, hr, hlat, hlatu⟩
theorem tleafU_c (B0 : Nat) (m : LMark) (M : Nat → Prop) (w0 : World) (hm : 0 ≤ m.ver ∧ m.ver ≤ 65535) (hM : ∀ k, M k → k < w0.heap.size) (ht : Stable M w0 TabF) (hB0 : B0 ≤ w0.heap.size) : Ret Tryd.prog 102 [vMark m] w0 (fun _ => False) fun v w' => IsU B0 M w' v (leafT m) := by
  refine enter Tryd.func102 rfl rfl (Wd.beginM (M := M) (fs := [TabF]) hM (by simpa using ht)) (fun a S => ?_)
  simp only [Tryd.ntmps102, List.length_cons, List.length_nil, Nat.reduceAdd, Nat.reduceSub, List.replicate_succ, List.replicate_zero, List.cons_append, List.nil_append] at S
  refine c_seq ?_
  refine c_region ?_
  refine sa S ?_; clear S; intro b1 a w S
  refine sa S ?_; clear S; intro b2 a w S
  refine wl_nil ?_
  refine xtn ?_
  refine c_seq ?_
  refine c_region ?_
  refine sq S ?_; clear S; intro a S
  refine sr S (trowU_c B0 m _ w hm (foots_lt S) (S.mem.fact TabF) (Nat.le_trans hB0 S.wd.agree.size)) ?_; clear S; rintro _ a w ⟨r, rfl, hr, hrf, hru⟩ S
  replace S := (S.add hru).add hrf
  refine sr S (hashU_c B0 r _ w (foots_lt S) (S.t r) (S.mem.fact (TUF B0 r)) (Nat.le_trans hB0 S.wd.agree.size)) ?_; clear S; rintro _ a w ⟨q, rfl, hq, hqf, hqu⟩ S
  replace S := (S.add hqu).add hqf
  refine sw S ?_; clear S; intro a w S
  refine wl_nil ?_
  refine xtn ?_
  refine c_ret ?_
  have hlat := S.laterT (M := M) q
  have hlatu := S.laterFact (M := M) (Φ := TUF B0 q) (by simp)
  refine end1 S (fun _ => ?_)
  exact ⟨q, rfl, by rw [hq, hr]; rfl, hlat, hlatu⟩
theorem tjoinU_c (B0 : Nat) (x y : LTerm) (M : Nat → Prop) (w0 : World) (hM : ∀ k, M k → k < w0.heap.size) (hx : Stable M w0 (LtF x)) (hy : Stable M w0 (LtF y)) (hux : Stable M w0 (TUF B0 x)) (huy : Stable M w0 (TUF B0 y)) (hB0 : B0 ≤ w0.heap.size) : Ret Tryd.prog 103 [vL x, vL y] w0 (fun _ => False) fun v w' => IsU B0 M w' v (joinT x.t y.t) := by
  refine enter Tryd.func103 rfl rfl (Wd.beginM (M := M) (fs := [LtF x, LtF y, TUF B0 x, TUF B0 y]) hM (by simp; exact ⟨hx, hy, hux, huy⟩)) (fun a S => ?_)
  simp only [Tryd.ntmps103, List.length_cons, List.length_nil, Nat.reduceAdd, Nat.reduceSub, List.replicate_succ, List.replicate_zero, List.cons_append, List.nil_append] at S
  refine c_seq ?_
  refine c_region ?_
  refine sa S ?_; clear S; intro b2 a w S
  refine sa S ?_; clear S; intro b3 a w S
  refine sa S ?_; clear S; intro b4 a w S
  refine wl_nil ?_
  refine xtn ?_
  refine c_seq ?_
  refine c_region ?_
  iterate 2 (refine sq S ?_; clear S; intro a S)
  refine sr S (pairU_c B0 x y _ w (foots_lt S) (S.t x) (S.t y) (S.mem.fact (TUF B0 x)) (S.mem.fact (TUF B0 y)) (Nat.le_trans hB0 S.wd.agree.size)) ?_; clear S; rintro _ a w ⟨r, rfl, hr, hrf, hru⟩ S
  replace S := (S.add hru).add hrf
  refine sr S (hashU_c B0 r _ w (foots_lt S) (S.t r) (S.mem.fact (TUF B0 r)) (Nat.le_trans hB0 S.wd.agree.size)) ?_; clear S; rintro _ a w ⟨q, rfl, hq, hqf, hqu⟩ S
  replace S := (S.add hqu).add hqf
  refine sw S ?_; clear S; intro a w S
  refine wl_nil ?_
  refine xtn ?_
  refine c_ret ?_
  have hlat := S.laterT (M := M) q
  have hlatu := S.laterFact (M := M) (Φ := TUF B0 q) (by simp)
  refine end1 S (fun _ => ?_)
  exact ⟨q, rfl, by rw [hq, hr]; rfl, hlat, hlatu⟩
theorem rootU_c (B0 N : Nat) : ∀ (l : List LMark) (p : Option Addr) (n c : Nat) (M : Nat → Prop) (w0 : World), l.length < N → l.length = n → n ≤ 100 → n ≤ c → (∀ m ∈ l, 0 ≤ m.ver ∧ m.ver ≤ 65535) → (∀ k, M k → k < w0.heap.size) → Stable M w0 TabF → Stable M w0 (GlF p l) → B0 ≤ w0.heap.size →
    Ret Tryd.prog 73 [.slice p n c] w0 (fun _ => False) fun v w' => IsU B0 M w' v (rootT l) := by
  induction N with
  | zero => intro l _ _ _ _ _ h; exact absurd h (Nat.not_lt_zero _)
  | succ N ih =>
  intro l p n c M w0 hN hn h100 hnc hv hM ht hx hB0
  subst hn
  refine enter Tryd.func73 rfl rfl (Wd.beginM (M := M) (fs := [TabF, GlF p l]) hM (by simp; exact ⟨ht, hx⟩)) (fun a S => ?_)
  simp only [Tryd.ntmps73, List.length_cons, List.length_nil, Nat.reduceAdd, Nat.reduceSub, List.replicate_succ, List.replicate_zero, List.cons_append, List.nil_append] at S
  refine c_seq ?_
  refine c_region ?_
  refine sa S ?_; clear S; intro b2 a w S
  refine wl_nil ?_
  refine xtn ?_
  refine c_seq ?_
  refine c_region ?_
  iterate 3 (refine sq S ?_; clear S; intro a S)
  refine wl_nil ?_
  refine xtn ?_
  refine c_seq ?_
  refine c_region ?_
  refine sq S ?_; clear S; intro a S
  refine wl_nil ?_
  refine xtn ?_
  refine c_block ?_
  refine c_seq ?_
  refine c_region ?_
  iterate 2 (refine sq S ?_; clear S; intro a S)
  refine wl_nil ?_
  refine xtn ?_
  refine c_cond S (fun h5 => ?_) (fun h5 => ?_)
  · refine c_seq ?_
    refine c_region ?_
    refine sc S ?_; clear S; intro a w S
    refine sw S ?_; clear S; intro a w S
    refine wl_nil ?_
    refine xtn ?_
    refine c_ret ?_
    refine xbr ?_
    have h0 : l.length = 0 := by simpa using h5
    refine end1 S (fun _ => ?_)
    refine ⟨textL [], rfl, ?_, fun w' _ => by simp [LtIn, textL, LsIn, LtF], fun w' _ => by simp [TUF, TU, LU, textL]⟩
    rw [rootT, dif_pos h0]; rfl
  · refine c_seq ?_
    refine c_region ?_
    iterate 2 (refine sq S ?_; clear S; intro a S)
    refine wl_nil ?_
    refine xtn ?_
    refine c_cond S (fun h7 => ?_) (fun h7 => ?_)
    · refine c_seq ?_
      have h1 : l.length = 1 := by simp at h7; omega
      have hK : KLt 0 l.length := ⟨by omega⟩
      refine c_region ?_
      iterate 3 (refine sq S ?_; clear S; intro a S)
      refine sr S (tleafU_c B0 (nthG l 0) _ w (hv _ (nthG_mem (by omega))) (foots_lt S) (S.mem.fact TabF) (Nat.le_trans hB0 S.wd.agree.size)) ?_; clear S; rintro _ a w ⟨r, rfl, hr, hrf, hru⟩ S
      replace S := (S.add hru).add hrf
      refine sw S ?_; clear S; intro a w S
      refine wl_nil ?_
      refine xtn ?_
      refine c_ret ?_
      refine xbr ?_
      have hlat := S.laterT (M := M) r
      have hlatu := S.laterFact (M := M) (Φ := TUF B0 r) (by simp)
      refine end1 S (fun _ => ?_)
      exact ⟨r, rfl, by rw [hr, rootT_one h1], hlat, hlatu⟩
    · refine c_seq ?_
      refine c_region ?_
      refine sq S ?_; clear S; intro a S
      refine sr S (half_c l.length (by omega) _) ?_; clear S; rintro _ a w rfl S
      refine sq S ?_; clear S; intro a S
      refine wl_nil ?_
      refine xtn ?_
      refine c_seq ?_
      have h2 : 2 ≤ l.length := by have q5 := of_decide_eq_false h5; have q7 := of_decide_eq_false h7; omega
      have hh : halfN l.length < l.length ∧ 0 < halfN l.length := by unfold halfN; omega
      have hlt : (l.take (halfN l.length)).length = halfN l.length := by rw [List.length_take]; omega
      have hld : (l.drop (halfN l.length)).length = l.length - halfN l.length := List.length_drop
      have hL1 : LeC (halfN l.length) c := ⟨by omega⟩
      have hL2 : LeC (halfN l.length) l.length := ⟨by omega⟩
      have hL3 : LeC l.length c := ⟨hnc⟩
      have hg := S.gl p (xs := l)
      replace S := (S.add (Φ := GlF (if c = halfN l.length then p else p.map (·.add (halfN l.length * 2))) (l.drop (halfN l.length))) (hg.imp fun _ h => h.drop _ hnc)).add (Φ := GlF p (l.take (halfN l.length))) (hg.imp fun _ h => h.take _)
      refine c_drawD [(0, true), (1, true), (2, true), (4, true), (5, true), (6, true), (3, false), (7, false), (8, false), (9, false)] [b2] S ?_; clear S; intro w S
      iterate 6 (refine dq S ?_; clear S; intro a S)
      refine dl ?_
      refine sr S (ih (l.take (halfN l.length)) p (halfN l.length) c _ w (by omega) hlt (by omega) (by omega) (fun m hm => hv m (List.take_subset _ _ hm)) (foots_lt S) (S.mem.fact TabF) (S.mem.fact (GlF p (l.take (halfN l.length)))) (Nat.le_trans hB0 S.wd.agree.size)) ?_; clear S; rintro _ a w ⟨r1, rfl, hr1, hrf1, hru1⟩ S
      replace S := (S.add hru1).add hrf1
      refine de S ?_
      refine dl ?_
      refine sr S (ih (l.drop (halfN l.length)) (if c = halfN l.length then p else p.map (·.add (halfN l.length * 2))) (l.length - halfN l.length) (c - halfN l.length) _ w (by omega) hld (by omega) (by omega) (fun m hm => hv m (List.drop_subset _ _ hm)) (foots_lt S) (S.mem.fact TabF) (S.mem.fact (GlF (if c = halfN l.length then p else p.map (·.add (halfN l.length * 2))) (l.drop (halfN l.length)))) (Nat.le_trans hB0 S.wd.agree.size)) ?_; clear S; rintro _ a w ⟨r2, rfl, hr2, hrf2, hru2⟩ S
      replace S := (S.add hru2).add hrf2
      refine de S ?_
      refine dl ?_
      refine sr S (tjoinU_c B0 r1 r2 _ w (foots_lt S) (S.t r1) (S.t r2) (S.mem.fact (TUF B0 r1)) (S.mem.fact (TUF B0 r2)) (Nat.le_trans hB0 S.wd.agree.size)) ?_; clear S; rintro _ a w ⟨r, rfl, hr, hrf, hru⟩ S
      replace S := (S.add hru).add hrf
      refine de S ?_
      refine dl ?_
      refine sw S ?_; clear S; intro a w S
      refine de S ?_
      refine dn ?_
      refine xtn ?_
      refine c_ret ?_
      refine xbr ?_
      have hlat := S.laterT (M := M) r
      have hlatu := S.laterFact (M := M) (Φ := TUF B0 r) (by simp)
      refine end1 S (fun _ => ?_)
      exact ⟨r, rfl, by rw [hr, hr1, hr2, ← rootT_two h2], hlat, hlatu⟩
def ProofRU (B0 : Nat) (M : Nat → Prop) (l : List LMark) (key : List UInt8) (v : Value) (w : World) : Prop := ∃ (p : Option Addr) (c : Nat) (os : List LTerm) (e : Int), v = .tuple ⟨[.slice p os.length c, .int .i64 e]⟩ ∧ Stable M w (LsF p 0 os) ∧ Stable M w (AllTU B0 os) ∧
  (okM l = false → e = 240 ∧ os = []) ∧ (okM l = true → key ∉ l.map LMark.key → e = 4 ∧ os = []) ∧ (okM l = true → key ∈ l.map LMark.key → e = 0 ∧ ∃ i, i < l.length ∧ (nthG l i).key = key ∧ os.map LTerm.t = (pathT l i).reverse) ∧
  (os ≠ [] → ∃ b cs T, p = some ⟨b, 0, none⟩ ∧ B0 ≤ b ∧ w.heap[b]? = some (.cells cs T (0, 0)))
theorem tproofU_c (B0 : Nat) (l : List LMark) (p : Option Addr) (c : Nat) (key : List UInt8) (M : Nat → Prop) (w0 : World) (hc : l.length ≤ c) (hl : l.length ≤ 1000000) (hM : ∀ k, M k → k < w0.heap.size) (ht : Stable M w0 TabF) (hx : Stable M w0 (GlF p l)) (hB0 : B0 ≤ w0.heap.size) :
    Ret Tryd.prog 27 [.slice p l.length c, str key] w0 (fun _ => False) fun v w' => ProofRU B0 M l key v w' := by
  have hLe : LeC l.length 9223372036854775807 := ⟨by omega⟩
  refine enter Tryd.func27 rfl rfl (Wd.beginM (M := M) (fs := [TabF, GlF p l]) hM (by simp; exact ⟨ht, hx⟩)) (fun a S => ?_)
  simp only [Tryd.ntmps27, List.length_cons, List.length_nil, Nat.reduceAdd, Nat.reduceSub, List.replicate_succ, List.replicate_zero, List.cons_append, List.nil_append] at S
  refine c_seq ?_
  refine c_region ?_
  iterate 2 (refine sq S ?_; clear S; intro a S)
  refine wl_nil ?_
  refine xtn ?_
  iterate 2 (refine c_seq ?_)
  refine c_region ?_
  refine sq S ?_; clear S; intro a S
  refine sc S ?_; clear S; intro a w S
  refine sq S ?_; clear S; intro a S
  refine wl_nil ?_
  refine xtn ?_
  refine c_seq ?_
  refine c_region ?_
  iterate 2 (refine sq S ?_; clear S; intro a S)
  refine wl_nil ?_
  refine xtn ?_
  refine c_cond S (fun h2 => ?_) (fun h2 => ?_)
  · refine c_seq ?_
    refine c_region ?_
    iterate 3 (refine sq S ?_; clear S; intro a S)
    refine wl_nil ?_
    refine xtn ?_
    refine c_ret ?_
    refine xtr ?_
    have hb : okM l = false := by
      cases h : okM l with
      | false => rfl
      | true => simp [tchkF, h] at h2
    have e : tchkF l = 240 := by simp [tchkF, hb]
    refine end2 S (fun _ => ?_)
    refine ⟨none, 0, [], _, rfl, fun w' _ => by simp [LsF, LsIn], fun w' _ t ht => (by cases ht), fun _ => ⟨e, rfl⟩, fun h => ?_, fun h => ?_, fun h => absurd rfl h⟩
    · rw [hb] at h; cases h
    · rw [hb] at h; cases h
  · refine c_skip ?_
    refine xtn ?_
    refine c_seq ?_
    have hb : okM l = true := by
      cases h : okM l with
      | true => rfl
      | false => simp [tchkF, h] at h2
    obtain ⟨v1, v2, v3, v4⟩ := okV l hb
    refine c_region ?_
    iterate 2 (refine sq S ?_; clear S; intro a S)
    refine sr S (tfind_c l p c key _ (by omega) (S.gl0 p) v4) ?_; clear S; rintro _ a w ⟨i0, rfl, hi0⟩ S
    iterate 5 (refine sq S ?_; clear S; intro a S)
    refine wl_nil ?_
    refine xtn ?_
    iterate 2 (refine c_seq ?_)
    refine c_region ?_
    iterate 2 (refine sq S ?_; clear S; intro a S)
    refine wl_nil ?_
    refine xtn ?_
    refine c_cond S (fun h5 => ?_) (fun h5 => ?_)
    · refine c_seq ?_
      refine c_region ?_
      iterate 2 (refine sq S ?_; clear S; intro a S)
      refine wl_nil ?_
      refine xtn ?_
      refine c_ret ?_
      refine xtr ?_
      have hno : key ∉ l.map LMark.key := by simpa using h5
      refine end2 S (fun _ => ?_)
      refine ⟨none, 0, [], 4, rfl, fun w' _ => by simp [LsF, LsIn], fun w' _ t ht => (by cases ht), fun h => ?_, fun _ _ => ⟨rfl, rfl⟩, fun _ h => absurd h hno, fun h => absurd rfl h⟩
      rw [hb] at h; cases h
    · refine c_skip ?_
      refine xtn ?_
      refine c_seq ?_
      refine c_region ?_
      refine sq S ?_; clear S; intro a S
      refine wl_nil ?_
      refine xtn ?_
      refine c_seq ?_
      refine c_block ?_
      have hin : key ∈ l.map LMark.key := by simpa using h5
      obtain ⟨hil, hik⟩ := hi0 hin
      replace S := S.addNil 24 5
      refine c_fore5 S (fun (sl : Sl LMark) (i : Nat) (os : List LTerm) (po : Option Addr) (co : Nat) uu => [(0, .slice sl.p sl.xs.length sl.cap), (6, .int .i64 (i : Nat)), (1, .slice po os.length co), (0, uu 10), (13, uu 24), (0, uu 25), (0, uu 26), (0, uu 27), (0, uu 28), (0, uu 29), (0, uu 30), (0, uu 31), (0, uu 32), (0, uu 33), (0, uu 34), (0, uu 35), (0, uu 36), (0, uu 37), (0, uu 38), (0, uu 39), (0, uu 40), (0, uu 41), (0, uu 42), (0, uu 43), (0, uu 44), (0, uu 45), (0, uu 46), (0, uu 47), (0, uu 48), (0, uu 49), (0, uu 50), (0, uu 51), (0, uu 52), (0, uu 53), (0, uu 54), (0, uu 55), (0, uu 56), (0, uu 57), (0, uu 58), (0, uu 59)]) (fun (sl : Sl LMark) (i : Nat) (os : List LTerm) (po : Option Addr) (co : Nat) => [Wk.row 24 5 po os.length co (encL os), ext M]) (fun (sl : Sl LMark) (i : Nat) (os : List LTerm) (po : Option Addr) (co : Nat) => [AllI os, AllTU B0 os, TabF, GlF sl.p sl.xs]) (fun (sl : Sl LMark) (i : Nat) (os : List LTerm) (po : Option Addr) (co : Nat) => i < sl.xs.length ∧ sl.xs.length ≤ sl.cap ∧ sl.xs.length ≤ 16 ∧ (∀ m ∈ sl.xs, 0 ≤ m.ver ∧ m.ver ≤ 65535) ∧ os.map LTerm.t ++ pathT sl.xs i = pathT l i0 ∧ os.length + sl.xs.length ≤ 16) (fun (sl : Sl LMark) (i : Nat) (os : List LTerm) (po : Option Addr) (co : Nat) => sl.xs.length) (⟨p, c, l⟩) (i0) ([]) (none) (0) ?_ S.uu ?_ ?_
      · exact ⟨hil, hc, v1, v2, rfl, by simpa using v1⟩
      · exact (S.add (Φ := AllTU B0 []) (fun w' _ t ht => by cases ht)).add (Φ := AllI (α := LTerm) []) AllI.nil
      · clear S; rintro sl i os po co uu a w ⟨hi, hsc, hs16, hsv, hpath, hos⟩ S
        iterate 2 (refine c_seq ?_)
        refine c_region ?_
        iterate 3 (refine sq S ?_; clear S; intro a S)
        refine wl_nil ?_
        refine xtn ?_
        refine c_cond S (fun h8 => ?_) (fun h8 => ?_)
        · refine c_skip ?_
          refine xtn ?_
          refine c_block ?_
          refine c_seq ?_
          have h2s : 2 ≤ sl.xs.length := by simp at h8; omega
          have hA : halfN sl.xs.length < sl.xs.length ∧ 0 < halfN sl.xs.length := by unfold halfN; omega
          have hlt : (sl.xs.take (halfN sl.xs.length)).length = halfN sl.xs.length := by rw [List.length_take]; omega
          have hld : (sl.xs.drop (halfN sl.xs.length)).length = sl.xs.length - halfN sl.xs.length := List.length_drop
          have hL1 : LeC (halfN sl.xs.length) sl.cap := ⟨by omega⟩
          have hL2 : LeC (halfN sl.xs.length) sl.xs.length := ⟨by omega⟩
          have hL3 : LeC sl.xs.length sl.cap := ⟨hsc⟩
          refine c_region ?_
          iterate 2 (refine sq S ?_; clear S; intro a S)
          refine sr S (half_c sl.xs.length (by omega) _) ?_; clear S; rintro _ a w rfl S
          refine sq S ?_; clear S; intro a S
          refine wl_nil ?_
          refine xtn ?_
          refine c_seq ?_
          refine c_region ?_
          iterate 3 (refine sq S ?_; clear S; intro a S)
          refine wl_nil ?_
          refine xtn ?_
          refine c_cond S (fun h10 => ?_) (fun h10 => ?_)
          · refine c_seq ?_
            have hih : i < halfN sl.xs.length := by simp at h10; omega
            have hpr := pathT_r h2s hih
            have hg := S.gl sl.p (xs := sl.xs)
            replace S := (S.add (Φ := GlF (if sl.cap = halfN sl.xs.length then sl.p else sl.p.map (·.add (halfN sl.xs.length * 2))) (sl.xs.drop (halfN sl.xs.length))) (hg.imp fun _ h => h.drop _ hsc)).add (Φ := GlF sl.p (sl.xs.take (halfN sl.xs.length))) (hg.imp fun _ h => h.take _)
            replace S := S.add (Φ := LtF (textL [114])) (fun _ _ => by simp [LtIn, textL, LsIn, LtF])
            refine c_drawE [(0, true), (2, true), (3, true), (4, true), (1, false), (5, false), (6, false), (7, false), (8, false), (9, true)] [ext M] S ?_; clear S; intro w S
            iterate 4 (refine dq S ?_; clear S; intro a S)
            refine dl ?_
            refine sc S ?_; clear S; intro a w S
            refine de S ?_
            refine dl ?_
            refine sr S (rootU_c B0 _ (sl.xs.drop (halfN sl.xs.length)) (if sl.cap = halfN sl.xs.length then sl.p else sl.p.map (·.add (halfN sl.xs.length * 2))) (sl.xs.length - halfN sl.xs.length) (sl.cap - halfN sl.xs.length) _ w (Nat.lt_succ_self _) hld (by omega) (by omega) (fun m hm => hsv m (List.drop_subset _ _ hm)) (foots_lt S) (S.mem.fact TabF) (S.mem.fact (GlF (if sl.cap = halfN sl.xs.length then sl.p else sl.p.map (·.add (halfN sl.xs.length * 2))) (sl.xs.drop (halfN sl.xs.length)))) (Nat.le_trans hB0 S.wd.agree.size)) ?_; clear S; rintro _ a w ⟨r1, rfl, hr1, hrf1, hru1⟩ S
            replace S := (S.add hru1).add hrf1
            refine de S ?_
            refine dl ?_
            refine sr S (pairU_c B0 (textL [114]) r1 _ w (foots_lt S) (S.t _) (S.t r1) (fun _ _ => by simp [TUF, TU, LU, textL]) (S.mem.fact (TUF B0 r1)) (Nat.le_trans hB0 S.wd.agree.size)) ?_; clear S; rintro _ a w ⟨r, rfl, hr, hrf, hru⟩ S
            replace S := (S.add hru).add hrf
            refine de S ?_
            refine dl ?_
            refine sn S ?_; clear S; intro b40 a w S
            refine de S ?_
            refine dl ?_
            refine sap S (by simp [maxLen]; omega) (by omega) ?_; clear S; rintro p11 c11 a w - S
            rw [show encL os ++ r.cells = encL (os ++ [r]) from by rw [encL_append, encT_cells], show os.length + 1 = (os ++ [r]).length from by simp] at S
            refine de S ?_
            refine dq S ?_; clear S; intro a S
            refine dn ?_
            refine xtn ?_
            refine c_region ?_
            iterate 4 (refine sq S ?_; clear S; intro a S)
            refine wl_nil ?_
            refine xbn ?_
            refine xtn ?_
            have h1 := S.wd.facts (AllI os) (by simp)
            have h2 := S.t r
            have h3 := S.wd.facts (AllTU B0 os) (by simp)
            have h4 := S.wd.facts (TUF B0 r) (by simp)
            replace S := (S.add (AllTU.snoc h3 h4)).add (AllI.snoc h1 h2)
            obtain ⟨s2, hs2⟩ : ∃ s2 : Sl LMark, s2 = ⟨sl.p, sl.cap, sl.xs.take (halfN sl.xs.length)⟩ := ⟨_, rfl⟩
            have e1 : s2.p = sl.p := by rw [hs2]
            have e2 : s2.cap = sl.cap := by rw [hs2]
            have e3 : s2.xs = sl.xs.take (halfN sl.xs.length) := by rw [hs2]
            have e4 : s2.xs.length = halfN sl.xs.length := by rw [e3, hlt]
            replace S := S.add (Φ := GlF s2.p s2.xs) (by rw [e1, e3]; exact S.mem.fact (GlF sl.p (sl.xs.take (halfN sl.xs.length))))
            rw [show Value.slice sl.p (halfN sl.xs.length) sl.cap = .slice s2.p s2.xs.length s2.cap from by rw [e1, e2, e4]] at S
            replace S := S.sub [Wk.row 24 5 p11 (os ++ [r]).length c11 (encL (os ++ [r])), ext M] [GlF s2.p s2.xs, AllI (os ++ [r]), AllTU B0 (os ++ [r]), TabF]
            replace S := S.add (S.wd.facts TabF (by simp))
            replace S := S.add (S.wd.facts (AllTU B0 (os ++ [r])) (by simp))
            replace S := S.add (S.wd.facts (AllI (os ++ [r])) (by simp))
            refine ⟨s2, i, os ++ [r], p11, c11, S.uu, ⟨by omega, by omega, by omega, fun m hm => hsv m (List.take_subset _ _ (by rw [← e3]; exact hm)), ?_, by simp only [List.length_append, List.length_singleton]; omega⟩, S.sub _ _, by omega⟩
            rw [e3]
            rw [← hpath, hpr, List.map_append, List.append_assoc]
            simp only [List.map_cons, List.map_nil, List.cons_append, List.nil_append, hr, hr1]
            rfl
          · refine c_seq ?_
            have hih : ¬ i < halfN sl.xs.length := by simp at h10; omega
            have hpl := pathT_l h2s hih
            have hg := S.gl sl.p (xs := sl.xs)
            replace S := (S.add (Φ := GlF (if sl.cap = halfN sl.xs.length then sl.p else sl.p.map (·.add (halfN sl.xs.length * 2))) (sl.xs.drop (halfN sl.xs.length))) (hg.imp fun _ h => h.drop _ hsc)).add (Φ := GlF sl.p (sl.xs.take (halfN sl.xs.length))) (hg.imp fun _ h => h.take _)
            replace S := S.add (Φ := LtF (textL [108])) (fun _ _ => by simp [LtIn, textL, LsIn, LtF])
            refine c_drawE [(0, true), (2, true), (3, true), (4, true), (1, false), (5, false), (6, false), (7, false), (8, false), (9, true)] [ext M] S ?_; clear S; intro w S
            iterate 4 (refine dq S ?_; clear S; intro a S)
            refine dl ?_
            refine sc S ?_; clear S; intro a w S
            refine de S ?_
            refine dl ?_
            refine sr S (rootU_c B0 _ (sl.xs.take (halfN sl.xs.length)) sl.p (halfN sl.xs.length) sl.cap _ w (Nat.lt_succ_self _) hlt (by omega) (by omega) (fun m hm => hsv m (List.take_subset _ _ hm)) (foots_lt S) (S.mem.fact TabF) (S.mem.fact (GlF sl.p (sl.xs.take (halfN sl.xs.length)))) (Nat.le_trans hB0 S.wd.agree.size)) ?_; clear S; rintro _ a w ⟨r1, rfl, hr1, hrf1, hru1⟩ S
            replace S := (S.add hru1).add hrf1
            refine de S ?_
            refine dl ?_
            refine sr S (pairU_c B0 (textL [108]) r1 _ w (foots_lt S) (S.t _) (S.t r1) (fun _ _ => by simp [TUF, TU, LU, textL]) (S.mem.fact (TUF B0 r1)) (Nat.le_trans hB0 S.wd.agree.size)) ?_; clear S; rintro _ a w ⟨r, rfl, hr, hrf, hru⟩ S
            replace S := (S.add hru).add hrf
            refine de S ?_
            refine dl ?_
            refine sn S ?_; clear S; intro b52 a w S
            refine de S ?_
            refine dl ?_
            refine sap S (by simp [maxLen]; omega) (by omega) ?_; clear S; rintro p11 c11 a w - S
            rw [show encL os ++ r.cells = encL (os ++ [r]) from by rw [encL_append, encT_cells], show os.length + 1 = (os ++ [r]).length from by simp] at S
            refine de S ?_
            refine dq S ?_; clear S; intro a S
            refine dn ?_
            refine xtn ?_
            refine c_region ?_
            iterate 6 (refine sq S ?_; clear S; intro a S)
            rw [w64 _ (by omega) (by omega), show (i : Int) - ((halfN sl.xs.length : Nat) : Int) = ((i - halfN sl.xs.length : Nat) : Int) from by omega] at S
            iterate 2 (refine sq S ?_; clear S; intro a S)
            refine wl_nil ?_
            refine xbn ?_
            refine xtn ?_
            have h1 := S.wd.facts (AllI os) (by simp)
            have h2 := S.t r
            have h3 := S.wd.facts (AllTU B0 os) (by simp)
            have h4 := S.wd.facts (TUF B0 r) (by simp)
            replace S := (S.add (AllTU.snoc h3 h4)).add (AllI.snoc h1 h2)
            obtain ⟨s2, hs2⟩ : ∃ s2 : Sl LMark, s2 = ⟨if sl.cap = halfN sl.xs.length then sl.p else sl.p.map (·.add (halfN sl.xs.length * 2)), sl.cap - halfN sl.xs.length, sl.xs.drop (halfN sl.xs.length)⟩ := ⟨_, rfl⟩
            have e1 : s2.p = if sl.cap = halfN sl.xs.length then sl.p else sl.p.map (·.add (halfN sl.xs.length * 2)) := by rw [hs2]
            have e2 : s2.cap = sl.cap - halfN sl.xs.length := by rw [hs2]
            have e3 : s2.xs = sl.xs.drop (halfN sl.xs.length) := by rw [hs2]
            have e4 : s2.xs.length = sl.xs.length - halfN sl.xs.length := by rw [e3, hld]
            replace S := S.add (Φ := GlF s2.p s2.xs) (by rw [e1, e3]; exact S.mem.fact (GlF (if sl.cap = halfN sl.xs.length then sl.p else sl.p.map (·.add (halfN sl.xs.length * 2))) (sl.xs.drop (halfN sl.xs.length))))
            rw [show Value.slice (if sl.cap = halfN sl.xs.length then sl.p else sl.p.map (·.add (halfN sl.xs.length * 2))) (sl.xs.length - halfN sl.xs.length) (sl.cap - halfN sl.xs.length) = .slice s2.p s2.xs.length s2.cap from by rw [e1, e2, e4]] at S
            replace S := S.sub [Wk.row 24 5 p11 (os ++ [r]).length c11 (encL (os ++ [r])), ext M] [GlF s2.p s2.xs, AllI (os ++ [r]), AllTU B0 (os ++ [r]), TabF]
            replace S := S.add (S.wd.facts TabF (by simp))
            replace S := S.add (S.wd.facts (AllTU B0 (os ++ [r])) (by simp))
            replace S := S.add (S.wd.facts (AllI (os ++ [r])) (by simp))
            refine ⟨s2, i - halfN sl.xs.length, os ++ [r], p11, c11, S.uu, ⟨by omega, by omega, by omega, fun m hm => hsv m (List.drop_subset _ _ (by rw [← e3]; exact hm)), ?_, by simp only [List.length_append, List.length_singleton]; omega⟩, S.sub _ _, by omega⟩
            rw [e3]
            rw [← hpath, hpl, List.map_append, List.append_assoc]
            simp only [List.map_cons, List.map_nil, List.cons_append, List.nil_append, hr, hr1]
            rfl
        · refine c_exit ?_
          iterate 2 (refine xte ?_)
          refine xbe ?_
          refine xtn ?_
          refine c_seq ?_
          refine c_region ?_
          refine sq S ?_; clear S; intro a S
          refine sit (Wk.row 24 5 po os.length co (encL os)) S (reverse_c os po os.length co w rfl (by omega) (S.row po _)) rfl ?_; clear S; rintro _ a w ⟨rfl, hown⟩ hS
          have S := hS (Wk.row 24 5 po os.length co (encL os.reverse)) hown (fun k hk => .inl hk)
          clear hS
          refine wl_nil ?_
          refine xtn ?_
          refine c_seq ?_
          refine c_region ?_
          iterate 3 (refine sq S ?_; clear S; intro a S)
          refine wl_nil ?_
          refine xtn ?_
          refine c_ret ?_
          have hrow := S.row po os.length
          have hnew := S.rowNew po os.length
          have hall := S.laterFact (Φ := AllI os) (by simp)
          have hallu := S.laterFact (Φ := AllTU B0 os) (by simp)
          have hallu2 : Stable M w (AllTU B0 os.reverse) := hallu.imp fun _ h x hx => h x (List.mem_reverse.1 hx)
          have hall2 : Stable M w (AllI os.reverse) := hall.imp fun _ h x hx => h x (List.mem_reverse.1 hx)
          have hdone : sl.xs.length ≤ 1 := by simp at h8; omega
          rw [pathT_one hdone, List.append_nil] at hpath
          refine end2 S (fun _ => ?_)
          refine ⟨po, co, os.reverse, 0, by rw [List.length_reverse], ?_, hallu2, fun h => ?_, fun _ h => absurd hin h, fun _ _ => ⟨rfl, i0, hil, hik, by rw [List.map_reverse, hpath]⟩, fun hne => ?_⟩
          · exact (gl_own hrow hall2 (fun ad h hm => (hnew ad h).elim (fun h => h.elim) (fun h2 => by have := hM _ hm; omega))).imp fun _ h => gl_ls h
          · rw [hb] at h; cases h
          · rcases hrow.2 with ⟨hv, h0⟩ | ⟨g, cap, cur, hv, hb, hg, hnc, hcm, hcs, ht⟩
            · exact absurd (List.length_eq_zero_iff.1 (by simpa using h0)) (fun h => hne (by rw [h]; rfl))
            · cases hv
              exact ⟨g, cur, _, rfl, Nat.le_trans hB0 ((hnew _ rfl).elim (fun h => h.elim) id), hg⟩
end Go.Proofs.YtieeoakdkbackaaDoor

/- Package safehouseref14: Proof. -/
namespace Go.Proofs.YtieeoakdkbackaaDoor
open Go Go.Wk
set_option synthInstance.maxSize 100000
set_option synthInstance.maxHeartbeats 400000
set_option maxRecDepth 100000

theorem St.addRowAll {w0 : World} {M0 : Nat → Prop} {ds : List Deferred} {a : Act} {w : World} {l : List Value} {bs : List Wk.Item} {fs : List (World → Prop)} {e : TypeId} {sz n c : Nat} {q : Option Addr} {xs : List Value} {Φ : World → Prop} (S : St w0 M0 ds a w l (Wk.row e sz q n c xs :: bs) fs) (h : Stable (fun k => foots bs k ∨ ∃ ad, q = some ad ∧ k = ad.block) w Φ) : St w0 M0 ds a w l (Wk.row e sz q n c xs :: bs) (Φ :: fs) :=
  S.add (h.less fun k _ ⟨it, hi, hk⟩ => by
    rcases List.mem_cons.1 hi with rfl | hi
    · exact .inr hk
    · exact .inl ⟨it, hi, hk⟩)
theorem rproof14_c (N : Nat) : ∀ (l : List LMark) (i : Nat) (p : Option Addr) (n c : Nat) (M : Nat → Prop) (w0 : World), l.length < N → l.length = n → n ≤ 16 → n ≤ c → i < n → (∀ m ∈ l, 0 ≤ m.ver ∧ m.ver ≤ 65535) → (∀ k, M k → k < w0.heap.size) → Stable M w0 (GlF p l) →
    Ret Tryd.prog 30 [.slice p n c, .int .i64 (i : Nat)] w0 (fun _ => False) fun v w' => ∃ (q : Option Addr) (e : Nat) (os : List LTerm), v = .slice q os.length e ∧ w'.ownsRow 0 24 5 (.slice q os.length e) os.length (encL os) ∧ (∀ ad, q = some ad → w0.heap.size ≤ ad.block) ∧ Stable (fun k => M k ∨ ∃ ad, q = some ad ∧ k = ad.block) w' (AllI os) ∧ os.map LTerm.t = (pathT l i).reverse ∧ os.length + 1 ≤ n := by
  induction N with
  | zero => intro l _ _ _ _ _ _ h; exact absurd h (Nat.not_lt_zero _)
  | succ N ih =>
  intro l i p n c M w0 hN hn h16 hnc hi hv hM hx
  subst hn
  refine enter Tryd.func30 rfl rfl (Wd.beginM (M := M) (fs := [GlF p l]) hM (by simpa using hx)) (fun a S => ?_)
  simp only [Tryd.ntmps30, List.length_cons, List.length_nil, Nat.reduceAdd, Nat.reduceSub, List.replicate_succ, List.replicate_zero, List.cons_append, List.nil_append] at S
  refine c_seq ?_
  refine c_region ?_
  refine sq S ?_; clear S; intro a S
  refine wl_nil ?_
  refine xtn ?_
  iterate 2 (refine c_seq ?_)
  refine c_region ?_
  iterate 3 (refine sq S ?_; clear S; intro a S)
  refine wl_nil ?_
  refine xtn ?_
  refine c_cond S (fun h1 => ?_) (fun h1 => ?_)
  · refine c_seq ?_
    refine c_region ?_
    refine sq S ?_; clear S; intro a S
    refine wl_nil ?_
    refine xtn ?_
    refine c_ret ?_
    refine xtr ?_
    have hl1 : l.length ≤ 1 := by simp at h1; omega
    replace S := S.addNil 24 5
    have hrow := S.row none 0
    refine end1 S (fun _ => ?_)
    exact ⟨none, 0, [], rfl, hrow, nofun, fun _ _ t ht => (by cases ht), by rw [pathT_one hl1]; rfl, by simp; omega⟩
  · refine c_skip ?_
    refine xtn ?_
    refine c_seq ?_
    refine c_region ?_
    iterate 3 (refine sq S ?_; clear S; intro a S)
    rw [w64 _ (by omega) (by omega)] at S
    refine sq S ?_; clear S; intro a S
    have h2 : 2 ≤ l.length := by have q5 := of_decide_eq_false h1; omega
    have hh : halfN l.length < l.length ∧ 0 < halfN l.length := by unfold halfN; omega
    have eh : ((l.length : Int) + 1).tdiv 2 = ((halfN l.length : Nat) : Int) := by rw [Int.tdiv_eq_ediv_of_nonneg (by omega)]; unfold halfN; omega
    rw [eh, w64 ((halfN l.length : Nat) : Int) (by omega) (by omega)] at S
    refine sq S ?_; clear S; intro a S
    refine wl_nil ?_
    refine xtn ?_
    iterate 2 (refine c_seq ?_)
    have hlt : (l.take (halfN l.length)).length = halfN l.length := by rw [List.length_take]; omega
    have hld : (l.drop (halfN l.length)).length = l.length - halfN l.length := List.length_drop
    have hL1 : LeC (halfN l.length) c := ⟨by omega⟩
    have hL2 : LeC (halfN l.length) l.length := ⟨by omega⟩
    have hL3 : LeC l.length c := ⟨hnc⟩
    have hg := S.gl p (xs := l)
    replace S := (S.add (Φ := GlF (if c = halfN l.length then p else p.map (·.add (halfN l.length * 2))) (l.drop (halfN l.length))) (hg.imp fun _ h => h.drop _ hnc)).add (Φ := GlF p (l.take (halfN l.length))) (hg.imp fun _ h => h.take _)
    refine c_region ?_
    iterate 3 (refine sq S ?_; clear S; intro a S)
    refine wl_nil ?_
    refine xtn ?_
    refine c_cond S (fun h4 => ?_) (fun h4 => ?_)
    · refine c_seq ?_
      have hih : i < halfN l.length := by simp at h4; omega
      have hpr := pathT_r h2 hih
      replace S := S.add (Φ := LtF (textL [114])) (fun _ _ => by simp [LtIn, textL, LsIn, LtF])
      refine c_drawD [(0, true), (1, true), (2, true), (3, true), (6, true), (7, true), (8, true), (4, false), (5, false), (9, false), (10, false), (11, false), (12, false), (13, true)] [] S ?_; clear S; intro w S
      iterate 7 (refine dq S ?_; clear S; intro a S)
      refine dl ?_
      refine srn S (ih (l.take (halfN l.length)) i p (halfN l.length) c _ w (by omega) hlt (by omega) (by omega) hih (fun m hm => hv m (List.take_subset _ _ hm)) (foots_lt S) (S.mem.fact (GlF p (l.take (halfN l.length))))) ?_; clear S; rintro _ a w ⟨q0, e0, os, rfl, hown, hnew, hall, hmap, hol⟩ hS -
      have S := hS hown hnew
      clear hS
      replace S := St.addRowAll S hall
      refine de S ?_
      refine dl ?_
      refine sc S ?_; clear S; intro a w S
      refine de S ?_
      refine dl ?_
      refine sr S (r14root_c _ (l.drop (halfN l.length)) (if c = halfN l.length then p else p.map (·.add (halfN l.length * 2))) (l.length - halfN l.length) (c - halfN l.length) _ w (Nat.lt_succ_self _) hld (by omega) (by omega) (fun m hm => hv m (List.drop_subset _ _ hm)) (foots_lt S) (S.mem.fact (GlF (if c = halfN l.length then p else p.map (·.add (halfN l.length * 2))) (l.drop (halfN l.length))))) ?_; clear S; rintro _ a w ⟨r1, rfl, hr1, hrf1⟩ S
      replace S := S.add hrf1
      refine de S ?_
      refine dl ?_
      refine sr S (rpair_c (textL [114]) r1 _ w (foots_lt S) (S.t _) (S.t r1)) ?_; clear S; rintro _ a w ⟨r, rfl, hr, hrf⟩ S
      replace S := S.add hrf
      refine de S ?_
      refine dl ?_
      refine sn S ?_; clear S; intro b27 a w S
      refine de S ?_
      refine dl ?_
      refine sap S (by simp [maxLen]; omega) (by omega) ?_; clear S; rintro p5 c5 a w - S
      rw [show encL os ++ r.cells = encL (os ++ [r]) from by rw [encL_append, encT_cells], show os.length + 1 = (os ++ [r]).length from by simp] at S
      refine de S ?_
      refine dq S ?_; clear S; intro a S
      refine dn ?_
      refine xtn ?_
      refine c_ret ?_
      refine xtr ?_
      have h1 := S.wd.facts (AllI os) (by simp)
      have h2 := S.t r
      replace S := S.add (AllI.snoc h1 h2)
      have hmap' : (os ++ [r]).map LTerm.t = (pathT l i).reverse := by rw [List.map_append, hmap, hpr, List.reverse_cons, List.map_cons, List.map_nil, hr, hr1]; rfl
      have hrow := S.row p5 (os ++ [r]).length
      have hnew := S.rowNew p5 (os ++ [r]).length
      have hall := (S.wd.facts (AllI (os ++ [r])) (by simp)).less (N := fun k => M k ∨ ∃ ad, p5 = some ad ∧ k = ad.block) (fun k _ hk => hk.elim (fun h => ⟨ext M, by simp, h⟩) (fun h => ⟨Wk.row 24 5 p5 (os ++ [r]).length c5 (encL (os ++ [r])), by simp, h⟩))
      refine end1 S (fun _ => ?_)
      exact ⟨p5, c5, os ++ [r], rfl, hrow, fun ad h => (hnew ad h).elim (fun h => h.elim) id, hall, hmap', by simp; omega⟩
    · refine c_skip ?_
      refine xtn ?_
      refine c_seq ?_
      have hih : ¬ i < halfN l.length := by simp at h4; omega
      have hpl := pathT_l h2 hih
      replace S := S.add (Φ := LtF (textL [108])) (fun _ _ => by simp [LtIn, textL, LsIn, LtF])
      refine c_drawD [(0, true), (1, true), (2, true), (3, true), (4, true), (5, true), (8, true), (9, true), (10, true), (6, false), (7, false), (11, false), (12, false), (13, false), (14, false), (15, true)] [] S ?_; clear S; intro w S
      iterate 6 (refine dq S ?_; clear S; intro a S)
      rw [w64 _ (by omega) (by omega), show (i : Int) - ((halfN l.length : Nat) : Int) = ((i - halfN l.length : Nat) : Int) from by omega] at S
      iterate 3 (refine dq S ?_; clear S; intro a S)
      refine dl ?_
      refine srn S (ih (l.drop (halfN l.length)) (i - halfN l.length) (if c = halfN l.length then p else p.map (·.add (halfN l.length * 2))) (l.length - halfN l.length) (c - halfN l.length) _ w (by omega) hld (by omega) (by omega) (by omega) (fun m hm => hv m (List.drop_subset _ _ hm)) (foots_lt S) (S.mem.fact (GlF (if c = halfN l.length then p else p.map (·.add (halfN l.length * 2))) (l.drop (halfN l.length))))) ?_; clear S; rintro _ a w ⟨q0, e0, os, rfl, hown, hnew, hall, hmap, hol⟩ hS -
      have S := hS hown hnew
      clear hS
      replace S := St.addRowAll S hall
      refine de S ?_
      refine dl ?_
      refine sc S ?_; clear S; intro a w S
      refine de S ?_
      refine dl ?_
      refine sr S (r14root_c _ (l.take (halfN l.length)) p (halfN l.length) c _ w (Nat.lt_succ_self _) hlt (by omega) (by omega) (fun m hm => hv m (List.take_subset _ _ hm)) (foots_lt S) (S.mem.fact (GlF p (l.take (halfN l.length))))) ?_; clear S; rintro _ a w ⟨r1, rfl, hr1, hrf1⟩ S
      replace S := S.add hrf1
      refine de S ?_
      refine dl ?_
      refine sr S (rpair_c (textL [108]) r1 _ w (foots_lt S) (S.t _) (S.t r1)) ?_; clear S; rintro _ a w ⟨r, rfl, hr, hrf⟩ S
      replace S := S.add hrf
      refine de S ?_
      refine dl ?_
      refine sn S ?_; clear S; intro b42 a w S
      refine de S ?_
      refine dl ?_
      refine sap S (by simp [maxLen]; omega) (by omega) ?_; clear S; rintro p6 c6 a w - S
      rw [show encL os ++ r.cells = encL (os ++ [r]) from by rw [encL_append, encT_cells], show os.length + 1 = (os ++ [r]).length from by simp] at S
      refine de S ?_
      refine dq S ?_; clear S; intro a S
      refine dn ?_
      refine xtn ?_
      refine c_ret ?_
      have h1 := S.wd.facts (AllI os) (by simp)
      have h2 := S.t r
      replace S := S.add (AllI.snoc h1 h2)
      have hmap' : (os ++ [r]).map LTerm.t = (pathT l i).reverse := by rw [List.map_append, hmap, hpl, List.reverse_cons, List.map_cons, List.map_nil, hr, hr1]; rfl
      have hrow := S.row p6 (os ++ [r]).length
      have hnew := S.rowNew p6 (os ++ [r]).length
      have hall := (S.wd.facts (AllI (os ++ [r])) (by simp)).less (N := fun k => M k ∨ ∃ ad, p6 = some ad ∧ k = ad.block) (fun k _ hk => hk.elim (fun h => ⟨ext M, by simp, h⟩) (fun h => ⟨Wk.row 24 5 p6 (os ++ [r]).length c6 (encL (os ++ [r])), by simp, h⟩))
      refine end1 S (fun _ => ?_)
      exact ⟨p6, c6, os ++ [r], rfl, hrow, fun ad h => (hnew ad h).elim (fun h => h.elim) id, hall, hmap', by simp; omega⟩
end Go.Proofs.YtieeoakdkbackaaDoor

/- Layer 14: TreeProofs. -/
namespace Go.Proofs.YtieeoakdkbackaaDoor
open Go Go.Wk
set_option synthInstance.maxSize 100000
set_option synthInstance.maxHeartbeats 400000
set_option maxRecDepth 100000

theorem cell_same {B : Nat → Prop} {w w' : World} (h : ∀ k, B k → w'.heap[k]? = w.heap[k]?) {b o : Nat} (hb : B b) {v : Value} (hc : w.cell? ⟨b, o, none⟩ = some v) : w'.cell? ⟨b, o, none⟩ = some v := by
  unfold World.cell? at *
  rw [h _ hb]; exact hc
mutual
theorem LtIn_loc {B : Nat → Prop} {w w' : World} (h : ∀ k, B k → w'.heap[k]? = w.heap[k]?) : ∀ t : LTerm, TU B w t → LtIn w t → LtIn w' t
  | .mk _ _ _ _ p _ ks, hu, hi => by
    rw [TU] at hu
    rw [LtIn] at hi ⊢
    exact ⟨hi.1, hi.2.1, LsIn_loc h ks p 0 hu hi.2.2⟩
theorem LsIn_loc {B : Nat → Prop} {w w' : World} (h : ∀ k, B k → w'.heap[k]? = w.heap[k]?) : ∀ (ts : List LTerm) (p : Option Addr) (i : Nat), LU B w p ts → LsIn w p i ts → LsIn w' p i ts
  | [], p, i, _, _ => by simp [LsIn]
  | t :: ts, p, i, hu, hi => by
    rw [LU] at hu
    rw [LsIn] at hi ⊢
    obtain ⟨⟨b, cs, T, e1, e2, -⟩, h2, h3⟩ := hu
    obtain ⟨⟨ad, f1, f2⟩, f3, f4⟩ := hi
    refine ⟨⟨ad, f1, fun j v hj => ?_⟩, LtIn_loc h t h2 f3, LsIn_loc h ts p (i + 1) h3 f4⟩
    have := f2 j v hj
    rw [e1] at f1
    obtain rfl := Option.some.inj f1
    rw [add_lit] at this ⊢
    exact cell_same h e2 this
end
mutual
theorem Sk.trans : ∀ {a b c : LTerm}, Sk a b → Sk b c → Sk a c
  | .mk _ _ _ _ _ _ ks, .mk _ _ _ _ _ _ ls, c, h, k => by
    rw [Sk] at h k ⊢
    simp only [LTerm.text, LTerm.p, LTerm.cap, LTerm.kids] at h
    obtain ⟨rfl, rfl, rfl, h4⟩ := h
    exact ⟨k.1, k.2.1, k.2.2.1, SkL.trans h4 k.2.2.2⟩
theorem SkL.trans : ∀ {a b c : List LTerm}, SkL a b → SkL b c → SkL a c
  | [], _, _, h, k => by
    rw [SkL] at h; subst h; exact k
  | x :: xs, b, c, h, k => by
    rw [SkL] at h
    obtain ⟨y, ys, rfl, h1, h2⟩ := h
    rw [SkL] at k ⊢
    obtain ⟨z, zs, rfl, k1, k2⟩ := k
    exact ⟨z, zs, rfl, Sk.trans h1 k1, SkL.trans h2 k2⟩
end
theorem LU_mk {B : Nat → Prop} {w : World} {p : Option Addr} : ∀ {ts : List LTerm}, (ts ≠ [] → ∃ b cs T, p = some ⟨b, 0, none⟩ ∧ B b ∧ w.heap[b]? = some (.cells cs T (0, 0))) → (∀ t ∈ ts, TU B w t) → LU B w p ts
  | [], _, _ => by rw [LU]; trivial
  | t :: ts, h, k => by
    rw [LU]
    exact ⟨h (by simp), k t (by simp), LU_mk (fun _ => h (by simp)) (fun x hx => k x (List.mem_cons_of_mem _ hx))⟩
theorem LU_same {B : Nat → Prop} {w w' : World} (h : ∀ k, B k → w'.heap[k]? = w.heap[k]?) {p : Option Addr} {ts : List LTerm} (hu : LU B w p ts) : LU B w' p ts :=
  LU_map (fun b cs T hb hc => ⟨hb, cs, by rw [h b hb]; exact hc⟩) ts ts p (SkL.refl ts) hu
/-- a row of terms in memory of their own, known up to R. -/
def spq (B : Nat → Prop) (p : Option Addr) (R : List LTerm → Prop) : Wk.Item where
  foot := B
  holds := fun w => (∀ k, B k → k < w.heap.size) ∧ ∃ ts, R ts ∧ LsIn w p 0 ts ∧ LU B w p ts
theorem lt_of_get {w : World} {k : Nat} {o : Obj} (h : w.heap[k]? = some o) : k < w.heap.size := (Array.getElem?_eq_some_iff.1 h).1
instance spqOk {B : Nat → Prop} {p : Option Addr} {R : List LTerm → Prop} : ItOk (spq B p R) := ⟨fun w1 w2 h h1 => by
  obtain ⟨hb, ts, h2, h3, h4⟩ := h1
  refine ⟨fun k hk => ?_, ts, h2, LsIn_loc h ts p 0 h4 h3, LU_same h h4⟩
  have := h k hk
  rw [Array.getElem?_eq_getElem (hb k hk)] at this
  exact lt_of_get this, fun w h k hk => h.1 k hk⟩
theorem Ret.also {P : Program} {f : Nat} {args : List Value} {w : World} {M : Nat → Prop} {R : Value → World → Prop} (h : Ret P f args w M R) : Ret P f args w M (fun v w' => R v w' ∧ Agree M w w') :=
  Calls.mono h fun _ _ ⟨v, e, ha, hv⟩ => ⟨v, e, ha, hv, ha⟩
theorem shortL_idem (l : List LMark) : shortL (shortL l) = shortL l := by
  unfold shortL
  rw [← List.map_take, List.take_take, List.map_map]
  have h : (shortM ∘ shortM) = shortM := by funext m; simp [shortM, List.take_take]
  rw [h, Nat.min_self]
theorem treeproofs_c (l : List LMark) (ks : List (List UInt8)) (p q : Option Addr) (c ce : Nat) (w0 : World) (hl : l.length ≤ 9223372036854775807) (hkl : ks.length ≤ 9223372036854775807) (ht : Stable (fun _ => False) w0 LibF) (hx : Stable (fun _ => False) w0 (GlF p l)) (hy : Stable (fun _ => False) w0 (GlF q ks)) :
    Ret Tryd.prog 6 [.slice p l.length c, .slice q ks.length ce] w0 (fun _ => False) fun v _ => v = .bool true := by
  refine enter Tryd.func6 rfl rfl (Wd.begin (fs := [TabF, LibF, GlF p l, GlF q ks]) (by simp; exact ⟨ht.imp fun _ h => h.1, ht, hx, hy⟩)) (fun a S => ?_)
  simp only [Tryd.ntmps6, List.length_cons, List.length_nil, Nat.reduceAdd, Nat.reduceSub, List.replicate_succ, List.replicate_zero, List.cons_append, List.nil_append] at S
  refine c_seq ?_
  refine c_region ?_
  refine sq S ?_; clear S; intro a S
  refine wl_nil ?_
  refine xtn ?_
  iterate 2 (refine c_seq ?_)
  refine c_region ?_
  refine sr S (wakes14_c _ (S.mem.fact0 LibF)) ?_; clear S; rintro _ a w rfl S
  refine sq S ?_; clear S; intro a S
  rw [show (!true) = false from rfl] at S
  refine wl_nil ?_
  refine xtn ?_
  refine c_condF S ?_
  refine c_skip ?_
  refine xtn ?_
  refine c_seq ?_
  refine c_region ?_
  refine sq S ?_; clear S; intro a S
  refine sr S (short_c l p c _ w hl (foots_lt S) (S.mem.fact (GlF p l))) ?_; clear S; rintro _ a w ⟨p1, c1, rfl, hc1, hf1⟩ S
  replace S := S.add hf1
  have hxl2 := shortL_len l
  obtain ⟨L, hL⟩ : ∃ L, L = shortL l := ⟨_, rfl⟩
  have hLi : shortL L = L := by rw [hL, shortL_idem]
  rw [← hL] at S hc1 hf1 hxl2
  refine sq S ?_; clear S; intro a S
  refine wl_nil ?_
  refine xtn ?_
  refine c_seq ?_
  refine c_region ?_
  refine sq S ?_; clear S; intro a S
  refine sr S (short_c L p1 c1 _ w (by omega) (foots_lt S) (S.mem.fact (GlF p1 L))) ?_; clear S; rintro _ a w ⟨p2, c2, rfl, hc2, hf2⟩ S
  rw [hLi] at S hc2 hf2
  replace S := S.add hf2
  refine sq S ?_; clear S; intro a S
  refine wl_nil ?_
  refine xtn ?_
  iterate 2 (refine c_seq ?_)
  refine c_region ?_
  iterate 3 (refine sq S ?_; clear S; intro a S)
  refine wl_nil ?_
  refine xtn ?_
  refine c_block ?_
  refine c_fore1 S (fun (k : Nat) uu => [(4, uu 4), (1, uu 6), (0, uu 7), (0, uu 8), (0, uu 9), (0, uu 10), (0, uu 11), (0, uu 12), (0, uu 13), (8, .int .i64 (k : Nat)), (0, uu 23), (0, uu 24), (0, uu 25), (0, uu 26), (0, uu 27), (0, uu 28), (0, uu 29), (0, uu 30), (0, uu 31), (0, uu 32), (0, uu 33), (0, uu 34), (0, uu 35), (0, uu 36), (0, uu 37), (0, uu 38), (0, uu 39), (0, uu 40), (0, uu 41), (0, uu 42), (0, uu 43), (0, uu 44), (0, uu 45), (0, uu 46), (0, uu 47), (0, uu 48), (0, uu 49), (0, uu 50), (0, uu 51), (0, uu 52), (0, uu 53), (0, uu 54), (0, uu 55), (0, uu 56), (0, uu 57), (0, uu 58), (0, uu 59), (0, uu 60), (0, uu 61), (0, uu 62), (0, uu 63), (0, uu 64), (0, uu 65), (0, uu 66), (0, uu 67), (0, uu 68), (0, uu 69), (0, uu 70), (0, uu 71), (0, uu 72), (0, uu 73), (0, uu 74), (0, uu 75), (0, uu 76), (0, uu 77), (0, uu 78), (0, uu 79), (0, uu 80), (0, uu 81), (0, uu 82), (0, uu 83), (0, uu 84), (0, uu 85), (0, uu 86), (0, uu 87), (0, uu 88), (0, uu 89), (0, uu 90), (0, uu 91), (0, uu 92), (0, uu 93), (0, uu 94)]) (fun (k : Nat) => []) (fun (k : Nat) => [GlF p2 L, GlF p1 L, TabF, LibF, GlF q ks]) (fun (k : Nat) => k ≤ ks.length) (fun (k : Nat) => ks.length - k) (0) ?_ S.uu ?_ ?_
  · exact Nat.zero_le _
  · first | exact S | exact S.sub _ _
  · clear S; rintro k uu a w hk S
    refine c_seq ?_
    refine c_region ?_
    refine sq S ?_; clear S; intro a S
    refine wl_nil ?_
    refine xtn ?_
    refine c_seq ?_
    refine c_cond S (fun h6 => ?_) (fun h6 => ?_)
    · refine c_skip ?_
      refine xtn ?_
      refine c_seq ?_
      refine c_block ?_
      refine c_seq ?_
      have hkl2 : k < ks.length := by simp at h6; omega
      have hK : KLt k ks.length := ⟨hkl2⟩
      refine c_region ?_
      iterate 5 (refine sq S ?_; clear S; intro a S)
      refine wl_nil ?_
      refine xtn ?_
      iterate 2 (refine c_seq ?_)
      refine c_region ?_
      iterate 2 (refine sq S ?_; clear S; intro a S)
      refine wl_nil ?_
      refine xtn ?_
      refine c_cond S (fun h8 => ?_) (fun h8 => ?_)
      · refine c_exit ?_
        refine xte ?_
        refine xbx ?_
        iterate 2 (refine xte ?_)
        refine xbe ?_
        refine xtn ?_
        refine c_seq ?_
        refine c_region ?_
        refine sq S ?_; clear S; intro a S
        refine wl_nil ?_
        refine xtn ?_
        refine c_ret ?_
        refine end1 S (fun _ => rfl)
      · refine c_skip ?_
        refine xtn ?_
        refine c_seq ?_
        refine c_region ?_
        iterate 2 (refine sq S ?_; clear S; intro a S)
        obtain ⟨B0, hB0⟩ : ∃ B0, B0 = w.heap.size := ⟨_, rfl⟩
        refine snew S (tproofU_c B0 L p1 c1 (nthG ks k) _ w hc1 (by omega) (foots_lt S) (S.mem.fact TabF) (S.mem.fact (GlF p1 L)) (by rw [hB0]; exact Nat.le_refl _)) ?_; clear S
        rintro _ a w2 hsz ⟨po, co, os, e, rfl, hls, htu, he1, he2, he3, hpb⟩ hS -
        obtain ⟨B, hB⟩ : ∃ B : Nat → Prop, B = fun k => B0 ≤ k ∧ k < w2.heap.size := ⟨_, rfl⟩
        have hfull : LU B w2 po os := LU_mk (fun hne => by
            obtain ⟨b, cs, T, g1, g2, g3⟩ := hpb hne
            exact ⟨b, cs, T, g1, by rw [hB]; exact ⟨g2, lt_of_get g3⟩, g3⟩) (fun t ht => TU_map (fun b cs T hb hc => ⟨by rw [hB]; exact ⟨hb, lt_of_get hc⟩, cs, hc⟩) t t (Sk.refl t) (htu.now t ht))
        have S := hS (spq B po (· = os)) ⟨fun k h => by rw [hB] at h; exact h.2, os, rfl, hls.now, hfull⟩ (fun k (h : B k) => by rw [hB] at h; rw [← hB0]; exact h.1)
        clear hS
        iterate 5 (refine sq S ?_; clear S; intro a S)
        refine wl_nil ?_
        refine xtn ?_
        iterate 2 (refine c_seq ?_)
        refine c_region ?_
        refine sq S ?_; clear S; intro a S
        refine sr S (r14right_c L p2 L.length c2 _ rfl (by omega) (S.mem.fact0 (GlF p2 L))) ?_; clear S; rintro _ a w rfl S
        refine sq S ?_; clear S; intro a S
        refine wl_nil ?_
        refine xtn ?_
        refine c_cond S (fun h10 => ?_) (fun h10 => ?_)
        · refine c_seq ?_
          refine c_seq ?_
          have hb : okM L = false := by simpa using h10
          obtain ⟨rfl, rfl⟩ := he1 hb
          refine c_region ?_
          iterate 2 (refine sq S ?_; clear S; intro a S)
          rw [show (!decide ((240 : Int) = 240)) = false from rfl] at S
          refine sq S ?_; clear S; intro a S
          refine gT' S ?_
          refine sq S ?_; clear S; intro a S
          refine gT' S ?_
          refine sq S ?_; clear S; intro a S
          refine gT' S ?_
          refine sq S ?_; clear S; intro a S
          rw [show (!decide ((([] : List LTerm).length : Int) = 0)) = false from rfl] at S
          refine sq S ?_; clear S; intro a S
          refine wl_nil ?_
          refine xtn ?_
          refine c_condF S ?_
          refine c_skip ?_
          refine xtn ?_
          refine c_exit ?_
          refine xte ?_
          refine xbe ?_
          refine xtn ?_
          refine c_region ?_
          iterate 2 (refine sq S ?_; clear S; intro a S)
          refine wl_nil ?_
          refine xtn ?_
          rw [w64 ((k : Int) + 1) (by omega) (by omega)] at S
          exact ⟨k + 1, S.uu, hkl2, S.sub _ _, by omega⟩
        · refine c_skip ?_
          refine xtn ?_
          refine c_seq ?_
          have hb : okM L = true := by simpa using h10
          obtain ⟨v1, v2, v3, v4⟩ := okV L hb
          refine c_region ?_
          refine sq S ?_; clear S; intro a S
          refine wl_nil ?_
          refine xtn ?_
          iterate 2 (refine c_seq ?_)
          refine c_region ?_
          iterate 3 (refine sq S ?_; clear S; intro a S)
          refine wl_nil ?_
          refine xtn ?_
          refine c_block ?_
          refine c_fore2 S (fun (j : Nat) (z : Int) uu => [(10, .int .i64 z), (0, uu 11), (0, uu 12), (34, .int .i64 (j : Nat)), (0, uu 48), (0, uu 49), (0, uu 50), (0, uu 51), (0, uu 52), (0, uu 53), (0, uu 54), (0, uu 55), (0, uu 56), (0, uu 57)]) (fun (j : Nat) (z : Int) => [spq B po (· = os)]) (fun (j : Nat) (z : Int) => [GlF p2 L, GlF p1 L, TabF, LibF, GlF q ks]) (fun (j : Nat) (z : Int) => j ≤ L.length ∧ ((z = -1 ∧ ∀ i, i < j → (nthG L i).key ≠ nthG ks k) ∨ ∃ i, i < j ∧ z = (i : Nat) ∧ (nthG L i).key = nthG ks k)) (fun (j : Nat) (z : Int) => L.length - j) (0) (-1) ?_ S.uu ?_ ?_
          · exact ⟨Nat.zero_le _, .inl ⟨rfl, fun i h => absurd h (by omega)⟩⟩
          · first | exact S | exact S.sub _ _
          · clear S; rintro j z uu a w ⟨hj, hz⟩ S
            refine c_seq ?_
            refine c_region ?_
            refine sq S ?_; clear S; intro a S
            refine wl_nil ?_
            refine xtn ?_
            refine c_seq ?_
            refine c_cond S (fun h15 => ?_) (fun h15 => ?_)
            · refine c_skip ?_
              refine xtn ?_
              refine c_seq ?_
              refine c_block ?_
              refine c_seq ?_
              have hjl : j < L.length := by simp at h15; omega
              have hKj : KLt j L.length := ⟨hjl⟩
              refine c_region ?_
              iterate 3 (refine sq S ?_; clear S; intro a S)
              refine sa S ?_; clear S; intro b12 a w S
              refine sq S ?_; clear S; intro a S
              refine sw S ?_; clear S; intro a w S
              refine wl_nil ?_
              refine xtn ?_
              refine c_seq ?_
              refine c_region ?_
              iterate 4 (refine sq S ?_; clear S; intro a S)
              refine wl_nil ?_
              refine xtn ?_
              refine c_cond S (fun h17 => ?_) (fun h17 => ?_)
              · refine c_region ?_
                iterate 2 (refine sq S ?_; clear S; intro a S)
                refine wl_nil ?_
                refine xbn ?_
                refine xtn ?_
                refine c_region ?_
                iterate 2 (refine sq S ?_; clear S; intro a S)
                refine wl_nil ?_
                refine xtn ?_
                rw [w64 ((j : Int) + 1) (by omega) (by omega)] at S
                exact ⟨j + 1, (j : Int), S.uu, ⟨hjl, .inr ⟨j, by omega, rfl, by simpa using h17⟩⟩, S.sub _ _, by omega⟩
              · refine c_skip ?_
                refine xbn ?_
                refine xtn ?_
                refine c_region ?_
                iterate 2 (refine sq S ?_; clear S; intro a S)
                refine wl_nil ?_
                refine xtn ?_
                rw [w64 ((j : Int) + 1) (by omega) (by omega)] at S
                refine ⟨j + 1, z, S.uu, ⟨hjl, ?_⟩, S.sub _ _, by omega⟩
                rcases hz with ⟨rfl, h⟩ | ⟨i, h1, h2, h3⟩
                · refine .inl ⟨rfl, fun i hi => ?_⟩
                  rcases Nat.lt_succ_iff_lt_or_eq.1 hi with h' | rfl
                  · exact h i h'
                  · simpa using h17
                · exact .inr ⟨i, by omega, h2, h3⟩
            · refine c_exit ?_
              iterate 2 (refine xte ?_)
              refine xbe ?_
              refine xtn ?_
              iterate 2 (refine c_seq ?_)
              refine c_region ?_
              iterate 2 (refine sq S ?_; clear S; intro a S)
              refine wl_nil ?_
              refine xtn ?_
              refine c_cond S (fun h20 => ?_) (fun h20 => ?_)
              · refine c_seq ?_
                refine c_seq ?_
                have hz0 : z < 0 := by simpa using h20
                have hjL : j = L.length := by simp at h15; omega
                have hno : nthG ks k ∉ L.map LMark.key := by
                  rcases hz with ⟨-, h⟩ | ⟨i, -, rfl, -⟩
                  · intro hm
                    obtain ⟨m, hm1, hm2⟩ := List.mem_map.1 hm
                    obtain ⟨i, hi, rfl⟩ := List.mem_iff_getElem.1 hm1
                    refine h i (by omega) ?_
                    rw [← hm2]
                    have := nthG_get hi
                    rw [List.getElem?_eq_getElem hi] at this
                    rw [Option.some.inj this]
                  · omega
                obtain ⟨rfl, rfl⟩ := he2 hb hno
                refine c_region ?_
                iterate 2 (refine sq S ?_; clear S; intro a S)
                rw [show (!decide ((4 : Int) = 4)) = false from rfl] at S
                refine sq S ?_; clear S; intro a S
                refine gT' S ?_
                refine sq S ?_; clear S; intro a S
                refine gT' S ?_
                refine sq S ?_; clear S; intro a S
                refine gT' S ?_
                refine sq S ?_; clear S; intro a S
                rw [show (!decide ((([] : List LTerm).length : Int) = 0)) = false from rfl] at S
                refine sq S ?_; clear S; intro a S
                refine wl_nil ?_
                refine xtn ?_
                refine c_condF S ?_
                refine c_skip ?_
                refine xtn ?_
                refine c_exit ?_
                refine xte ?_
                refine xbe ?_
                refine xtn ?_
                refine c_region ?_
                iterate 2 (refine sq S ?_; clear S; intro a S)
                refine wl_nil ?_
                refine xtn ?_
                rw [w64 ((k : Int) + 1) (by omega) (by omega)] at S
                exact ⟨k + 1, S.uu, hkl2, S.sub _ _, by omega⟩
              · refine c_skip ?_
                refine xtn ?_
                iterate 2 (refine c_seq ?_)
                have hz0 : ¬ z < 0 := by simpa using h20
                obtain ⟨i, hij, rfl, hik⟩ : ∃ i, i < j ∧ z = (i : Nat) ∧ (nthG L i).key = nthG ks k := by
                  rcases hz with ⟨rfl, -⟩ | h
                  · exact absurd (by decide) hz0
                  · exact h
                have hiL : i < L.length := by omega
                have hin : nthG ks k ∈ L.map LMark.key := List.mem_map.2 ⟨_, nthG_mem hiL, hik⟩
                obtain ⟨rfl, i', hi'l, hi'k, hmap⟩ := he3 hb hin
                obtain rfl : i = i' := key_inj hb hiL hi'l (hik.trans hi'k.symm)
                refine c_region ?_
                iterate 2 (refine sq S ?_; clear S; intro a S)
                rw [show (!decide ((0 : Int) = 0)) = false from rfl] at S
                refine sq S ?_; clear S; intro a S
                refine gT' S ?_
                refine sq S ?_; clear S; intro a S
                refine gT' S ?_
                refine sq S ?_; clear S; intro a S
                refine gT' S ?_
                refine sq S ?_; clear S; intro a S
                refine gT' S ?_
                refine srn S (rproof14_c _ L i p2 L.length c2 _ w (Nat.lt_succ_self _) rfl v1 hc2 hiL v2 (foots_lt S) (S.mem.fact (GlF p2 L))) ?_; clear S; rintro _ a w ⟨q0, e0, os2, rfl, hown, hnew, hall, hmap2, hol⟩ hS -
                have S := hS hown hnew
                clear hS
                replace S := St.addRowAll S hall
                have hosl : os.length = os2.length := by rw [← List.length_map (f := LTerm.t), hmap, ← hmap2, List.length_map]
                refine gT' S ?_
                have hh : (spq B po (· = os)).holds w := S.it (spq B po (· = os))
                obtain ⟨-, ts', rfl, hlsn, -⟩ := hh
                have hls2 : Stable (fun _ => False) w (LsF q0 0 os2) := (gl_own (M := fun _ => False) (S.row q0 os2.length) ((S.wd.facts (AllI os2) (by simp)).less fun _ _ h => h.elim) (fun _ _ h => h)).imp fun _ h => gl_ls h
                refine sr S (rsameall_c po q0 co e0 ts' os2 _ (by omega) hlsn.stable hls2) ?_; clear S; rintro _ a w rfl S
                rw [hmap, hmap2, (sameLF_iff _ _).2 rfl] at S
                refine gT' S ?_
                refine sq S ?_; clear S; intro a S
                rw [show (!true) = false from rfl] at S
                iterate 2 (refine sq S ?_; clear S; intro a S)
                refine gT' S ?_
                refine sq S ?_; clear S; intro a S
                refine gT' S ?_
                refine sq S ?_; clear S; intro a S
                refine gT' S ?_
                refine sr S (r14same_c L L p1 p2 c1 c2 _ (by omega) (S.mem.fact0 (GlF p1 L)) (S.mem.fact0 (GlF p2 L))) ?_; clear S; rintro _ a w rfl S
                rw [show decide (L = L) = true from decide_eq_true rfl] at S
                refine gT' S ?_
                refine sq S ?_; clear S; intro a S
                rw [show (!true) = false from rfl] at S
                refine sq S ?_; clear S; intro a S
                refine wl_nil ?_
                refine xtn ?_
                refine c_condF S ?_
                refine c_skip ?_
                refine xtn ?_
                refine c_seq ?_
                refine c_region ?_
                iterate 3 (refine sq S ?_; clear S; intro a S)
                refine wl_nil ?_
                refine xtn ?_
                refine c_block ?_
                have hh : (spq B po (· = ts')).holds w := S.it (spq B po (· = ts'))
                obtain ⟨hh1, hh2⟩ := hh
                replace S := S.reput (x := spq B po (· = ts')) (y := spq B po (SkL ts')) S.slots S.defers rfl (Agree.refl _ _) ⟨hh1, by obtain ⟨z, rfl, h⟩ := hh2; exact ⟨z, SkL.refl z, h⟩⟩ (fun k h => .inl h) hh1 spqOk.loc
                refine c_fore1 S (fun (n : Nat) uu => [(13, uu 13), (71, .int .i64 (n : Nat)), (0, uu 86), (0, uu 87), (0, uu 88), (0, uu 89), (0, uu 90), (0, uu 91), (0, uu 92), (0, uu 93)]) (fun (n : Nat) => [spq B po (SkL ts')]) (fun (n : Nat) => [GlF p2 L, GlF p1 L, TabF, LibF, GlF q ks]) (fun (n : Nat) => n ≤ ts'.length) (fun (n : Nat) => ts'.length - n) (0) ?_ S.uu ?_ ?_
                · exact Nat.zero_le _
                · first | exact S | exact S.sub _ _
                · clear S; rintro n uu a w hn S
                  refine c_seq ?_
                  refine c_region ?_
                  refine sq S ?_; clear S; intro a S
                  refine wl_nil ?_
                  refine xtn ?_
                  refine c_seq ?_
                  refine c_cond S (fun h26 => ?_) (fun h26 => ?_)
                  · refine c_skip ?_
                    refine xtn ?_
                    refine c_seq ?_
                    refine c_block ?_
                    refine c_seq ?_
                    have hnl : n < ts'.length := by simp at h26; omega
                    have hKn : KLt n ts'.length := ⟨hnl⟩
                    have hh : (spq B po (SkL ts')).holds w := S.it (spq B po (SkL ts'))
                    obtain ⟨hbd, us, hsk, hus, hlu⟩ := hh
                    have hnu : n < us.length := by rw [hsk.len]; exact hnl
                    obtain ⟨⟨b, cs, T, hpb2, hBb, hob⟩, htuk⟩ := LU_get hlu hnu
                    obtain ⟨⟨ad, hpa, hca⟩, hink⟩ := LsIn.get hus (nth_get hnu)
                    have hPS : PS po := ⟨_, hpb2⟩
                    refine c_region ?_
                    iterate 2 (refine sq S ?_; clear S; intro a S)
                    refine wl_nil ?_
                    refine xtn ?_
                    refine c_region ?_
                    iterate 3 (refine sq S ?_; clear S; intro a S)
                    refine slA (nthL us n).cells S (fun j v hj => ?_) ?_
                    · rw [rAddr, hpa]
                      have := hca j v hj
                      rw [show (0 + n) * 5 + j = n * 5 + j from by omega] at this
                      simp only [Option.getD_some, add_add]
                      exact this
                    clear S; intro a S
                    refine sit (spq B po (SkL ts')) S (Ret.also (spoil_c _ (nthL us n) B w (Nat.lt_succ_self _) hink htuk hbd)) rfl ?_
                    clear S; rintro _ a w2 ⟨hR, hag⟩ hS
                    obtain ⟨vs, hsk2, hvs⟩ := LsIn_step hR hag us po 0 hus
                    have S := hS (spq B po (SkL ts')) ⟨fun k hk => Nat.lt_of_lt_of_le (hbd k hk) hag.size, vs, hsk.trans hsk2, hvs, LU_map (step_new hR) us vs po hsk2 hlu⟩ (fun k h => .inl h)
                    clear hS
                    refine wl_nil ?_
                    refine xbn ?_
                    refine xtn ?_
                    refine c_region ?_
                    iterate 2 (refine sq S ?_; clear S; intro a S)
                    refine wl_nil ?_
                    refine xtn ?_
                    rw [w64 ((n : Int) + 1) (by omega) (by omega)] at S
                    exact ⟨n + 1, S.uu, hnl, S.sub _ _, by omega⟩
                  · refine c_exit ?_
                    iterate 2 (refine xte ?_)
                    refine xbe ?_
                    refine xbn ?_
                    refine xtn ?_
                    refine c_region ?_
                    iterate 2 (refine sq S ?_; clear S; intro a S)
                    refine wl_nil ?_
                    refine xtn ?_
                    rw [w64 ((k : Int) + 1) (by omega) (by omega)] at S
                    exact ⟨k + 1, S.uu, hkl2, S.sub _ _, by omega⟩
    · refine c_exit ?_
      iterate 2 (refine xte ?_)
      refine xbe ?_
      refine xtn ?_
      refine c_seq ?_
      refine c_region ?_
      refine sq S ?_; clear S; intro a S
      refine wl_nil ?_
      refine xtn ?_
      refine c_ret ?_
      refine end1 S (fun _ => rfl)
end Go.Proofs.YtieeoakdkbackaaDoor

/- TreeProofs answers true at every input and leaves it as it was: the row, and the tied card. -/
namespace Go.Proofs.YtieeoakdkbackaaDoor
open Go Go.Wk
open Go.ChangeShapes Go.WideShapes Go.ChangeAt Go.RowKit
set_option maxRecDepth 100000

instance troStrK : Tro Tryd.prog 9 (List UInt8) := troS Tryd.underlying9 (by kernel_rfl)
instance troStrsK : Tro Tryd.prog 53 (Sl (List UInt8)) := troSl Tryd.underlying53 (by kernel_rfl)
theorem treeproofs_lifted (os : Os) (started : os.Started) (H : Type) (enc : TypeId × Value → H) :
    ReturnsInHanded {} Tryd.checked os 6 .any (fun w args => (Rows.treeProofsSpec.pre enc Tryd.prog Tryd.f6 Rows.treeProofsRow.domain false w args ∧ laidMet Tryd.prog laidL w) ∧ sizedMet enc Tryd.prog Tryd.f6 (OpenSpec.ofChange Rows.treeProofsSpec) false w args)
      (Rows.treeProofsSpec.post enc Tryd.prog Tryd.f6 false true false false) := by
  refine returnsInHanded_of_change_and (C := Tryd.checked) (X := fun w _ => laidMet Tryd.prog laidL w) (fun _ _ _ hh h => h.of_heap hh) own started (by kernel_rfl) Tryd.func6
    (ChangeSpec.witness_at (enc := enc) (C := Tryd.checked) (os := os) (X := fun w _ => laidMet Tryd.prog laidL w) false (laidWorld os) #[.slice none 0 0, .slice none 0 0] 8 rfl (by kernel_rfl) (by kernel_rfl) (by kernel_rfl) (by kernel_rfl) (by kernel_rfl) (laidWorld_met os _)) ?_
  intro W base args ds gs before hval0 hW _ _ hL _
  have hval : ∀ (j : Nat) t v, Tryd.f6.params[j]? = some t → args[j]? = some v → Value.okWide Tryd.prog W .any base t v := hval0
  have hW2 := hW
  obtain ⟨p, q, hA0, hV, rfl, _, _⟩ := hW
  have hA : DataW.TrodAll enc Tryd.prog W 0 (fun _ => true) true Tryd.f6.params.toList args.toList ds p := hA0
  rw [Tryd.params6] at hA hval
  obtain ⟨v0, v1, d0, d1, p0, p1, rfl, rfl, rfl, h0, h1⟩ := trodAll_two hA
  obtain ⟨rfl, rfl⟩ := trodVars_none hV
  obtain ⟨l, rfl, l_l, m_l, h_l⟩ := slice_of_Trod (α := LMark) Tryd.underlying46 h0 (hval 0 46 v0 rfl rfl)
  obtain ⟨k, rfl, l_k, m_k, h_k⟩ := slice_of_Trod (α := (List UInt8)) Tryd.underlying53 h1 (hval 1 53 v1 rfl rfl)
  refine Ret.law (treeproofs_c l.xs k.xs l.p k.p l.cap k.cap W (by unfold maxLen at *; omega) (by unfold maxLen at *; omega) (lib_of_laid hL).stable h_l.stable h_k.stable) fun W1 hag => ?_
  exact ⟨_, rfl, law_post (B := 4) laidOut (by kernel_rfl) rfl rfl rfl hW2 rfl rfl rfl hag⟩
theorem treeproofs_row : Rows.TreeProofsSaid :=
  OpenClaim.holds_of_wide 6 Tryd.f6 rfl rfl rfl rfl rfl rfl rfl ⟨rfl, rfl, rfl, rfl, rfl⟩ rfl rfl rfl rfl rfl (by kernel_rfl) Tryd.func6 (by kernel_rfl)
    (of_decide_eq_true (by kernel_rfl)) (by unfold Func.isWrapper; rw [if_neg (of_decide_eq_false (by kernel_rfl))]; exact ⟨rfl, rfl⟩)
    (fun os started H enc _ => treeproofs_lifted os started H enc)
theorem treeproofs_holds : Rows.TreeProofsCardSaid :=
  Claim7.holds_tied_plain_at .later [] [.data, .data, .data, .sentinel, .sentinel] true (true, "30fb8166acb64be85a64741f6e8d2359decb1c7b135f688c556d5568ddad5165") true
    treeproofs_row (fun _ h => by cases h) (by kernel_rfl) (fun _ h => by cases h) treeProofs_row_tie rfl ⟨rfl, rfl⟩ (by kernel_rfl) rfl
    (fun f fn hf hfn => by
      obtain rfl : f = 6 := Option.some.inj ((show Tryd.prog.funcNamed "safehouse/safehouselaw14.TreeProofs" = some 6 by kernel_rfl).symm.trans hf) |>.symm
      obtain rfl : fn = Tryd.f6 := (Option.some.inj (Tryd.func6.symm.trans hfn)).symm
      exact ⟨by kernel_rfl, fun j t ht => by
        rw [Tryd.params6] at ht
        have h3 : t = 46 ∨ t = 53 := by
          rcases j with _ | _ | j
          · exact .inl (by simpa using ht.symm)
          · exact .inr ((by simpa using ht.symm))
          · simp at ht
        rcases h3 with rfl | rfl
        · exact (show Tryd.prog.wantsStandIn 46 = false by kernel_rfl)
        · exact (show Tryd.prog.wantsStandIn 53 = false by kernel_rfl)⟩)
    (by kernel_rfl)
end Go.Proofs.YtieeoakdkbackaaDoor
