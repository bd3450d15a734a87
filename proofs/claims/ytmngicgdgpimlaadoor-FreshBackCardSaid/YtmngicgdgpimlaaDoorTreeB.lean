/- Package tree: rows, leaves, roots. -/
import Derived.Test.YtmngicgdgpimlaaDoorTreeA
import Derived.Test.YtmngicgdgpimlaaDoorTermG
namespace Go.Proofs.YtmngicgdgpimlaaDoor
open Go Go.Wk
set_option synthInstance.maxSize 100000
set_option synthInstance.maxHeartbeats 400000
set_option maxRecDepth 100000

/-- the library's table of powers of ten stands. -/
def TabF : World → Prop := fun w => Lib.TabIs Tryd.prog w "internal/strconv.uint64pow10" .u64 Lib.pow10Tab
theorem var_agree {P : Program} {w w' : World} {name : String} {cs : Array Value} (h : w.var? P name = some cs) (hw : Agree (fun _ => False) w w') : w'.var? P name = some cs := by
  unfold World.var? at *
  cases hg : P.globalNamed name with
  | none => rw [hg] at h; cases h
  | some g =>
    rw [hg] at h
    simp only [Option.bind_some] at h ⊢
    cases hb : w.heap[g]? with
    | none => rw [hb] at h; cases h
    | some o => rw [hw.blk (Array.getElem?_eq_some_iff.1 hb).1 (fun h => h), hb]; rw [hb] at h; exact h
theorem TabF.stable {w : World} (h : TabF w) : Stable (fun _ => False) w TabF := fun w' hw' => var_agree h hw'
theorem itoa_c (n : Int) (h0 : -9223372036854775808 ≤ n ∧ n ≤ 9223372036854775807) (w0 : World) (ht : TabF w0) : Ret Tryd.prog 21 [.int .i64 n] w0 (fun _ => False) fun v _ => v = str (Lib.itoa n) := by
  refine Calls.mono (Any.strconv_Itoa Tryd.laysM171 n h0.1 h0.2 w0 ht) ?_
  rintro e w' ⟨rfl, k, os, rfl⟩
  refine ⟨_, rfl, ⟨rfl, rfl, rfl, ?_, fun k' hk _ => ?_⟩, rfl⟩
  · show w0.heap.size ≤ (w0.heap ++ os).size
    simp
  · show (w0.heap ++ os)[k']? = w0.heap[k']?
    rw [Array.getElem?_append_left hk]
class I64 (n : Int) : Prop where
  lo : -9223372036854775808 ≤ n
  hi : n ≤ 9223372036854775807
instance {n : Int} {bs fs} [h : I64 n] [hf : HasFact fs TabF] : CallV Tryd.prog 21 [.int .i64 n] bs fs (str (Lib.itoa n)) := ⟨fun w m => itoa_c n ⟨h.lo, h.hi⟩ w (m.fact0 TabF).now⟩
def leafT (m : LMark) : Term := .hash (.pair (textT m.key) (textT (Lib.itoa m.ver)))
def joinT (a b : Term) : Term := .hash (.pair a b)
def halfN (n : Nat) : Nat := n - n / 2
def rootT (l : List LMark) : Term := if h0 : l.length = 0 then textT [] else if h1 : l.length = 1 then leafT (nthG l 0) else joinT (rootT (l.take (halfN l.length))) (rootT (l.drop (halfN l.length)))
termination_by l.length
decreasing_by
  · simp [halfN]; omega
  · simp [halfN]; omega
theorem rootT_two {l : List LMark} (h : 2 ≤ l.length) : rootT l = joinT (rootT (l.take (halfN l.length))) (rootT (l.drop (halfN l.length))) := by
  conv => lhs; rw [rootT]
  rw [dif_neg (by omega), dif_neg (by omega)]
theorem rootT_one {l : List LMark} (h : l.length = 1) : rootT l = leafT (nthG l 0) := by
  rw [rootT, dif_neg (by omega), dif_pos h]
theorem rootT_nil : rootT [] = textT [] := by rw [rootT]; rfl
theorem trow_c (m : LMark) (M : Nat → Prop) (w0 : World) (hm : 0 ≤ m.ver ∧ m.ver ≤ 65535) (hM : ∀ k, M k → k < w0.heap.size) (ht : Stable M w0 TabF) : Ret Tryd.prog 35 [vMark m] w0 (fun _ => False) fun v w' => IsT M w' v (.pair (textT m.key) (textT (Lib.itoa m.ver))) := by
  refine enter Tryd.func35 rfl rfl (Wd.beginM (M := M) (fs := [TabF]) hM (by simpa using ht)) (fun a S => ?_)
  simp only [Tryd.ntmps35, List.length_cons, List.length_nil, Nat.reduceAdd, Nat.reduceSub, List.replicate_succ, List.replicate_zero, List.cons_append, List.nil_append] at S
  refine c_seq ?_
  refine c_region ?_
  refine sa S ?_; clear S; intro b1 a w S
  refine sa S ?_; clear S; intro b2 a w S
  refine wl_nil ?_
  refine xtn ?_
  refine c_seq ?_
  refine c_drawD [(0, true), (1, true), (3, true), (4, true), (2, false), (5, false), (6, false), (7, false), (8, false)] [b2] S ?_; clear S; intro w S
  iterate 4 (refine dq S ?_; clear S; intro a S)
  refine dl ?_
  refine sc S ?_; clear S; intro a w S
  refine de S ?_
  refine dl ?_
  refine sr S (itoa_c m.ver ⟨by omega, by omega⟩ _ (S.mem.fact0 TabF).now) ?_; clear S; rintro _ a w rfl S
  refine de S ?_
  refine dl ?_
  refine sc S ?_; clear S; intro a w S
  refine de S ?_
  refine dl ?_
  replace S := (S.add (Φ := LtF (textL m.key)) (fun _ _ => by simp [LtIn, textL, LsIn, LtF])).add (Φ := LtF (textL (Lib.itoa m.ver))) (fun _ _ => by simp [LtIn, textL, LsIn, LtF])
  refine sr S (pair_c (textL m.key) (textL (Lib.itoa m.ver)) _ w (foots_lt S) (S.t _) (S.t _)) ?_; clear S; rintro _ a w ⟨r, rfl, hr, hrf⟩ S
  replace S := S.add hrf
  refine de S ?_
  refine dl ?_
  refine sw S ?_; clear S; intro a w S
  refine de S ?_
  refine dn ?_
  refine xtn ?_
  refine c_ret ?_
  have hlat := S.laterT (M := M) r
  refine end1 S (fun _ => ?_)
  exact ⟨r, rfl, hr, hlat⟩
theorem tleaf_c (m : LMark) (M : Nat → Prop) (w0 : World) (hm : 0 ≤ m.ver ∧ m.ver ≤ 65535) (hM : ∀ k, M k → k < w0.heap.size) (ht : Stable M w0 TabF) : Ret Tryd.prog 53 [vMark m] w0 (fun _ => False) fun v w' => IsT M w' v (leafT m) := by
  refine enter Tryd.func53 rfl rfl (Wd.beginM (M := M) (fs := [TabF]) hM (by simpa using ht)) (fun a S => ?_)
  simp only [Tryd.ntmps53, List.length_cons, List.length_nil, Nat.reduceAdd, Nat.reduceSub, List.replicate_succ, List.replicate_zero, List.cons_append, List.nil_append] at S
  refine c_seq ?_
  refine c_region ?_
  refine sa S ?_; clear S; intro b1 a w S
  refine sa S ?_; clear S; intro b2 a w S
  refine wl_nil ?_
  refine xtn ?_
  refine c_seq ?_
  refine c_region ?_
  refine sq S ?_; clear S; intro a S
  refine sr S (trow_c m _ w hm (foots_lt S) (S.mem.fact TabF)) ?_; clear S; rintro _ a w ⟨r, rfl, hr, hrf⟩ S
  replace S := S.add hrf
  refine sr S (hash_c r _ w (foots_lt S) (S.t r)) ?_; clear S; rintro _ a w ⟨q, rfl, hq, hqf⟩ S
  replace S := S.add hqf
  refine sw S ?_; clear S; intro a w S
  refine wl_nil ?_
  refine xtn ?_
  refine c_ret ?_
  have hlat := S.laterT (M := M) q
  refine end1 S (fun _ => ?_)
  exact ⟨q, rfl, by rw [hq, hr]; rfl, hlat⟩
theorem tjoin_c (x y : LTerm) (M : Nat → Prop) (w0 : World) (hM : ∀ k, M k → k < w0.heap.size) (hx : Stable M w0 (LtF x)) (hy : Stable M w0 (LtF y)) : Ret Tryd.prog 55 [vL x, vL y] w0 (fun _ => False) fun v w' => IsT M w' v (joinT x.t y.t) := by
  refine enter Tryd.func55 rfl rfl (Wd.beginM (M := M) (fs := [LtF x, LtF y]) hM (by simp; exact ⟨hx, hy⟩)) (fun a S => ?_)
  simp only [Tryd.ntmps55, List.length_cons, List.length_nil, Nat.reduceAdd, Nat.reduceSub, List.replicate_succ, List.replicate_zero, List.cons_append, List.nil_append] at S
  refine c_seq ?_
  refine c_region ?_
  refine sa S ?_; clear S; intro b2 a w S
  refine sa S ?_; clear S; intro b3 a w S
  refine sa S ?_; clear S; intro b4 a w S
  refine wl_nil ?_
  refine xtn ?_
  refine c_seq ?_
  refine c_region ?_
  iterate 2 (refine sq S ?_; clear S; intro a S)
  refine sr S (pair_c x y _ w (foots_lt S) (S.t x) (S.t y)) ?_; clear S; rintro _ a w ⟨r, rfl, hr, hrf⟩ S
  replace S := S.add hrf
  refine sr S (hash_c r _ w (foots_lt S) (S.t r)) ?_; clear S; rintro _ a w ⟨q, rfl, hq, hqf⟩ S
  replace S := S.add hqf
  refine sw S ?_; clear S; intro a w S
  refine wl_nil ?_
  refine xtn ?_
  refine c_ret ?_
  have hlat := S.laterT (M := M) q
  refine end1 S (fun _ => ?_)
  exact ⟨q, rfl, by rw [hq, hr]; rfl, hlat⟩
theorem half_c (n : Nat) (hn : n ≤ 1000000) (w0 : World) : Ret Tryd.prog 54 [.int .i64 (n : Nat)] w0 (fun _ => False) fun v _ => v = .int .i64 (halfN n : Nat) := by
  refine enter Tryd.func54 rfl rfl (Wd.start w0) (fun a S => ?_)
  simp only [Tryd.ntmps54, List.length_cons, List.length_nil, Nat.reduceAdd, Nat.reduceSub, List.replicate_succ, List.replicate_zero, List.cons_append, List.nil_append] at S
  refine c_seq ?_
  refine c_region ?_
  refine sq S ?_; clear S; intro a S
  refine wl_nil ?_
  refine xtn ?_
  refine c_seq ?_
  refine c_region ?_
  iterate 3 (refine sq S ?_; clear S; intro a S)
  rw [show ((n : Int)).tdiv 2 = ((n / 2 : Nat) : Int) from by rw [Int.tdiv_eq_ediv_of_nonneg (by omega)]; rfl, w64 _ (by omega) (by omega)] at S
  refine sq S ?_; clear S; intro a S
  rw [w64 _ (by omega) (by omega), show (n : Int) - ((n / 2 : Nat) : Int) = ((halfN n : Nat) : Int) from by unfold halfN; omega] at S
  refine sq S ?_; clear S; intro a S
  refine wl_nil ?_
  refine xtn ?_
  refine c_ret ?_
  refine end1 S (fun _ => rfl)
theorem root_c (N : Nat) : ∀ (l : List LMark) (p : Option Addr) (n c : Nat) (M : Nat → Prop) (w0 : World), l.length < N → l.length = n → n ≤ 100 → n ≤ c → (∀ m ∈ l, 0 ≤ m.ver ∧ m.ver ≤ 65535) → (∀ k, M k → k < w0.heap.size) → Stable M w0 TabF → Stable M w0 (GlF p l) →
    Ret Tryd.prog 34 [.slice p n c] w0 (fun _ => False) fun v w' => IsT M w' v (rootT l) := by
  induction N with
  | zero => intro l _ _ _ _ _ h; exact absurd h (Nat.not_lt_zero _)
  | succ N ih =>
  intro l p n c M w0 hN hn h100 hnc hv hM ht hx
  subst hn
  refine enter Tryd.func34 rfl rfl (Wd.beginM (M := M) (fs := [TabF, GlF p l]) hM (by simp; exact ⟨ht, hx⟩)) (fun a S => ?_)
  simp only [Tryd.ntmps34, List.length_cons, List.length_nil, Nat.reduceAdd, Nat.reduceSub, List.replicate_succ, List.replicate_zero, List.cons_append, List.nil_append] at S
  refine c_seq ?_
  refine c_region ?_
  refine sa S ?_; clear S; intro b2 a w S
  refine wl_nil ?_
  refine xtn ?_
  refine c_seq ?_
  refine c_region ?_
  iterate 3 (refine sq S ?_; clear S; intro a S)
  refine wl_nil ?_
  refine xtn ?_
  refine c_seq ?_
  refine c_region ?_
  refine sq S ?_; clear S; intro a S
  refine wl_nil ?_
  refine xtn ?_
  refine c_block ?_
  refine c_seq ?_
  refine c_region ?_
  iterate 2 (refine sq S ?_; clear S; intro a S)
  refine wl_nil ?_
  refine xtn ?_
  refine c_cond S (fun h5 => ?_) (fun h5 => ?_)
  · refine c_seq ?_
    refine c_region ?_
    refine sc S ?_; clear S; intro a w S
    refine sw S ?_; clear S; intro a w S
    refine wl_nil ?_
    refine xtn ?_
    refine c_ret ?_
    refine xbr ?_
    have h0 : l.length = 0 := by simpa using h5
    refine end1 S (fun _ => ?_)
    refine ⟨textL [], rfl, ?_, fun w' _ => by simp [LtIn, textL, LsIn, LtF]⟩
    rw [rootT, dif_pos h0]; rfl
  · refine c_seq ?_
    refine c_region ?_
    iterate 2 (refine sq S ?_; clear S; intro a S)
    refine wl_nil ?_
    refine xtn ?_
    refine c_cond S (fun h7 => ?_) (fun h7 => ?_)
    · refine c_seq ?_
      have h1 : l.length = 1 := by simp at h7; omega
      have hK : KLt 0 l.length := ⟨by omega⟩
      refine c_region ?_
      iterate 3 (refine sq S ?_; clear S; intro a S)
      refine sr S (tleaf_c (nthG l 0) _ w (hv _ (nthG_mem (by omega))) (foots_lt S) (S.mem.fact TabF)) ?_; clear S; rintro _ a w ⟨r, rfl, hr, hrf⟩ S
      replace S := S.add hrf
      refine sw S ?_; clear S; intro a w S
      refine wl_nil ?_
      refine xtn ?_
      refine c_ret ?_
      refine xbr ?_
      have hlat := S.laterT (M := M) r
      refine end1 S (fun _ => ?_)
      exact ⟨r, rfl, by rw [hr, rootT_one h1], hlat⟩
    · refine c_seq ?_
      refine c_region ?_
      refine sq S ?_; clear S; intro a S
      refine sr S (half_c l.length (by omega) _) ?_; clear S; rintro _ a w rfl S
      refine sq S ?_; clear S; intro a S
      refine wl_nil ?_
      refine xtn ?_
      refine c_seq ?_
      have h2 : 2 ≤ l.length := by have q5 := of_decide_eq_false h5; have q7 := of_decide_eq_false h7; omega
      have hh : halfN l.length < l.length ∧ 0 < halfN l.length := by unfold halfN; omega
      have hlt : (l.take (halfN l.length)).length = halfN l.length := by rw [List.length_take]; omega
      have hld : (l.drop (halfN l.length)).length = l.length - halfN l.length := List.length_drop
      have hL1 : LeC (halfN l.length) c := ⟨by omega⟩
      have hL2 : LeC (halfN l.length) l.length := ⟨by omega⟩
      have hL3 : LeC l.length c := ⟨hnc⟩
      have hg := S.gl p (xs := l)
      replace S := (S.add (Φ := GlF (if c = halfN l.length then p else p.map (·.add (halfN l.length * 2))) (l.drop (halfN l.length))) (hg.imp fun _ h => h.drop _ hnc)).add (Φ := GlF p (l.take (halfN l.length))) (hg.imp fun _ h => h.take _)
      refine c_drawD [(0, true), (1, true), (2, true), (4, true), (5, true), (6, true), (3, false), (7, false), (8, false), (9, false)] [b2] S ?_; clear S; intro w S
      iterate 6 (refine dq S ?_; clear S; intro a S)
      refine dl ?_
      refine sr S (ih (l.take (halfN l.length)) p (halfN l.length) c _ w (by omega) hlt (by omega) (by omega) (fun m hm => hv m (List.take_subset _ _ hm)) (foots_lt S) (S.mem.fact TabF) (S.mem.fact (GlF p (l.take (halfN l.length))))) ?_; clear S; rintro _ a w ⟨r1, rfl, hr1, hrf1⟩ S
      replace S := S.add hrf1
      refine de S ?_
      refine dl ?_
      refine sr S (ih (l.drop (halfN l.length)) (if c = halfN l.length then p else p.map (·.add (halfN l.length * 2))) (l.length - halfN l.length) (c - halfN l.length) _ w (by omega) hld (by omega) (by omega) (fun m hm => hv m (List.drop_subset _ _ hm)) (foots_lt S) (S.mem.fact TabF) (S.mem.fact (GlF (if c = halfN l.length then p else p.map (·.add (halfN l.length * 2))) (l.drop (halfN l.length))))) ?_; clear S; rintro _ a w ⟨r2, rfl, hr2, hrf2⟩ S
      replace S := S.add hrf2
      refine de S ?_
      refine dl ?_
      refine sr S (tjoin_c r1 r2 _ w (foots_lt S) (S.t r1) (S.t r2)) ?_; clear S; rintro _ a w ⟨r, rfl, hr, hrf⟩ S
      replace S := S.add hrf
      refine de S ?_
      refine dl ?_
      refine sw S ?_; clear S; intro a w S
      refine de S ?_
      refine dn ?_
      refine xtn ?_
      refine c_ret ?_
      refine xbr ?_
      have hlat := S.laterT (M := M) r
      refine end1 S (fun _ => ?_)
      exact ⟨r, rfl, by rw [hr, hr1, hr2, ← rootT_two h2], hlat⟩
theorem okV (l : List LMark) (hl : okM l = true) : l.length ≤ 16 ∧ (∀ m ∈ l, 0 ≤ m.ver ∧ m.ver ≤ 65535) ∧ (∀ m ∈ l, m.key ≠ [] ∧ m.key.length ≤ 64) ∧ (l.map LMark.key).Pairwise fun a b => Op.bytesLess a b = true := by
  unfold okM at hl
  rw [Bool.and_eq_true, decide_eq_true_iff] at hl
  obtain ⟨h1, h2⟩ := riseM_all _ _ hl.2
  have hb : ∀ m ∈ l, markB m = true := fun m hm => (h1 m hm).1
  refine ⟨by omega, fun m hm => ?_, fun m hm => ?_, h2⟩
  · have := hb m hm
    simp only [markB, Bool.and_eq_true, decide_eq_true_eq] at this
    exact ⟨this.1.2, this.2⟩
  · have := hb m hm
    simp only [markB, Bool.and_eq_true, decide_eq_true_eq, Bool.not_eq_true', decide_eq_false_iff_not] at this
    exact ⟨this.1.1.1, by omega⟩
def RootR (M : Nat → Prop) (b : Bool) (T : Term) (v : Value) (w : World) : Prop := ∃ (r : LTerm) (e : Int), v = .tuple ⟨[vL r, .int .i64 e]⟩ ∧ Stable M w (LtF r) ∧ (b = true → e = 0 ∧ r.t = T) ∧ (b = false → e = 240 ∧ r.t = zeroT)
theorem troot_c (l : List LMark) (p : Option Addr) (c : Nat) (M : Nat → Prop) (w0 : World) (hc : l.length ≤ c) (hl : l.length ≤ 1000000) (hM : ∀ k, M k → k < w0.heap.size) (ht : Stable M w0 TabF) (hx : Stable M w0 (GlF p l)) :
    Ret Tryd.prog 16 [.slice p l.length c] w0 (fun _ => False) fun v w' => RootR M (okM l) (rootT l) v w' := by
  have hLe : LeC l.length 9223372036854775807 := ⟨by omega⟩
  refine enter Tryd.func16 rfl rfl (Wd.beginM (M := M) (fs := [TabF, GlF p l]) hM (by simp; exact ⟨ht, hx⟩)) (fun a S => ?_)
  simp only [Tryd.ntmps16, List.length_cons, List.length_nil, Nat.reduceAdd, Nat.reduceSub, List.replicate_succ, List.replicate_zero, List.cons_append, List.nil_append] at S
  refine c_seq ?_
  refine c_region ?_
  refine sa S ?_; clear S; intro b2 a w S
  refine sq S ?_; clear S; intro a S
  refine wl_nil ?_
  refine xtn ?_
  iterate 2 (refine c_seq ?_)
  refine c_region ?_
  refine sq S ?_; clear S; intro a S
  refine sc S ?_; clear S; intro a w S
  refine sq S ?_; clear S; intro a S
  refine wl_nil ?_
  refine xtn ?_
  refine c_seq ?_
  refine c_region ?_
  iterate 2 (refine sq S ?_; clear S; intro a S)
  refine wl_nil ?_
  refine xtn ?_
  refine c_cond S (fun h2 => ?_) (fun h2 => ?_)
  · refine c_seq ?_
    refine c_region ?_
    iterate 2 (refine sq S ?_; clear S; intro a S)
    refine sw S ?_; clear S; intro a w S
    refine sq S ?_; clear S; intro a S
    refine wl_nil ?_
    refine xtn ?_
    refine c_ret ?_
    refine xtr ?_
    have hb : okM l = false := by
      cases h : okM l with
      | false => rfl
      | true => simp [tchkF, h] at h2
    have e : tchkF l = 240 := by simp [tchkF, hb]
    refine end2 S (fun _ => ?_)
    exact ⟨zeroL, _, rfl, fun w' _ => by simp [zeroL, LtIn, LsIn, LtF], (fun h => by rw [hb] at h; cases h), fun _ => ⟨e, rfl⟩⟩
  · refine c_skip ?_
    refine xtn ?_
    refine c_seq ?_
    have hb : okM l = true := by
      cases h : okM l with
      | true => rfl
      | false => simp [tchkF, h] at h2
    obtain ⟨v1, v2, v3, v4⟩ := okV l hb
    refine c_region ?_
    refine sq S ?_; clear S; intro a S
    refine sr S (root_c _ l p l.length c _ w (Nat.lt_succ_self _) rfl (by omega) hc v2 (foots_lt S) (S.mem.fact TabF) (S.gl p)) ?_; clear S; rintro _ a w ⟨r, rfl, hr, hrf⟩ S
    replace S := S.add hrf
    refine sw S ?_; clear S; intro a w S
    refine sq S ?_; clear S; intro a S
    refine wl_nil ?_
    refine xtn ?_
    refine c_ret ?_
    have hlat := S.laterT (M := M) r
    refine end2 S (fun _ => ?_)
    exact ⟨r, 0, rfl, hlat, fun _ => ⟨rfl, hr⟩, fun h => by rw [hb] at h; cases h⟩
end Go.Proofs.YtmngicgdgpimlaaDoor
