/- Package tree: Proof. -/
import Derived.Test.YtgielmldblopeaaDoorTreeC
namespace Go.Proofs.YtgielmldblopeaaDoor
open Go Go.Wk
set_option synthInstance.maxSize 100000
set_option synthInstance.maxHeartbeats 400000
set_option maxRecDepth 100000

theorem pathT_one {l : List LMark} {i : Nat} (h : l.length ≤ 1) : pathT l i = [] := by rw [pathT, dif_pos h]
theorem pathT_r {l : List LMark} {i : Nat} (h : 2 ≤ l.length) (hi : i < halfN l.length) : pathT l i = .pair (textT [114]) (rootT (l.drop (halfN l.length))) :: pathT (l.take (halfN l.length)) i := by
  conv => lhs; rw [pathT]
  rw [dif_neg (by omega), if_pos hi]
theorem pathT_l {l : List LMark} {i : Nat} (h : 2 ≤ l.length) (hi : ¬ i < halfN l.length) : pathT l i = .pair (textT [108]) (rootT (l.take (halfN l.length))) :: pathT (l.drop (halfN l.length)) (i - halfN l.length) := by
  conv => lhs; rw [pathT]
  rw [dif_neg (by omega), if_neg hi]
def ProofR (M : Nat → Prop) (l : List LMark) (key : List UInt8) (v : Value) (w : World) : Prop := ∃ (p : Option Addr) (c : Nat) (os : List LTerm) (e : Int), v = .tuple ⟨[.slice p os.length c, .int .i64 e]⟩ ∧ Stable M w (LsF p 0 os) ∧
  (okM l = false → e = 240 ∧ os = []) ∧ (okM l = true → key ∉ l.map LMark.key → e = 4 ∧ os = []) ∧ (okM l = true → key ∈ l.map LMark.key → e = 0 ∧ ∃ i, i < l.length ∧ (nthG l i).key = key ∧ os.map LTerm.t = (pathT l i).reverse)
theorem tproof_c (l : List LMark) (p : Option Addr) (c : Nat) (key : List UInt8) (M : Nat → Prop) (w0 : World) (hc : l.length ≤ c) (hl : l.length ≤ 1000000) (hM : ∀ k, M k → k < w0.heap.size) (ht : Stable M w0 TabF) (hx : Stable M w0 (GlF p l)) :
    Ret Tryd.prog 32 [.slice p l.length c, str key] w0 (fun _ => False) fun v w' => ProofR M l key v w' := by
  have hLe : LeC l.length 9223372036854775807 := ⟨by omega⟩
  refine enter Tryd.func32 rfl rfl (Wd.beginM (M := M) (fs := [TabF, GlF p l]) hM (by simp; exact ⟨ht, hx⟩)) (fun a S => ?_)
  simp only [Tryd.ntmps32, List.length_cons, List.length_nil, Nat.reduceAdd, Nat.reduceSub, List.replicate_succ, List.replicate_zero, List.cons_append, List.nil_append] at S
  refine c_seq ?_
  refine c_region ?_
  iterate 2 (refine sq S ?_; clear S; intro a S)
  refine wl_nil ?_
  refine xtn ?_
  iterate 2 (refine c_seq ?_)
  refine c_region ?_
  refine sq S ?_; clear S; intro a S
  refine sc S ?_; clear S; intro a w S
  refine sq S ?_; clear S; intro a S
  refine wl_nil ?_
  refine xtn ?_
  refine c_seq ?_
  refine c_region ?_
  iterate 2 (refine sq S ?_; clear S; intro a S)
  refine wl_nil ?_
  refine xtn ?_
  refine c_cond S (fun h2 => ?_) (fun h2 => ?_)
  · refine c_seq ?_
    refine c_region ?_
    iterate 3 (refine sq S ?_; clear S; intro a S)
    refine wl_nil ?_
    refine xtn ?_
    refine c_ret ?_
    refine xtr ?_
    have hb : okM l = false := by
      cases h : okM l with
      | false => rfl
      | true => simp [tchkF, h] at h2
    have e : tchkF l = 240 := by simp [tchkF, hb]
    refine end2 S (fun _ => ?_)
    refine ⟨none, 0, [], _, rfl, fun w' _ => by simp [LsF, LsIn], fun _ => ⟨e, rfl⟩, fun h => ?_, fun h => ?_⟩
    · rw [hb] at h; cases h
    · rw [hb] at h; cases h
  · refine c_skip ?_
    refine xtn ?_
    refine c_seq ?_
    have hb : okM l = true := by
      cases h : okM l with
      | true => rfl
      | false => simp [tchkF, h] at h2
    obtain ⟨v1, v2, v3, v4⟩ := okV l hb
    refine c_region ?_
    iterate 2 (refine sq S ?_; clear S; intro a S)
    refine sr S (tfind_c l p c key _ (by omega) (S.gl0 p) v4) ?_; clear S; rintro _ a w ⟨i0, rfl, hi0⟩ S
    iterate 5 (refine sq S ?_; clear S; intro a S)
    refine wl_nil ?_
    refine xtn ?_
    iterate 2 (refine c_seq ?_)
    refine c_region ?_
    iterate 2 (refine sq S ?_; clear S; intro a S)
    refine wl_nil ?_
    refine xtn ?_
    refine c_cond S (fun h5 => ?_) (fun h5 => ?_)
    · refine c_seq ?_
      refine c_region ?_
      iterate 2 (refine sq S ?_; clear S; intro a S)
      refine wl_nil ?_
      refine xtn ?_
      refine c_ret ?_
      refine xtr ?_
      have hno : key ∉ l.map LMark.key := by simpa using h5
      refine end2 S (fun _ => ?_)
      refine ⟨none, 0, [], 4, rfl, fun w' _ => by simp [LsF, LsIn], fun h => ?_, fun _ _ => ⟨rfl, rfl⟩, fun _ h => absurd h hno⟩
      rw [hb] at h; cases h
    · refine c_skip ?_
      refine xtn ?_
      refine c_seq ?_
      refine c_region ?_
      refine sq S ?_; clear S; intro a S
      refine wl_nil ?_
      refine xtn ?_
      refine c_seq ?_
      refine c_block ?_
      have hin : key ∈ l.map LMark.key := by simpa using h5
      obtain ⟨hil, hik⟩ := hi0 hin
      replace S := S.addNil 24 5
      refine c_fore5 S (fun (sl : Sl LMark) (i : Nat) (os : List LTerm) (po : Option Addr) (co : Nat) uu => [(0, .slice sl.p sl.xs.length sl.cap), (6, .int .i64 (i : Nat)), (1, .slice po os.length co), (0, uu 10), (13, uu 24), (0, uu 25), (0, uu 26), (0, uu 27), (0, uu 28), (0, uu 29), (0, uu 30), (0, uu 31), (0, uu 32), (0, uu 33), (0, uu 34), (0, uu 35), (0, uu 36), (0, uu 37), (0, uu 38), (0, uu 39), (0, uu 40), (0, uu 41), (0, uu 42), (0, uu 43), (0, uu 44), (0, uu 45), (0, uu 46), (0, uu 47), (0, uu 48), (0, uu 49), (0, uu 50), (0, uu 51), (0, uu 52), (0, uu 53), (0, uu 54), (0, uu 55), (0, uu 56), (0, uu 57), (0, uu 58), (0, uu 59)]) (fun (sl : Sl LMark) (i : Nat) (os : List LTerm) (po : Option Addr) (co : Nat) => [Wk.row 24 5 po os.length co (encL os), ext M]) (fun (sl : Sl LMark) (i : Nat) (os : List LTerm) (po : Option Addr) (co : Nat) => [AllI os, TabF, GlF sl.p sl.xs]) (fun (sl : Sl LMark) (i : Nat) (os : List LTerm) (po : Option Addr) (co : Nat) => i < sl.xs.length ∧ sl.xs.length ≤ sl.cap ∧ sl.xs.length ≤ 16 ∧ (∀ m ∈ sl.xs, 0 ≤ m.ver ∧ m.ver ≤ 65535) ∧ os.map LTerm.t ++ pathT sl.xs i = pathT l i0 ∧ os.length + sl.xs.length ≤ 16) (fun (sl : Sl LMark) (i : Nat) (os : List LTerm) (po : Option Addr) (co : Nat) => sl.xs.length) (⟨p, c, l⟩) (i0) ([]) (none) (0) ?_ S.uu ?_ ?_
      · exact ⟨hil, hc, v1, v2, rfl, by simpa using v1⟩
      · exact S.add (Φ := AllI (α := LTerm) []) AllI.nil
      · clear S; rintro sl i os po co uu a w ⟨hi, hsc, hs16, hsv, hpath, hos⟩ S
        iterate 2 (refine c_seq ?_)
        refine c_region ?_
        iterate 3 (refine sq S ?_; clear S; intro a S)
        refine wl_nil ?_
        refine xtn ?_
        refine c_cond S (fun h8 => ?_) (fun h8 => ?_)
        · refine c_skip ?_
          refine xtn ?_
          refine c_block ?_
          refine c_seq ?_
          have h2s : 2 ≤ sl.xs.length := by simp at h8; omega
          have hA : halfN sl.xs.length < sl.xs.length ∧ 0 < halfN sl.xs.length := by unfold halfN; omega
          have hlt : (sl.xs.take (halfN sl.xs.length)).length = halfN sl.xs.length := by rw [List.length_take]; omega
          have hld : (sl.xs.drop (halfN sl.xs.length)).length = sl.xs.length - halfN sl.xs.length := List.length_drop
          have hL1 : LeC (halfN sl.xs.length) sl.cap := ⟨by omega⟩
          have hL2 : LeC (halfN sl.xs.length) sl.xs.length := ⟨by omega⟩
          have hL3 : LeC sl.xs.length sl.cap := ⟨hsc⟩
          refine c_region ?_
          iterate 2 (refine sq S ?_; clear S; intro a S)
          refine sr S (half_c sl.xs.length (by omega) _) ?_; clear S; rintro _ a w rfl S
          refine sq S ?_; clear S; intro a S
          refine wl_nil ?_
          refine xtn ?_
          refine c_seq ?_
          refine c_region ?_
          iterate 3 (refine sq S ?_; clear S; intro a S)
          refine wl_nil ?_
          refine xtn ?_
          refine c_cond S (fun h10 => ?_) (fun h10 => ?_)
          · refine c_seq ?_
            have hih : i < halfN sl.xs.length := by simp at h10; omega
            have hpr := pathT_r h2s hih
            have hg := S.gl sl.p (xs := sl.xs)
            replace S := (S.add (Φ := GlF (if sl.cap = halfN sl.xs.length then sl.p else sl.p.map (·.add (halfN sl.xs.length * 2))) (sl.xs.drop (halfN sl.xs.length))) (hg.imp fun _ h => h.drop _ hsc)).add (Φ := GlF sl.p (sl.xs.take (halfN sl.xs.length))) (hg.imp fun _ h => h.take _)
            replace S := S.add (Φ := LtF (textL [114])) (fun _ _ => by simp [LtIn, textL, LsIn, LtF])
            refine c_drawE [(0, true), (2, true), (3, true), (4, true), (1, false), (5, false), (6, false), (7, false), (8, false), (9, true)] [ext M] S ?_; clear S; intro w S
            iterate 4 (refine dq S ?_; clear S; intro a S)
            refine dl ?_
            refine sc S ?_; clear S; intro a w S
            refine de S ?_
            refine dl ?_
            refine sr S (root_c _ (sl.xs.drop (halfN sl.xs.length)) (if sl.cap = halfN sl.xs.length then sl.p else sl.p.map (·.add (halfN sl.xs.length * 2))) (sl.xs.length - halfN sl.xs.length) (sl.cap - halfN sl.xs.length) _ w (Nat.lt_succ_self _) hld (by omega) (by omega) (fun m hm => hsv m (List.drop_subset _ _ hm)) (foots_lt S) (S.mem.fact TabF) (S.mem.fact (GlF (if sl.cap = halfN sl.xs.length then sl.p else sl.p.map (·.add (halfN sl.xs.length * 2))) (sl.xs.drop (halfN sl.xs.length))))) ?_; clear S; rintro _ a w ⟨r1, rfl, hr1, hrf1⟩ S
            replace S := S.add hrf1
            refine de S ?_
            refine dl ?_
            refine sr S (pair_c (textL [114]) r1 _ w (foots_lt S) (S.t _) (S.t r1)) ?_; clear S; rintro _ a w ⟨r, rfl, hr, hrf⟩ S
            replace S := S.add hrf
            refine de S ?_
            refine dl ?_
            refine sn S ?_; clear S; intro b40 a w S
            refine de S ?_
            refine dl ?_
            refine sap S (by simp [maxLen]; omega) (by omega) ?_; clear S; rintro p11 c11 a w - S
            rw [show encL os ++ r.cells = encL (os ++ [r]) from by rw [encL_append, encT_cells], show os.length + 1 = (os ++ [r]).length from by simp] at S
            refine de S ?_
            refine dq S ?_; clear S; intro a S
            refine dn ?_
            refine xtn ?_
            refine c_region ?_
            iterate 4 (refine sq S ?_; clear S; intro a S)
            refine wl_nil ?_
            refine xbn ?_
            refine xtn ?_
            have h1 := S.wd.facts (AllI os) (by simp)
            have h2 := S.t r
            replace S := S.add (AllI.snoc h1 h2)
            obtain ⟨s2, hs2⟩ : ∃ s2 : Sl LMark, s2 = ⟨sl.p, sl.cap, sl.xs.take (halfN sl.xs.length)⟩ := ⟨_, rfl⟩
            have e1 : s2.p = sl.p := by rw [hs2]
            have e2 : s2.cap = sl.cap := by rw [hs2]
            have e3 : s2.xs = sl.xs.take (halfN sl.xs.length) := by rw [hs2]
            have e4 : s2.xs.length = halfN sl.xs.length := by rw [e3, hlt]
            replace S := S.add (Φ := GlF s2.p s2.xs) (by rw [e1, e3]; exact S.mem.fact (GlF sl.p (sl.xs.take (halfN sl.xs.length))))
            rw [show Value.slice sl.p (halfN sl.xs.length) sl.cap = .slice s2.p s2.xs.length s2.cap from by rw [e1, e2, e4]] at S
            replace S := S.sub [Wk.row 24 5 p11 (os ++ [r]).length c11 (encL (os ++ [r])), ext M] [GlF s2.p s2.xs, AllI (os ++ [r]), TabF]
            replace S := S.add (S.wd.facts TabF (by simp))
            replace S := S.add (S.wd.facts (AllI (os ++ [r])) (by simp))
            refine ⟨s2, i, os ++ [r], p11, c11, S.uu, ⟨by omega, by omega, by omega, fun m hm => hsv m (List.take_subset _ _ (by rw [← e3]; exact hm)), ?_, by simp only [List.length_append, List.length_singleton]; omega⟩, S.sub _ _, by omega⟩
            rw [e3]
            rw [← hpath, hpr, List.map_append, List.append_assoc]
            simp only [List.map_cons, List.map_nil, List.cons_append, List.nil_append, hr, hr1]
            rfl
          · refine c_seq ?_
            have hih : ¬ i < halfN sl.xs.length := by simp at h10; omega
            have hpl := pathT_l h2s hih
            have hg := S.gl sl.p (xs := sl.xs)
            replace S := (S.add (Φ := GlF (if sl.cap = halfN sl.xs.length then sl.p else sl.p.map (·.add (halfN sl.xs.length * 2))) (sl.xs.drop (halfN sl.xs.length))) (hg.imp fun _ h => h.drop _ hsc)).add (Φ := GlF sl.p (sl.xs.take (halfN sl.xs.length))) (hg.imp fun _ h => h.take _)
            replace S := S.add (Φ := LtF (textL [108])) (fun _ _ => by simp [LtIn, textL, LsIn, LtF])
            refine c_drawE [(0, true), (2, true), (3, true), (4, true), (1, false), (5, false), (6, false), (7, false), (8, false), (9, true)] [ext M] S ?_; clear S; intro w S
            iterate 4 (refine dq S ?_; clear S; intro a S)
            refine dl ?_
            refine sc S ?_; clear S; intro a w S
            refine de S ?_
            refine dl ?_
            refine sr S (root_c _ (sl.xs.take (halfN sl.xs.length)) sl.p (halfN sl.xs.length) sl.cap _ w (Nat.lt_succ_self _) hlt (by omega) (by omega) (fun m hm => hsv m (List.take_subset _ _ hm)) (foots_lt S) (S.mem.fact TabF) (S.mem.fact (GlF sl.p (sl.xs.take (halfN sl.xs.length))))) ?_; clear S; rintro _ a w ⟨r1, rfl, hr1, hrf1⟩ S
            replace S := S.add hrf1
            refine de S ?_
            refine dl ?_
            refine sr S (pair_c (textL [108]) r1 _ w (foots_lt S) (S.t _) (S.t r1)) ?_; clear S; rintro _ a w ⟨r, rfl, hr, hrf⟩ S
            replace S := S.add hrf
            refine de S ?_
            refine dl ?_
            refine sn S ?_; clear S; intro b52 a w S
            refine de S ?_
            refine dl ?_
            refine sap S (by simp [maxLen]; omega) (by omega) ?_; clear S; rintro p11 c11 a w - S
            rw [show encL os ++ r.cells = encL (os ++ [r]) from by rw [encL_append, encT_cells], show os.length + 1 = (os ++ [r]).length from by simp] at S
            refine de S ?_
            refine dq S ?_; clear S; intro a S
            refine dn ?_
            refine xtn ?_
            refine c_region ?_
            iterate 6 (refine sq S ?_; clear S; intro a S)
            rw [w64 _ (by omega) (by omega), show (i : Int) - ((halfN sl.xs.length : Nat) : Int) = ((i - halfN sl.xs.length : Nat) : Int) from by omega] at S
            iterate 2 (refine sq S ?_; clear S; intro a S)
            refine wl_nil ?_
            refine xbn ?_
            refine xtn ?_
            have h1 := S.wd.facts (AllI os) (by simp)
            have h2 := S.t r
            replace S := S.add (AllI.snoc h1 h2)
            obtain ⟨s2, hs2⟩ : ∃ s2 : Sl LMark, s2 = ⟨if sl.cap = halfN sl.xs.length then sl.p else sl.p.map (·.add (halfN sl.xs.length * 2)), sl.cap - halfN sl.xs.length, sl.xs.drop (halfN sl.xs.length)⟩ := ⟨_, rfl⟩
            have e1 : s2.p = if sl.cap = halfN sl.xs.length then sl.p else sl.p.map (·.add (halfN sl.xs.length * 2)) := by rw [hs2]
            have e2 : s2.cap = sl.cap - halfN sl.xs.length := by rw [hs2]
            have e3 : s2.xs = sl.xs.drop (halfN sl.xs.length) := by rw [hs2]
            have e4 : s2.xs.length = sl.xs.length - halfN sl.xs.length := by rw [e3, hld]
            replace S := S.add (Φ := GlF s2.p s2.xs) (by rw [e1, e3]; exact S.mem.fact (GlF (if sl.cap = halfN sl.xs.length then sl.p else sl.p.map (·.add (halfN sl.xs.length * 2))) (sl.xs.drop (halfN sl.xs.length))))
            rw [show Value.slice (if sl.cap = halfN sl.xs.length then sl.p else sl.p.map (·.add (halfN sl.xs.length * 2))) (sl.xs.length - halfN sl.xs.length) (sl.cap - halfN sl.xs.length) = .slice s2.p s2.xs.length s2.cap from by rw [e1, e2, e4]] at S
            replace S := S.sub [Wk.row 24 5 p11 (os ++ [r]).length c11 (encL (os ++ [r])), ext M] [GlF s2.p s2.xs, AllI (os ++ [r]), TabF]
            replace S := S.add (S.wd.facts TabF (by simp))
            replace S := S.add (S.wd.facts (AllI (os ++ [r])) (by simp))
            refine ⟨s2, i - halfN sl.xs.length, os ++ [r], p11, c11, S.uu, ⟨by omega, by omega, by omega, fun m hm => hsv m (List.drop_subset _ _ (by rw [← e3]; exact hm)), ?_, by simp only [List.length_append, List.length_singleton]; omega⟩, S.sub _ _, by omega⟩
            rw [e3]
            rw [← hpath, hpl, List.map_append, List.append_assoc]
            simp only [List.map_cons, List.map_nil, List.cons_append, List.nil_append, hr, hr1]
            rfl
        · refine c_exit ?_
          iterate 2 (refine xte ?_)
          refine xbe ?_
          refine xtn ?_
          refine c_seq ?_
          refine c_region ?_
          refine sq S ?_; clear S; intro a S
          refine sit (Wk.row 24 5 po os.length co (encL os)) S (reverse_c os po os.length co w rfl (by omega) (S.row po _)) rfl ?_; clear S; rintro _ a w ⟨rfl, hown⟩ hS
          have S := hS (Wk.row 24 5 po os.length co (encL os.reverse)) hown (fun k hk => .inl hk)
          clear hS
          refine wl_nil ?_
          refine xtn ?_
          refine c_seq ?_
          refine c_region ?_
          iterate 3 (refine sq S ?_; clear S; intro a S)
          refine wl_nil ?_
          refine xtn ?_
          refine c_ret ?_
          have hrow := S.row po os.length
          have hnew := S.rowNew po os.length
          have hall := S.laterFact (Φ := AllI os) (by simp)
          have hall2 : Stable M w (AllI os.reverse) := hall.imp fun _ h x hx => h x (List.mem_reverse.1 hx)
          have hdone : sl.xs.length ≤ 1 := by simp at h8; omega
          rw [pathT_one hdone, List.append_nil] at hpath
          refine end2 S (fun _ => ?_)
          refine ⟨po, co, os.reverse, 0, by rw [List.length_reverse], ?_, fun h => ?_, fun _ h => absurd hin h, fun _ _ => ⟨rfl, i0, hil, hik, by rw [List.map_reverse, hpath]⟩⟩
          · exact (gl_own hrow hall2 (fun ad h hm => (hnew ad h).elim (fun h => h.elim) (fun h2 => by have := hM _ hm; omega))).imp fun _ h => gl_ls h
          · rw [hb] at h; cases h
end Go.Proofs.YtgielmldblopeaaDoor
