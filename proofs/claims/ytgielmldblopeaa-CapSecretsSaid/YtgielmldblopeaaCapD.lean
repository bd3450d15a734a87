/- Package cap: what a term is as a box; Unlist. -/
import Derived.Test.YtgielmldblopeaaCapC
import Derived.Test.YtgielmldblopeaaTermD
namespace Go.Proofs.Ytgielmldblopeaa
open Go Go.Wk
set_option synthInstance.maxSize 100000
set_option synthInstance.maxHeartbeats 400000
set_option maxRecDepth 100000

theorem pair_shape {x : LTerm} {a b : Term} (h : x.t = .pair a b) : x.kind = 4 ∧ x.kids.length = 2 ∧ (nthL x.kids 0).t = a ∧ (nthL x.kids 1).t = b := by
  rw [x.t_eq] at h
  simp only [Term.pair, Term.mk.injEq] at h
  obtain ⟨h1, -, -, -, h5⟩ := h
  have hl : x.kids.length = 2 := by have := congrArg List.length h5; simpa using this
  obtain ⟨u, v, huv⟩ : ∃ u v, x.kids = [u, v] := by
    match h : x.kids, hl with
    | [u, v], _ => exact ⟨u, v, rfl⟩
  rw [huv] at h5
  simp only [List.map_cons, List.map_nil, List.cons.injEq, and_true] at h5
  refine ⟨h1, hl, ?_, ?_⟩
  · rw [huv]; exact h5.1
  · rw [huv]; exact h5.2
theorem text_shape {x : LTerm} {s : List UInt8} (h : x.t = textT s) : x.kind = 1 ∧ x.text = s := by
  rw [x.t_eq] at h
  simp only [textT, Term.mk.injEq] at h
  exact ⟨h.1, h.2.2.2.1⟩
/-- a list, taken apart. -/
theorem unlist_c (t : LTerm) (ts : List Term) (ht : t.t = listT ts) (hg : Good t.t) (hl : ts.length ≤ 1000) (M : Nat → Prop) (w0 : World) (hM : ∀ k, M k → k < w0.heap.size) (hf : Stable M w0 (LtF t)) :
    Ret Try.prog 106 [vL t] w0 (fun _ => False) fun v w' => ∃ (p : Option Addr) (c : Nat) (os : List LTerm), v = .tuple ⟨[.slice p os.length c, .bool true]⟩ ∧ os.map LTerm.t = ts ∧ Stable M w' (LsF p 0 os) := by
  refine enter Try.func106 rfl rfl (Wd.beginM (M := M) (fs := [LtF t]) hM (by simpa using hf)) (fun a S => ?_)
  simp only [Try.ntmps106, List.length_cons, List.length_nil, Nat.reduceAdd, Nat.reduceSub, List.replicate_succ, List.replicate_zero, List.cons_append, List.nil_append] at S
  refine c_seq ?_
  refine c_region ?_
  refine sa S ?_; clear S; intro b1 a w S
  iterate 2 (refine sq S ?_; clear S; intro a S)
  refine wl_nil ?_
  refine xtn ?_
  iterate 2 (refine c_seq ?_)
  refine c_region ?_
  refine sq S ?_; clear S; intro a S
  refine sc S ?_; clear S; intro a w S
  refine sq S ?_; clear S; intro a S
  rw [show decide (sizeF t.t = 0) = false from decide_eq_false hg] at S
  refine wl_nil ?_
  refine xtn ?_
  refine c_condF S ?_
  refine c_skip ?_
  refine xtn ?_
  refine c_seq ?_
  refine c_region ?_
  refine sq S ?_; clear S; intro a S
  refine wl_nil ?_
  refine xtn ?_
  refine c_seq ?_
  refine c_block ?_
  replace S := (S.addNil 35 5)
  refine c_fore5 S (fun (k : Nat) (x : LTerm) (os : List LTerm) (p' : Option Addr) (c' : Nat) uu => [(4, .slice p' k c'), (3, uu 8), (0, uu 9), (0, uu 10), (0, uu 11), (0, uu 12), (0, uu 13), (0, uu 14), (0, uu 15), (0, uu 16), (0, uu 17), (0, uu 18), (0, uu 19), (0, uu 20), (0, uu 21)]) (fun (k : Nat) (x : LTerm) (os : List LTerm) (p' : Option Addr) (c' : Nat) => [Wk.row 35 5 p' k c' (encL os), Wk.box b1 35 x.cells, ext M]) (fun (k : Nat) (x : LTerm) (os : List LTerm) (p' : Option Addr) (c' : Nat) => [AllI os, LtF x]) (fun (k : Nat) (x : LTerm) (os : List LTerm) (p' : Option Addr) (c' : Nat) => k ≤ ts.length ∧ x.t = listT (ts.drop k) ∧ os.map LTerm.t = ts.take k ∧ os.length = k) (fun (k : Nat) (x : LTerm) (os : List LTerm) (p' : Option Addr) (c' : Nat) => ts.length - k) (0) (t) ([]) (none) (0) ?_ S.uu ?_ ?_
  · exact ⟨Nat.zero_le _, ht, rfl, rfl⟩
  · exact S.add (Φ := AllI (α := LTerm) []) AllI.nil
  · clear S; rintro k x os p' c' uu a w ⟨hk, hx, hos, hol⟩ S
    iterate 2 (refine c_seq ?_)
    refine c_region ?_
    iterate 3 (refine sq S ?_; clear S; intro a S)
    refine wl_nil ?_
    refine xtn ?_
    refine c_cond S (fun h4 => ?_) (fun h4 => ?_)
    · refine c_skip ?_
      refine xtn ?_
      refine c_block ?_
      refine c_seq ?_
      have hkind : x.kind = 4 := by simpa using h4
      have hkl : k < ts.length := by
        rcases Nat.lt_or_ge k ts.length with h | h
        · exact h
        · rw [List.drop_of_length_le h, listT] at hx; have := (text_shape hx).1; omega
      rw [List.drop_eq_getElem_cons hkl, listT] at hx
      obtain ⟨-, hx2, hx0, hx1⟩ := pair_shape hx
      have hK0 : KLt 0 x.kids.length := ⟨by omega⟩
      have hK1 : KLt 1 x.kids.length := ⟨by omega⟩
      refine c_region ?_
      iterate 5 (refine sq S ?_; clear S; intro a S)
      refine sn S ?_; clear S; intro b16 a w S
      refine sap S (by simp [maxLen]; omega) (by omega) ?_; clear S; rintro p5 c5 a w - S
      rw [show encL os ++ (nthL x.kids 0).cells = encL (os ++ [nthL x.kids 0]) from by rw [encL_append, encT_cells]] at S
      refine sq S ?_; clear S; intro a S
      refine wl_nil ?_
      refine xtn ?_
      refine c_region ?_
      iterate 4 (refine sq S ?_; clear S; intro a S)
      refine sw S ?_; clear S; intro a w S
      refine wl_nil ?_
      refine xbn ?_
      refine xtn ?_
      have h1 := S.wd.facts (AllI os) (by simp)
      have h2 := S.t (nthL x.kids 0)
      have h3 := S.t (nthL x.kids 1)
      replace S := (S.add (Φ := LtF (nthL x.kids 1)) h3).add (AllI.snoc h1 h2)
      exact ⟨k + 1, nthL x.kids 1, os ++ [nthL x.kids 0], p5, c5, S.uu, ⟨hkl, hx1, by rw [List.map_append, hos, List.take_succ_eq_append_getElem hkl]; simp [hx0], by simp [hol]⟩, S.sub _ _, by omega⟩
    · refine c_exit ?_
      iterate 2 (refine xte ?_)
      refine xbe ?_
      refine xtn ?_
      iterate 2 (refine c_seq ?_)
      have hkind : x.kind ≠ 4 := by simpa using h4
      have hke : k = ts.length := by
        rcases Nat.lt_or_ge k ts.length with h | h
        · rw [List.drop_eq_getElem_cons h, listT] at hx; exact absurd (pair_shape hx).1 hkind
        · omega
      subst hke
      rw [List.drop_length, listT] at hx
      rw [List.take_length] at hos
      refine c_drawD [(0, true), (1, false), (2, false), (3, true)] [] S ?_; clear S; intro w S
      refine dq S ?_; clear S; intro a S
      refine dl ?_
      refine sc S ?_; clear S; intro a w S
      refine de S ?_
      refine dl ?_
      refine sc S ?_; clear S; intro a w S
      refine de S ?_
      refine dq S ?_; clear S; intro a S
      refine dn ?_
      refine xtn ?_
      refine c_cond S (fun h7 => ?_) (fun h7 => ?_)
      · refine c_seq ?_
        refine c_region ?_
        iterate 2 (refine sq S ?_; clear S; intro a S)
        refine wl_nil ?_
        refine xtn ?_
        refine c_ret ?_
        refine xtr ?_
        exfalso
        have : sameF x.t (textL []).t = true := (sameF_iff _ _).2 (by rw [hx]; rfl)
        simp [this] at h7
      · refine c_skip ?_
        refine xtn ?_
        refine c_seq ?_
        refine c_region ?_
        iterate 3 (refine sq S ?_; clear S; intro a S)
        refine wl_nil ?_
        refine xtn ?_
        refine c_ret ?_
        have hrow := S.row p' ts.length
        have hnew := S.rowNew p' ts.length
        have hall := S.laterFact (Φ := AllI os) (by simp)
        refine end2 S (fun _ => ?_)
        refine ⟨p', c', os, by rw [hol], hos, ?_⟩
        exact (gl_own hrow hall (fun ad h hm => (hnew ad h).elim (fun h => h.elim) (fun h2 => by have := hM _ hm; omega))).imp fun _ h => gl_ls h
end Go.Proofs.Ytgielmldblopeaa
