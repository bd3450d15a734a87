/- Package term: Unlist of whatever term. -/
import Derived.Test.YtmngicgdgpimlaaDoorTermG
import Derived.Test.YtmngicgdgpimlaaDoorTermD
import Derived.Test.YtmngicgdgpimlaaDoorPlainName
import Derived.Test.YtmngicgdgpimlaaDoorW6
namespace Go.Proofs.YtmngicgdgpimlaaDoor
open Go Go.Wk
set_option synthInstance.maxSize 100000
set_option synthInstance.maxHeartbeats 400000
set_option maxRecDepth 100000

theorem goodP {k u n : Int} {s : List UInt8} {ks : List Term} (h : Good (.mk k u n s ks)) : plainF k u n s ks.length = true := by
  have hw := good_walk.1 h
  rw [walkF] at hw
  cases hp : plainF k u n s ks.length with
  | true => rfl
  | false => simp [hp] at hw
theorem good_pr {x : LTerm} (h : Good x.t) (hk : x.kind = 4) : x.kids.length = 2 ∧ x.t = .pair (nthL x.kids 0).t (nthL x.kids 1).t := by
  have h' := h
  rw [x.t_eq] at h
  have hp := plain_shape (goodP h)
  have hl : x.kids.length = 2 := by
    rcases hp with q | q | q | q | q | q | q
    all_goals first | (obtain ⟨-, -, -, -, q⟩ := q; simpa using q) | omega
  refine ⟨hl, ?_⟩
  obtain ⟨u, v, huv⟩ : ∃ u v, x.kids = [u, v] := by
    match h : x.kids, hl with
    | [u, v], _ => exact ⟨u, v, rfl⟩
  have hz : x.user = 0 ∧ x.num = 0 ∧ x.text = [] := by
    rcases hp with q | q | q | q | q | q | q
    all_goals first | exact ⟨q.2.1, q.2.2.1, q.2.2.2.1⟩ | omega
  have e0 : nthL x.kids 0 = u := by rw [huv]; rfl
  have e1 : nthL x.kids 1 = v := by rw [huv]; rfl
  rw [e0, e1, x.t_eq, hk, hz.1, hz.2.1, hz.2.2, huv]; rfl
theorem listT_kind {x : LTerm} (hk : x.kind ≠ 4) (l : List Term) : x.t = listT l ↔ l = [] ∧ x.t = textT [] := by
  constructor
  · intro h
    cases l with
    | nil => exact ⟨rfl, h⟩
    | cons a l => rw [x.t_eq] at h; simp only [listT, Term.pair, Term.mk.injEq] at h; exact absurd h.1 hk
  · rintro ⟨rfl, h⟩; exact h
theorem unlist2_c (t : LTerm) (M : Nat → Prop) (w0 : World) (hM : ∀ k, M k → k < w0.heap.size) (hf : Stable M w0 (LtF t)) :
    Ret Tryd.prog 41 [vL t] w0 (fun _ => False) fun v w' => ∃ (p : Option Addr) (c : Nat) (os : List LTerm) (b : Bool), v = .tuple ⟨[.slice p os.length c, .bool b]⟩ ∧ Stable M w' (LsF p 0 os) ∧ os.length ≤ 1200 ∧ (b = true → Good t.t ∧ t.t = listT (os.map LTerm.t)) ∧ (b = false → os = [] ∧ ∀ l, t.t = listT l → ¬ Good t.t) := by
  refine enter Tryd.func41 rfl rfl (Wd.beginM (M := M) (fs := [LtF t]) hM (by simpa using hf)) (fun a S => ?_)
  simp only [Tryd.ntmps41, List.length_cons, List.length_nil, Nat.reduceAdd, Nat.reduceSub, List.replicate_succ, List.replicate_zero, List.cons_append, List.nil_append] at S
  refine c_seq ?_
  refine c_region ?_
  refine sa S ?_; clear S; intro b1 a w S
  iterate 2 (refine sq S ?_; clear S; intro a S)
  refine wl_nil ?_
  refine xtn ?_
  iterate 2 (refine c_seq ?_)
  refine c_region ?_
  refine sq S ?_; clear S; intro a S
  refine sc S ?_; clear S; intro a w S
  refine sq S ?_; clear S; intro a S
  refine wl_nil ?_
  refine xtn ?_
  refine c_cond S (fun h1 => ?_) (fun h1 => ?_)
  · refine c_seq ?_
    refine c_region ?_
    iterate 2 (refine sq S ?_; clear S; intro a S)
    refine wl_nil ?_
    refine xtn ?_
    refine c_ret ?_
    refine xtr ?_
    have hb : ¬ Good t.t := fun h => by have : sizeF t.t = 0 := by simpa using h1
                                        exact h this
    refine end2 S (fun _ => ?_)
    exact ⟨none, 0, [], false, rfl, fun w' _ => by simp [LsF, LsIn], by simp, nofun, fun _ => ⟨rfl, fun _ _ => hb⟩⟩
  · refine c_skip ?_
    refine xtn ?_
    refine c_seq ?_
    refine c_region ?_
    refine sq S ?_; clear S; intro a S
    refine wl_nil ?_
    refine xtn ?_
    refine c_seq ?_
    refine c_block ?_
    have hg : Good t.t := by have : ¬ sizeF t.t = 0 := by simpa using h1
                             exact this
    replace S := (S.addNil 28 5)
    refine c_fore4 S (fun (x : LTerm) (os : List LTerm) (p' : Option Addr) (c' : Nat) uu => [(4, .slice p' os.length c'), (3, uu 8), (0, uu 9), (0, uu 10), (0, uu 11), (0, uu 12), (0, uu 13), (0, uu 14), (0, uu 15), (0, uu 16), (0, uu 17), (0, uu 18), (0, uu 19), (0, uu 20), (0, uu 21)]) (fun (x : LTerm) (os : List LTerm) (p' : Option Addr) (c' : Nat) => [Wk.row 28 5 p' os.length c' (encL os), Wk.box b1 28 x.cells, ext M]) (fun (x : LTerm) (os : List LTerm) (p' : Option Addr) (c' : Nat) => [AllI os, LtF x]) (fun (x : LTerm) (os : List LTerm) (p' : Option Addr) (c' : Nat) => Good x.t ∧ os.length + cnt x.t ≤ 1200 ∧ ∀ l, t.t = listT l ↔ ∃ l', l = os.map LTerm.t ++ l' ∧ x.t = listT l') (fun (x : LTerm) (os : List LTerm) (p' : Option Addr) (c' : Nat) => cnt x.t) (t) ([]) (none) (0) ?_ S.uu ?_ ?_
    · exact ⟨hg, by simpa using good_le hg, fun l => ⟨fun h => ⟨l, rfl, h⟩, fun ⟨l', h1, h2⟩ => by rw [h1]; exact h2⟩⟩
    · exact S.add (Φ := AllI (α := LTerm) []) AllI.nil
    · clear S; rintro x os p' c' uu a w ⟨hgx, hsz, hrel⟩ S
      iterate 2 (refine c_seq ?_)
      refine c_region ?_
      iterate 3 (refine sq S ?_; clear S; intro a S)
      refine wl_nil ?_
      refine xtn ?_
      refine c_cond S (fun h4 => ?_) (fun h4 => ?_)
      · refine c_skip ?_
        refine xtn ?_
        refine c_block ?_
        refine c_seq ?_
        have hkind : x.kind = 4 := by simpa using h4
        obtain ⟨hl2, hpr⟩ := good_pr hgx hkind
        have hK0 : KLt 0 x.kids.length := ⟨by omega⟩
        have hK1 : KLt 1 x.kids.length := ⟨by omega⟩
        have hc : cnt x.t = 1 + (cnt (nthL x.kids 0).t + cnt (nthL x.kids 1).t) := by rw [hpr]; simp [Term.pair, cnt, cntL]
        have hcp := cnt_pos (nthL x.kids 0).t
        refine c_region ?_
        iterate 5 (refine sq S ?_; clear S; intro a S)
        refine sn S ?_; clear S; intro b16 a w S
        refine sap S (by simp [maxLen]; omega) (by omega) ?_; clear S; rintro p5 c5 a w - S
        rw [show encL os ++ (nthL x.kids 0).cells = encL (os ++ [nthL x.kids 0]) from by rw [encL_append, encT_cells], show os.length + 1 = (os ++ [nthL x.kids 0]).length from by simp] at S
        refine sq S ?_; clear S; intro a S
        refine wl_nil ?_
        refine xtn ?_
        refine c_region ?_
        iterate 4 (refine sq S ?_; clear S; intro a S)
        refine sw S ?_; clear S; intro a w S
        refine wl_nil ?_
        refine xbn ?_
        refine xtn ?_
        have h1 := S.wd.facts (AllI os) (by simp)
        have h2 := S.t (nthL x.kids 0)
        have h3 := S.t (nthL x.kids 1)
        replace S := (S.add (Φ := LtF (nthL x.kids 1)) h3).add (AllI.snoc h1 h2)
        have hg1 : Good (nthL x.kids 1).t := by rw [hpr] at hgx; exact good_kid hgx (by simp)
        refine ⟨nthL x.kids 1, os ++ [nthL x.kids 0], p5, c5, S.uu, ⟨hg1, by simp only [List.length_append, List.length_singleton]; omega, fun l => ?_⟩, S.sub _ _, by omega⟩
        rw [hrel l]
        constructor
        · rintro ⟨l', e1, e2⟩
          rw [hpr] at e2
          cases l' with
          | nil => simp [listT, Term.pair, textT] at e2
          | cons a l' =>
            simp only [listT, Term.pair, Term.mk.injEq, List.cons.injEq, and_true, true_and] at e2
            exact ⟨l', by rw [e1, List.map_append, List.append_assoc, ← e2.1]; rfl, e2.2⟩
        · rintro ⟨l', e1, e2⟩
          exact ⟨(nthL x.kids 0).t :: l', by rw [e1, List.map_append, List.append_assoc]; rfl, by rw [hpr, e2]; rfl⟩
      · refine c_exit ?_
        iterate 2 (refine xte ?_)
        refine xbe ?_
        refine xtn ?_
        iterate 2 (refine c_seq ?_)
        have hkind : x.kind ≠ 4 := by simpa using h4
        refine c_drawD [(0, true), (1, false), (2, false), (3, true)] [] S ?_; clear S; intro w S
        refine dq S ?_; clear S; intro a S
        refine dl ?_
        refine sc S ?_; clear S; intro a w S
        refine de S ?_
        refine dl ?_
        refine sc S ?_; clear S; intro a w S
        refine de S ?_
        refine dq S ?_; clear S; intro a S
        refine dn ?_
        refine xtn ?_
        refine c_cond S (fun h7 => ?_) (fun h7 => ?_)
        · refine c_seq ?_
          refine c_region ?_
          iterate 2 (refine sq S ?_; clear S; intro a S)
          refine wl_nil ?_
          refine xtn ?_
          refine c_ret ?_
          refine xtr ?_
          have hne : x.t ≠ textT [] := fun e => by
            have : sameF x.t (textL []).t = true := (sameF_iff _ _).2 (by rw [e]; rfl)
            simp [this] at h7
          refine end2 S (fun _ => ?_)
          refine ⟨none, 0, [], false, rfl, fun w' _ => by simp [LsF, LsIn], by simp, nofun, fun _ => ⟨rfl, fun l h => ?_⟩⟩
          obtain ⟨l', -, e⟩ := (hrel l).1 h
          exact absurd ((listT_kind hkind l').1 e).2 hne
        · refine c_skip ?_
          refine xtn ?_
          refine c_seq ?_
          refine c_region ?_
          iterate 3 (refine sq S ?_; clear S; intro a S)
          refine wl_nil ?_
          refine xtn ?_
          refine c_ret ?_
          have hxe : x.t = textT [] := by
            have : sameF x.t (textL []).t = true := by simpa using h7
            exact (sameF_iff _ _).1 this
          have hrow := S.row p' os.length
          have hnew := S.rowNew p' os.length
          have hall := S.laterFact (Φ := AllI os) (by simp)
          refine end2 S (fun _ => ?_)
          refine ⟨p', c', os, true, rfl, ?_, by omega, fun _ => ⟨hg, (hrel _).2 ⟨[], by simp, by rw [hxe]; rfl⟩⟩, nofun⟩
          exact (gl_own hrow hall (fun ad h hm => (hnew ad h).elim (fun h => h.elim) (fun h2 => by have := hM _ hm; omega))).imp fun _ h => gl_ls h
end Go.Proofs.YtmngicgdgpimlaaDoor
