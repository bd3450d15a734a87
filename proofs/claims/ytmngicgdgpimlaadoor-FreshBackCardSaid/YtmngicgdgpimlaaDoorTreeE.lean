/- Package tree: Proves, Write. -/
import Derived.Test.YtmngicgdgpimlaaDoorTreeD
import Derived.Test.YtmngicgdgpimlaaDoorTermD
namespace Go.Proofs.YtmngicgdgpimlaaDoor
open Go Go.Wk
set_option synthInstance.maxSize 100000
set_option synthInstance.maxHeartbeats 400000
set_option maxRecDepth 100000

theorem good_plain {k u n : Int} {s : List UInt8} {ks : List Term} (h : Good (.mk k u n s ks)) : plainF k u n s ks.length = true := by
  have hw := good_walk.1 h
  rw [walkF] at hw
  cases hp : plainF k u n s ks.length with
  | true => rfl
  | false => simp [hp] at hw
theorem good_two {x : LTerm} (h : Good x.t) (hk : x.kind = 4) : x.kids.length = 2 := by
  rw [x.t_eq] at h
  have hp := good_plain h
  rcases plain_shape hp with q | q | q | q | q | q | q
  all_goals first | (obtain ⟨-, -, -, -, q⟩ := q; simpa using q) | omega
/-- one step up, if the term may be. -/
noncomputable def stepG (x : Option Term) (p : Term) : Option Term := @ite _ (Good p) (Classical.propDecidable _) (stepT x p) none
theorem stepG_bad {x : Option Term} {p : Term} (h : ¬ Good p) : stepG x p = none := by unfold stepG; rw [if_neg h]
theorem stepG_ok {x : Option Term} {p : Term} (h : Good p) : stepG x p = stepT x p := by unfold stepG; rw [if_pos h]
theorem stepT_none {p : Term} : stepT none p = none := rfl
theorem stepG_none {p : Term} : stepG none p = none := by
  by_cases h : Good p
  · rw [stepG_ok h, stepT_none]
  · exact stepG_bad h
theorem foldG_none : ∀ ps : List Term, ps.foldl stepG none = none
  | [] => rfl
  | p :: ps => by rw [List.foldl_cons, stepG_none, foldG_none ps]
theorem stepT_eq {x : Term} {k u n : Int} {s : List UInt8} {a b : Term} (hk : k = 4) (ha : (match a with | .mk k' _ _ _ _ => k') = 1) : stepT (some x) (.mk k u n s [a, b]) = (if (match a with | .mk _ _ _ s' _ => s') = [108] then some (joinT b x) else if (match a with | .mk _ _ _ s' _ => s') = [114] then some (joinT x b) else none) := by
  subst hk
  obtain ⟨k', u', n', s', ks'⟩ := a
  simp only at ha
  subst ha
  rfl
theorem stepT_kind {x : Term} {k u n : Int} {s : List UInt8} {ks : List Term} (hk : k ≠ 4) : stepT (some x) (.mk k u n s ks) = none := by
  unfold stepT
  split
  · rename_i h1 h2; simp at h2; exact absurd h2.1 hk
  · rfl
theorem stepT_kid {x : Term} {k u n : Int} {s : List UInt8} {a b : Term} (ha : (match a with | .mk k' _ _ _ _ => k') ≠ 1) : stepT (some x) (.mk k u n s [a, b]) = none := by
  obtain ⟨k', u', n', s', ks'⟩ := a
  unfold stepT
  split
  · rename_i h1 h2; simp at h2; exact absurd h2.2.2.2.2.1.1 ha
  · rfl
noncomputable def upG (m : LMark) (ps : List Term) : Option Term := ps.foldl stepG (some (leafT m))
theorem t_kind (x : LTerm) : (match x.t with | .mk k' _ _ _ _ => k') = x.kind := by rw [x.t_eq]
theorem t_text (x : LTerm) : (match x.t with | .mk _ _ _ s' _ => s') = x.text := by rw [x.t_eq]
theorem step_l {x : Term} {p : LTerm} (hk : p.kind = 4) (hl : p.kids.length = 2) : stepT (some x) p.t = if (nthL p.kids 0).kind = 1 then (if (nthL p.kids 0).text = [108] then some (joinT (nthL p.kids 1).t x) else if (nthL p.kids 0).text = [114] then some (joinT x (nthL p.kids 1).t) else none) else none := by
  obtain ⟨u, v, huv⟩ : ∃ u v, p.kids = [u, v] := by
    match h : p.kids, hl with
    | [u, v], _ => exact ⟨u, v, rfl⟩
  have e0 : nthL p.kids 0 = u := by rw [huv]; rfl
  have e1 : nthL p.kids 1 = v := by rw [huv]; rfl
  rw [e0, e1, p.t_eq, huv, List.map_cons, List.map_cons, List.map_nil]
  by_cases h : u.kind = 1
  · rw [if_pos h, stepT_eq hk (by rw [t_kind]; exact h), t_text]
  · rw [if_neg h, stepT_kid (by rw [t_kind]; exact h)]
noncomputable def provesB (r : Term) (m : LMark) (ps : List Term) : Bool := markB m && decide (checkF r = 0) && decide ((ps.length : Int) ≤ 8) && @decide (upG m ps = some r) (Classical.propDecidable _)
def rowM (m : LMark) : Term := .pair (textT m.key) (textT (Lib.itoa m.ver))
def writeT (l : List LMark) : Term := listT (l.map rowM)
theorem twrite_c (l : List LMark) (p : Option Addr) (c : Nat) (M : Nat → Prop) (w0 : World) (hl : l.length ≤ 1000000) (hM : ∀ k, M k → k < w0.heap.size) (ht : Stable M w0 TabF) (hx : Stable M w0 (GlF p l)) :
    Ret Tryd.prog 17 [.slice p l.length c] w0 (fun _ => False) fun v w' => RootR M (okM l) (writeT l) v w' := by
  have hLe : LeC l.length 9223372036854775807 := ⟨by omega⟩
  refine enter Tryd.func17 rfl rfl (Wd.beginM (M := M) (fs := [TabF, GlF p l]) hM (by simp; exact ⟨ht, hx⟩)) (fun a S => ?_)
  simp only [Tryd.ntmps17, List.length_cons, List.length_nil, Nat.reduceAdd, Nat.reduceSub, List.replicate_succ, List.replicate_zero, List.cons_append, List.nil_append] at S
  refine c_seq ?_
  refine c_region ?_
  refine sa S ?_; clear S; intro b2 a w S
  refine sq S ?_; clear S; intro a S
  refine wl_nil ?_
  refine xtn ?_
  iterate 2 (refine c_seq ?_)
  refine c_region ?_
  refine sq S ?_; clear S; intro a S
  refine sc S ?_; clear S; intro a w S
  refine sq S ?_; clear S; intro a S
  refine wl_nil ?_
  refine xtn ?_
  refine c_seq ?_
  refine c_region ?_
  iterate 2 (refine sq S ?_; clear S; intro a S)
  refine wl_nil ?_
  refine xtn ?_
  refine c_cond S (fun h2 => ?_) (fun h2 => ?_)
  · refine c_seq ?_
    refine c_region ?_
    iterate 2 (refine sq S ?_; clear S; intro a S)
    refine sw S ?_; clear S; intro a w S
    refine sq S ?_; clear S; intro a S
    refine wl_nil ?_
    refine xtn ?_
    refine c_ret ?_
    refine xtr ?_
    have hb : okM l = false := by
      cases h : okM l with
      | false => rfl
      | true => simp [tchkF, h] at h2
    have e : tchkF l = 240 := by simp [tchkF, hb]
    refine end2 S (fun _ => ?_)
    exact ⟨zeroL, _, rfl, fun w' _ => by simp [zeroL, LtIn, LsIn, LtF], (fun h => by rw [hb] at h; cases h), fun _ => ⟨e, rfl⟩⟩
  · refine c_skip ?_
    refine xtn ?_
    refine c_seq ?_
    have hb : okM l = true := by
      cases h : okM l with
      | true => rfl
      | false => simp [tchkF, h] at h2
    obtain ⟨v1, v2, v3, v4⟩ := okV l hb
    refine c_region ?_
    refine sq S ?_; clear S; intro a S
    refine wl_nil ?_
    refine xtn ?_
    iterate 2 (refine c_seq ?_)
    refine c_region ?_
    iterate 3 (refine sq S ?_; clear S; intro a S)
    refine wl_nil ?_
    refine xtn ?_
    refine c_block ?_
    replace S := S.addNil 28 5
    refine c_fore4 S (fun (k : Nat) (os : List LTerm) (po : Option Addr) (co : Nat) uu => [(5, .slice po os.length co), (1, uu 7), (8, .int .i64 (k : Nat)), (0, uu 17), (0, uu 18), (0, uu 19), (0, uu 20), (0, uu 21), (0, uu 22), (0, uu 23), (0, uu 24), (0, uu 25)]) (fun (k : Nat) (os : List LTerm) (po : Option Addr) (co : Nat) => [Wk.row 28 5 po os.length co (encL os), Wk.box b2 28 zeroL.cells, ext M]) (fun (k : Nat) (os : List LTerm) (po : Option Addr) (co : Nat) => [AllI os, TabF, GlF p l]) (fun (k : Nat) (os : List LTerm) (po : Option Addr) (co : Nat) => k ≤ l.length ∧ os.length = k ∧ os.map LTerm.t = (l.take k).map rowM) (fun (k : Nat) (os : List LTerm) (po : Option Addr) (co : Nat) => l.length - k) (0) ([]) (none) (0) ?_ S.uu ?_ ?_
    · exact ⟨Nat.zero_le _, rfl, rfl⟩
    · exact S.add (Φ := AllI (α := LTerm) []) AllI.nil
    · clear S; rintro k os po co uu a w ⟨hk, hol, hos⟩ S
      refine c_seq ?_
      refine c_region ?_
      refine sq S ?_; clear S; intro a S
      refine wl_nil ?_
      refine xtn ?_
      refine c_seq ?_
      refine c_cond S (fun h6 => ?_) (fun h6 => ?_)
      · refine c_skip ?_
        refine xtn ?_
        refine c_seq ?_
        refine c_block ?_
        refine c_seq ?_
        have hkl : k < l.length := by simp at h6; omega
        have hK : KLt k l.length := ⟨hkl⟩
        refine c_region ?_
        iterate 2 (refine sq S ?_; clear S; intro a S)
        refine sa S ?_; clear S; intro b7 a w S
        refine sw S ?_; clear S; intro a w S
        refine wl_nil ?_
        refine xtn ?_
        refine c_region ?_
        iterate 2 (refine sq S ?_; clear S; intro a S)
        refine sr S (trow_c (nthG l k) _ w (v2 _ (nthG_mem hkl)) (foots_lt S) (S.mem.fact TabF)) ?_; clear S; rintro _ a w ⟨r, rfl, hr, hrf⟩ S
        replace S := S.add hrf
        refine sn S ?_; clear S; intro b23 a w S
        refine sap S (by simp [maxLen]; omega) (by omega) ?_; clear S; rintro p8 c8 a w - S
        rw [show encL os ++ r.cells = encL (os ++ [r]) from by rw [encL_append, encT_cells], show os.length + 1 = (os ++ [r]).length from by simp] at S
        refine sq S ?_; clear S; intro a S
        refine wl_nil ?_
        refine xbn ?_
        refine xtn ?_
        refine c_region ?_
        iterate 2 (refine sq S ?_; clear S; intro a S)
        refine wl_nil ?_
        refine xtn ?_
        have h1 := S.wd.facts (AllI os) (by simp)
        have h2 := S.t r
        replace S := S.add (AllI.snoc h1 h2)
        rw [w64 ((k : Int) + 1) (by omega) (by omega)] at S
        exact ⟨k + 1, os ++ [r], p8, c8, S.uu, ⟨hkl, by simp [hol], by rw [List.map_append, hos, nthG_take hkl, List.map_append]; simp [hr, rowM]⟩, S.sub _ _, by omega⟩
      · refine c_exit ?_
        iterate 2 (refine xte ?_)
        refine xbe ?_
        refine xtn ?_
        refine c_seq ?_
        rw [List.take_of_length_le (by simp at h6; omega)] at hos
        have hall := S.wd.facts (AllI os) (by simp)
        replace S := S.rowToGl (e := 28) (sz := 5) (n := os.length) (c := co) po os hall
        refine c_region ?_
        refine sq S ?_; clear S; intro a S
        refine sr S (list_c os po co _ w (by omega) (foots_lt S) ((S.gl po (xs := os)).imp fun _ h => gl_ls h)) ?_; clear S; rintro _ a w ⟨r, rfl, hr, hrf⟩ S
        replace S := S.add hrf
        refine sw S ?_; clear S; intro a w S
        refine sq S ?_; clear S; intro a S
        refine wl_nil ?_
        refine xtn ?_
        refine c_ret ?_
        have hlat := S.laterT (M := M) r
        refine end2 S (fun _ => ?_)
        exact ⟨r, 0, rfl, hlat, fun _ => ⟨rfl, by rw [hr, hos]; rfl⟩, fun h => by rw [hb] at h; cases h⟩
end Go.Proofs.YtmngicgdgpimlaaDoor
