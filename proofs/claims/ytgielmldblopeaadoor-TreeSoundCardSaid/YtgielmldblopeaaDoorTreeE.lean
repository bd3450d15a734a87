/- Package tree: Proves, Write. -/
import Derived.Test.YtgielmldblopeaaDoorTreeD
import Derived.Test.YtgielmldblopeaaDoorTermD
namespace Go.Proofs.YtgielmldblopeaaDoor
open Go Go.Wk
set_option synthInstance.maxSize 100000
set_option synthInstance.maxHeartbeats 400000
set_option maxRecDepth 100000

theorem good_plain {k u n : Int} {s : List UInt8} {ks : List Term} (h : Good (.mk k u n s ks)) : plainF k u n s ks.length = true := by
  have hw := good_walk.1 h
  rw [walkF] at hw
  cases hp : plainF k u n s ks.length with
  | true => rfl
  | false => simp [hp] at hw
theorem good_two {x : LTerm} (h : Good x.t) (hk : x.kind = 4) : x.kids.length = 2 := by
  rw [x.t_eq] at h
  have hp := good_plain h
  rcases plain_shape hp with q | q | q | q | q | q | q
  all_goals first | (obtain ⟨-, -, -, -, q⟩ := q; simpa using q) | omega
/-- one step up, if the term may be. -/
noncomputable def stepG (x : Option Term) (p : Term) : Option Term := @ite _ (Good p) (Classical.propDecidable _) (stepT x p) none
theorem stepG_bad {x : Option Term} {p : Term} (h : ¬ Good p) : stepG x p = none := by unfold stepG; rw [if_neg h]
theorem stepG_ok {x : Option Term} {p : Term} (h : Good p) : stepG x p = stepT x p := by unfold stepG; rw [if_pos h]
theorem stepT_none {p : Term} : stepT none p = none := rfl
theorem stepG_none {p : Term} : stepG none p = none := by
  by_cases h : Good p
  · rw [stepG_ok h, stepT_none]
  · exact stepG_bad h
theorem foldG_none : ∀ ps : List Term, ps.foldl stepG none = none
  | [] => rfl
  | p :: ps => by rw [List.foldl_cons, stepG_none, foldG_none ps]
theorem stepT_eq {x : Term} {k u n : Int} {s : List UInt8} {a b : Term} (hk : k = 4) (ha : (match a with | .mk k' _ _ _ _ => k') = 1) : stepT (some x) (.mk k u n s [a, b]) = (if (match a with | .mk _ _ _ s' _ => s') = [108] then some (joinT b x) else if (match a with | .mk _ _ _ s' _ => s') = [114] then some (joinT x b) else none) := by
  subst hk
  obtain ⟨k', u', n', s', ks'⟩ := a
  simp only at ha
  subst ha
  rfl
theorem stepT_kind {x : Term} {k u n : Int} {s : List UInt8} {ks : List Term} (hk : k ≠ 4) : stepT (some x) (.mk k u n s ks) = none := by
  unfold stepT
  split
  · rename_i h1 h2; simp at h2; exact absurd h2.1 hk
  · rfl
theorem stepT_kid {x : Term} {k u n : Int} {s : List UInt8} {a b : Term} (ha : (match a with | .mk k' _ _ _ _ => k') ≠ 1) : stepT (some x) (.mk k u n s [a, b]) = none := by
  obtain ⟨k', u', n', s', ks'⟩ := a
  unfold stepT
  split
  · rename_i h1 h2; simp at h2; exact absurd h2.2.2.2.2.1.1 ha
  · rfl
noncomputable def upG (m : LMark) (ps : List Term) : Option Term := ps.foldl stepG (some (leafT m))
theorem t_kind (x : LTerm) : (match x.t with | .mk k' _ _ _ _ => k') = x.kind := by rw [x.t_eq]
theorem t_text (x : LTerm) : (match x.t with | .mk _ _ _ s' _ => s') = x.text := by rw [x.t_eq]
theorem step_l {x : Term} {p : LTerm} (hk : p.kind = 4) (hl : p.kids.length = 2) : stepT (some x) p.t = if (nthL p.kids 0).kind = 1 then (if (nthL p.kids 0).text = [108] then some (joinT (nthL p.kids 1).t x) else if (nthL p.kids 0).text = [114] then some (joinT x (nthL p.kids 1).t) else none) else none := by
  obtain ⟨u, v, huv⟩ : ∃ u v, p.kids = [u, v] := by
    match h : p.kids, hl with
    | [u, v], _ => exact ⟨u, v, rfl⟩
  have e0 : nthL p.kids 0 = u := by rw [huv]; rfl
  have e1 : nthL p.kids 1 = v := by rw [huv]; rfl
  rw [e0, e1, p.t_eq, huv, List.map_cons, List.map_cons, List.map_nil]
  by_cases h : u.kind = 1
  · rw [if_pos h, stepT_eq hk (by rw [t_kind]; exact h), t_text]
  · rw [if_neg h, stepT_kid (by rw [t_kind]; exact h)]
noncomputable def provesB (r : Term) (m : LMark) (ps : List Term) : Bool := markB m && decide (checkF r = 0) && decide ((ps.length : Int) ≤ 8) && @decide (upG m ps = some r) (Classical.propDecidable _)
theorem proves_c (r : LTerm) (m : LMark) (ps : List LTerm) (p : Option Addr) (c : Nat) (w0 : World) (hl : ps.length ≤ 1000000) (hr : Stable (fun _ => False) w0 (LtF r)) (hps : Stable (fun _ => False) w0 (LsF p 0 ps)) (ht : Stable (fun _ => False) w0 TabF) :
    Ret Tryd.prog 39 [vL r, vMark m, .slice p ps.length c] w0 (fun _ => False) fun v _ => v = .bool (provesB r.t m (ps.map LTerm.t)) := by
  refine enter Tryd.func39 rfl rfl (Wd.begin (fs := [TabF, LtF r, LsF p 0 ps]) (by simp; exact ⟨ht, hr, hps⟩)) (fun a S => ?_)
  simp only [Tryd.ntmps39, List.length_cons, List.length_nil, Nat.reduceAdd, Nat.reduceSub, List.replicate_succ, List.replicate_zero, List.cons_append, List.nil_append] at S
  refine c_seq ?_
  refine c_region ?_
  refine sa S ?_; clear S; intro b3 a w S
  refine sa S ?_; clear S; intro b4 a w S
  refine sq S ?_; clear S; intro a S
  refine wl_nil ?_
  refine xtn ?_
  iterate 2 (refine c_seq ?_)
  refine c_region ?_
  refine sq S ?_; clear S; intro a S
  refine sc S ?_; clear S; intro a w S
  iterate 2 (refine sq S ?_; clear S; intro a S)
  refine gQ S ?_; clear S; intro a S
  refine gC S ?_; clear S; intro a w S
  refine gQ S ?_; clear S; intro a S
  iterate 2 (refine sq S ?_; clear S; intro a S)
  iterate 3 (refine gQ S ?_; clear S; intro a S)
  refine sq S ?_; clear S; intro a S
  refine wl_nil ?_
  refine xtn ?_
  refine c_cond S (fun h1 => ?_) (fun h1 => ?_)
  · refine c_seq ?_
    refine c_region ?_
    refine sq S ?_; clear S; intro a S
    refine wl_nil ?_
    refine xtn ?_
    refine c_ret ?_
    refine xtr ?_
    have h1' : ¬ (markB m = true ∧ checkF r.t = 0 ∧ (ps.length : Int) ≤ 8) := by
      rintro ⟨a1, a2, a3⟩
      rw [a1, a2] at h1
      simp at h1
      omega
    refine end1 S (fun _ => ?_)
    have : provesB r.t m (ps.map LTerm.t) = false := by
      unfold provesB
      rw [Bool.and_eq_false_iff]
      left
      cases hm : markB m <;> simp [hm] at h1' ⊢
      exact h1'
    rw [this]
  · refine c_skip ?_
    refine xtn ?_
    refine c_seq ?_
    have h1' : markB m = true ∧ checkF r.t = 0 ∧ (ps.length : Int) ≤ 8 := by
      refine ⟨?_, ?_, ?_⟩
      · cases hm : markB m with
        | true => rfl
        | false => rw [hm] at h1; simp at h1
      · simp only [Bool.or_eq_false_iff] at h1
        simpa using h1.1.2
      · simp only [Bool.or_eq_false_iff] at h1
        have := h1.2
        simp at this; omega
    obtain ⟨hm1, hr0, hp8⟩ := h1'
    have hmv : 0 ≤ m.ver ∧ m.ver ≤ 65535 := by
      simp only [markB, Bool.and_eq_true, decide_eq_true_eq] at hm1
      exact ⟨hm1.1.2, hm1.2⟩
    have hval : provesB r.t m (ps.map LTerm.t) = @decide (upG m (ps.map LTerm.t) = some r.t) (Classical.propDecidable _) := by
      unfold provesB
      rw [hm1, hr0]
      have : decide (((ps.map LTerm.t).length : Int) ≤ 8) = true := by rw [List.length_map]; exact decide_eq_true hp8
      rw [this]; simp
    refine c_region ?_
    refine sq S ?_; clear S; intro a S
    refine sr S (tleaf_c m _ w hmv (foots_lt S) (S.mem.fact TabF)) ?_; clear S; rintro _ a w ⟨x0, rfl, hx0, hxf⟩ S
    replace S := S.add hxf
    refine sa S ?_; clear S; intro b7 a w S
    refine sw S ?_; clear S; intro a w S
    refine wl_nil ?_
    refine xtn ?_
    iterate 2 (refine c_seq ?_)
    refine c_region ?_
    iterate 3 (refine sq S ?_; clear S; intro a S)
    refine wl_nil ?_
    refine xtn ?_
    refine c_block ?_
    replace S := S.boxToF b3
    replace S := S.boxToF b4
    refine c_fore2 S (fun (k : Nat) (x : LTerm) uu => [(6, uu 6), (2, uu 9), (17, .int .i64 (k : Nat)), (0, uu 28), (0, uu 29), (0, uu 30), (0, uu 31), (0, uu 32), (0, uu 33), (0, uu 34), (0, uu 35), (0, uu 36), (0, uu 37), (0, uu 38), (0, uu 39), (0, uu 40), (0, uu 41), (0, uu 42), (0, uu 43), (0, uu 44), (0, uu 45), (0, uu 46), (0, uu 47), (0, uu 48), (0, uu 49), (0, uu 50), (0, uu 51), (0, uu 52), (0, uu 53), (0, uu 54), (0, uu 55), (0, uu 56), (0, uu 57), (0, uu 58), (0, uu 59), (0, uu 60), (0, uu 61), (0, uu 62), (0, uu 63), (0, uu 64), (0, uu 65), (0, uu 66), (0, uu 67), (0, uu 68)]) (fun (k : Nat) (x : LTerm) => [Wk.box b7 24 x.cells]) (fun (k : Nat) (x : LTerm) => [LtF x, BoxF b3 24 r.cells, LtF r, LsF p 0 ps]) (fun (k : Nat) (x : LTerm) => k ≤ ps.length ∧ ((ps.map LTerm.t).drop k).foldl stepG (some x.t) = upG m (ps.map LTerm.t)) (fun (k : Nat) (x : LTerm) => ps.length - k) (0) (x0) ?_ S.uu ?_ ?_
    · exact ⟨Nat.zero_le _, by rw [hx0]; rfl⟩
    · have h9 := S.t x0
      exact (S.add h9).sub _ _
    · clear S; rintro k x uu a w ⟨hk, hrel⟩ S
      refine c_seq ?_
      refine c_region ?_
      refine sq S ?_; clear S; intro a S
      refine wl_nil ?_
      refine xtn ?_
      refine c_seq ?_
      refine c_cond S (fun h5 => ?_) (fun h5 => ?_)
      · refine c_skip ?_
        refine xtn ?_
        refine c_seq ?_
        refine c_block ?_
        refine c_seq ?_
        have hkl : k < ps.length := by simp at h5; omega
        have hK : KLt k ps.length := ⟨hkl⟩
        have hdr : (ps.map LTerm.t).drop k = (nthL ps k).t :: (ps.map LTerm.t).drop (k + 1) := by
          rw [List.drop_eq_getElem_cons (by simpa using hkl)]
          congr 1
          simp [nthL, hkl]
        rw [hdr, List.foldl_cons] at hrel
        have hfalse : stepG (some x.t) (nthL ps k).t = none → provesB r.t m (ps.map LTerm.t) = false := fun h => by
          rw [h, foldG_none] at hrel
          rw [hval, ← hrel]; simp
        refine c_region ?_
        iterate 2 (refine sq S ?_; clear S; intro a S)
        refine sa S ?_; clear S; intro b9 a w S
        refine sw S ?_; clear S; intro a w S
        refine wl_nil ?_
        refine xtn ?_
        iterate 2 (refine c_seq ?_)
        refine c_region ?_
        refine sq S ?_; clear S; intro a S
        refine sc S ?_; clear S; intro a w S
        iterate 2 (refine sq S ?_; clear S; intro a S)
        refine gS S (fun hg1 S => ?_) (fun hg1 S => ?_)
        · refine gF' S ?_; clear S; intro a S
          iterate 2 (refine gF' S ?_; clear S; intro a S)
          iterate 2 (refine sq S ?_; clear S; intro a S)
          iterate 6 (refine gF' S ?_; clear S; intro a S)
          refine sq S ?_; clear S; intro a S
          refine wl_nil ?_
          refine xtn ?_
          refine c_condT S ?_
          refine c_seq ?_
          refine c_region ?_
          refine sq S ?_; clear S; intro a S
          refine wl_nil ?_
          refine xtn ?_
          refine c_ret ?_
          refine xtr ?_
          refine xbr ?_
          iterate 2 (refine xtr ?_)
          refine xbr ?_
          refine xtr ?_
          have hb : ¬ Good (nthL ps k).t := fun h => by rw [good_check.2 h] at hg1; simp at hg1
          refine end1 S (fun _ => ?_)
          rw [hfalse (stepG_bad hb)]
        · refine gT' S ?_
          refine sq S ?_; clear S; intro a S
          refine gT' S ?_
          refine sq S ?_; clear S; intro a S
          refine gT' S ?_
          iterate 3 (refine sq S ?_; clear S; intro a S)
          refine gS S (fun hg2 S => ?_) (fun hg2 S => ?_)
          · refine gF' S ?_; clear S; intro a S
            iterate 5 (refine gF' S ?_; clear S; intro a S)
            refine sq S ?_; clear S; intro a S
            refine wl_nil ?_
            refine xtn ?_
            refine c_condT S ?_
            refine c_seq ?_
            refine c_region ?_
            refine sq S ?_; clear S; intro a S
            refine wl_nil ?_
            refine xtn ?_
            refine c_ret ?_
            refine xtr ?_
            refine xbr ?_
            iterate 2 (refine xtr ?_)
            refine xbr ?_
            refine xtr ?_
            have hk4 : (nthL ps k).kind ≠ 4 := by simpa using hg2
            have hG : Good (nthL ps k).t := good_check.1 (by simpa using hg1)
            refine end1 S (fun _ => ?_)
            rw [hfalse (by rw [stepG_ok hG, (nthL ps k).t_eq]; exact stepT_kind hk4)]
          · refine gT' S ?_
            have hG : Good (nthL ps k).t := good_check.1 (by simpa using hg1)
            have hk4 : (nthL ps k).kind = 4 := by simpa using hg2
            have hl2 := good_two hG hk4
            have hK0 : KLt 0 (nthL ps k).kids.length := ⟨by omega⟩
            have hK1 : KLt 1 (nthL ps k).kids.length := ⟨by omega⟩
            rw [stepG_ok hG, step_l hk4 hl2] at hrel hfalse
            refine sq S ?_; clear S; intro a S
            refine gT' S ?_
            refine sq S ?_; clear S; intro a S
            refine gT' S ?_
            refine sq S ?_; clear S; intro a S
            refine gT' S ?_
            refine sq S ?_; clear S; intro a S
            refine gT' S ?_
            refine sq S ?_; clear S; intro a S
            refine gT' S ?_
            iterate 2 (refine sq S ?_; clear S; intro a S)
            refine wl_nil ?_
            refine xtn ?_
            refine c_cond S (fun h7 => ?_) (fun h7 => ?_)
            · refine c_seq ?_
              refine c_region ?_
              refine sq S ?_; clear S; intro a S
              refine wl_nil ?_
              refine xtn ?_
              refine c_ret ?_
              refine xtr ?_
              refine xbr ?_
              iterate 2 (refine xtr ?_)
              refine xbr ?_
              refine xtr ?_
              have hk1 : (nthL (nthL ps k).kids 0).kind ≠ 1 := by simpa using h7
              refine end1 S (fun _ => ?_)
              rw [hfalse (by rw [if_neg hk1])]
            · refine c_skip ?_
              refine xtn ?_
              refine c_seq ?_
              have hk1 : (nthL (nthL ps k).kids 0).kind = 1 := by simpa using h7
              rw [if_pos hk1] at hrel hfalse
              refine c_region ?_
              iterate 5 (refine sq S ?_; clear S; intro a S)
              refine wl_nil ?_
              refine xtn ?_
              refine c_block ?_
              refine c_seq ?_
              refine c_region ?_
              iterate 2 (refine sq S ?_; clear S; intro a S)
              refine wl_nil ?_
              refine xtn ?_
              refine c_cond S (fun h11 => ?_) (fun h11 => ?_)
              · refine c_drwe1 (.q 0 (.q 1 (.q 2 (.q 3 (.l 4 (.l 5 (.l 6 (.e)))))))) S (fun (y : LTerm) uu => [(54, uu 54), (0, uu 55), (0, uu 56), (0, uu 57), (0, uu 58), (0, uu 59)]) [Wk.box b9 24 (nthL ps k).cells] (fun (y : LTerm) => [Wk.box b7 24 y.cells]) (fun (y : LTerm) => [LtF y, BoxF b3 24 r.cells, LtF r, LsF p 0 ps]) (fun (y : LTerm) => y.t = joinT (nthL (nthL ps k).kids 1).t x.t) ?_ ?_
                · intro w S
                  iterate 4 (refine tq S ?_; clear S; intro a S)
                  refine tl ?_
                  refine sq S ?_; clear S; intro a S
                  refine te S ?_
                  refine tl ?_
                  refine sr S (tjoin_c (nthL (nthL ps k).kids 1) x _ w (foots_lt S) (S.t _) (S.t x)) ?_; clear S; rintro _ a w ⟨y, rfl, hy, hyf⟩ S
                  replace S := S.add hyf
                  refine te S ?_
                  refine tl ?_
                  refine sw S ?_; clear S; intro a w S
                  refine te S ?_
                  refine tn ?_
                  exact ⟨y, S.uu, hy, S.sub _ _⟩
                clear S; rintro y uu a w hy S
                iterate 2 (refine xbn ?_)
                refine xtn ?_
                refine c_region ?_
                iterate 2 (refine sq S ?_; clear S; intro a S)
                refine wl_nil ?_
                refine xtn ?_
                have ht : (nthL (nthL ps k).kids 0).text = [108] := by simpa using h11
                rw [if_pos ht, ← hy] at hrel
                rw [w64 ((k : Int) + 1) (by omega) (by omega)] at S
                exact ⟨k + 1, y, S.uu, ⟨hkl, hrel⟩, S.sub _ _, by omega⟩
              · refine c_seq ?_
                refine c_region ?_
                iterate 2 (refine sq S ?_; clear S; intro a S)
                refine wl_nil ?_
                refine xtn ?_
                refine c_cond S (fun h13 => ?_) (fun h13 => ?_)
                · refine c_drwe1 (.q 1 (.q 2 (.q 3 (.q 4 (.l 0 (.l 5 (.l 6 (.e)))))))) S (fun (y : LTerm) uu => [(62, uu 62), (0, uu 63), (0, uu 64), (0, uu 65), (0, uu 66), (0, uu 67)]) [Wk.box b9 24 (nthL ps k).cells] (fun (y : LTerm) => [Wk.box b7 24 y.cells]) (fun (y : LTerm) => [LtF y, BoxF b3 24 r.cells, LtF r, LsF p 0 ps]) (fun (y : LTerm) => y.t = joinT x.t (nthL (nthL ps k).kids 1).t) ?_ ?_
                  · intro w S
                    iterate 4 (refine tq S ?_; clear S; intro a S)
                    refine tl ?_
                    refine sq S ?_; clear S; intro a S
                    refine te S ?_
                    refine tl ?_
                    refine sr S (tjoin_c x (nthL (nthL ps k).kids 1) _ w (foots_lt S) (S.t x) (S.t _)) ?_; clear S; rintro _ a w ⟨y, rfl, hy, hyf⟩ S
                    replace S := S.add hyf
                    refine te S ?_
                    refine tl ?_
                    refine sw S ?_; clear S; intro a w S
                    refine te S ?_
                    refine tn ?_
                    exact ⟨y, S.uu, hy, S.sub _ _⟩
                  clear S; rintro y uu a w hy S
                  iterate 2 (refine xbn ?_)
                  refine xtn ?_
                  refine c_region ?_
                  iterate 2 (refine sq S ?_; clear S; intro a S)
                  refine wl_nil ?_
                  refine xtn ?_
                  have ht : ¬ (nthL (nthL ps k).kids 0).text = [108] := by simpa using h11
                  have ht2 : (nthL (nthL ps k).kids 0).text = [114] := by simpa using h13
                  rw [if_neg ht, if_pos ht2, ← hy] at hrel
                  rw [w64 ((k : Int) + 1) (by omega) (by omega)] at S
                  exact ⟨k + 1, y, S.uu, ⟨hkl, hrel⟩, S.sub _ _, by omega⟩
                · refine c_seq ?_
                  refine c_region ?_
                  refine sq S ?_; clear S; intro a S
                  refine wl_nil ?_
                  refine xtn ?_
                  refine c_ret ?_
                  iterate 2 (refine xbr ?_)
                  iterate 2 (refine xtr ?_)
                  refine xbr ?_
                  refine xtr ?_
                  have ht : ¬ (nthL (nthL ps k).kids 0).text = [108] := by simpa using h11
                  have ht2 : ¬ (nthL (nthL ps k).kids 0).text = [114] := by simpa using h13
                  refine end1 S (fun _ => ?_)
                  rw [hfalse (by rw [if_neg ht, if_neg ht2])]
      · refine c_exit ?_
        iterate 2 (refine xte ?_)
        refine xbe ?_
        refine xtn ?_
        refine c_seq ?_
        refine c_region ?_
        iterate 2 (refine sq S ?_; clear S; intro a S)
        refine sc S ?_; clear S; intro a w S
        refine sq S ?_; clear S; intro a S
        refine wl_nil ?_
        refine xtn ?_
        refine c_ret ?_
        rw [List.drop_of_length_le (by simp at h5 ⊢; omega)] at hrel
        have hrel' : some x.t = upG m (ps.map LTerm.t) := hrel
        have key : sameF x.t r.t = @decide (some x.t = some r.t) (Classical.propDecidable _) := by
          cases h : sameF x.t r.t with
          | true => exact (@decide_eq_true _ (Classical.propDecidable _) (by rw [(sameF_iff _ _).1 h])).symm
          | false => exact (@decide_eq_false _ (Classical.propDecidable _) (fun e => by rw [(sameF_iff _ _).2 (Option.some.inj e)] at h; cases h)).symm
        refine end1 S (fun _ => ?_)
        rw [hval, ← hrel', key]
def rowM (m : LMark) : Term := .pair (textT m.key) (textT (Lib.itoa m.ver))
def writeT (l : List LMark) : Term := listT (l.map rowM)
theorem twrite_c (l : List LMark) (p : Option Addr) (c : Nat) (M : Nat → Prop) (w0 : World) (hl : l.length ≤ 1000000) (hM : ∀ k, M k → k < w0.heap.size) (ht : Stable M w0 TabF) (hx : Stable M w0 (GlF p l)) :
    Ret Tryd.prog 44 [.slice p l.length c] w0 (fun _ => False) fun v w' => RootR M (okM l) (writeT l) v w' := by
  have hLe : LeC l.length 9223372036854775807 := ⟨by omega⟩
  refine enter Tryd.func44 rfl rfl (Wd.beginM (M := M) (fs := [TabF, GlF p l]) hM (by simp; exact ⟨ht, hx⟩)) (fun a S => ?_)
  simp only [Tryd.ntmps44, List.length_cons, List.length_nil, Nat.reduceAdd, Nat.reduceSub, List.replicate_succ, List.replicate_zero, List.cons_append, List.nil_append] at S
  refine c_seq ?_
  refine c_region ?_
  refine sa S ?_; clear S; intro b2 a w S
  refine sq S ?_; clear S; intro a S
  refine wl_nil ?_
  refine xtn ?_
  iterate 2 (refine c_seq ?_)
  refine c_region ?_
  refine sq S ?_; clear S; intro a S
  refine sc S ?_; clear S; intro a w S
  refine sq S ?_; clear S; intro a S
  refine wl_nil ?_
  refine xtn ?_
  refine c_seq ?_
  refine c_region ?_
  iterate 2 (refine sq S ?_; clear S; intro a S)
  refine wl_nil ?_
  refine xtn ?_
  refine c_cond S (fun h2 => ?_) (fun h2 => ?_)
  · refine c_seq ?_
    refine c_region ?_
    iterate 2 (refine sq S ?_; clear S; intro a S)
    refine sw S ?_; clear S; intro a w S
    refine sq S ?_; clear S; intro a S
    refine wl_nil ?_
    refine xtn ?_
    refine c_ret ?_
    refine xtr ?_
    have hb : okM l = false := by
      cases h : okM l with
      | false => rfl
      | true => simp [tchkF, h] at h2
    have e : tchkF l = 240 := by simp [tchkF, hb]
    refine end2 S (fun _ => ?_)
    exact ⟨zeroL, _, rfl, fun w' _ => by simp [zeroL, LtIn, LsIn, LtF], (fun h => by rw [hb] at h; cases h), fun _ => ⟨e, rfl⟩⟩
  · refine c_skip ?_
    refine xtn ?_
    refine c_seq ?_
    have hb : okM l = true := by
      cases h : okM l with
      | true => rfl
      | false => simp [tchkF, h] at h2
    obtain ⟨v1, v2, v3, v4⟩ := okV l hb
    refine c_region ?_
    refine sq S ?_; clear S; intro a S
    refine wl_nil ?_
    refine xtn ?_
    iterate 2 (refine c_seq ?_)
    refine c_region ?_
    iterate 3 (refine sq S ?_; clear S; intro a S)
    refine wl_nil ?_
    refine xtn ?_
    refine c_block ?_
    replace S := S.addNil 24 5
    refine c_fore4 S (fun (k : Nat) (os : List LTerm) (po : Option Addr) (co : Nat) uu => [(5, .slice po os.length co), (1, uu 7), (8, .int .i64 (k : Nat)), (0, uu 17), (0, uu 18), (0, uu 19), (0, uu 20), (0, uu 21), (0, uu 22), (0, uu 23), (0, uu 24), (0, uu 25)]) (fun (k : Nat) (os : List LTerm) (po : Option Addr) (co : Nat) => [Wk.row 24 5 po os.length co (encL os), Wk.box b2 24 zeroL.cells, ext M]) (fun (k : Nat) (os : List LTerm) (po : Option Addr) (co : Nat) => [AllI os, TabF, GlF p l]) (fun (k : Nat) (os : List LTerm) (po : Option Addr) (co : Nat) => k ≤ l.length ∧ os.length = k ∧ os.map LTerm.t = (l.take k).map rowM) (fun (k : Nat) (os : List LTerm) (po : Option Addr) (co : Nat) => l.length - k) (0) ([]) (none) (0) ?_ S.uu ?_ ?_
    · exact ⟨Nat.zero_le _, rfl, rfl⟩
    · exact S.add (Φ := AllI (α := LTerm) []) AllI.nil
    · clear S; rintro k os po co uu a w ⟨hk, hol, hos⟩ S
      refine c_seq ?_
      refine c_region ?_
      refine sq S ?_; clear S; intro a S
      refine wl_nil ?_
      refine xtn ?_
      refine c_seq ?_
      refine c_cond S (fun h6 => ?_) (fun h6 => ?_)
      · refine c_skip ?_
        refine xtn ?_
        refine c_seq ?_
        refine c_block ?_
        refine c_seq ?_
        have hkl : k < l.length := by simp at h6; omega
        have hK : KLt k l.length := ⟨hkl⟩
        refine c_region ?_
        iterate 2 (refine sq S ?_; clear S; intro a S)
        refine sa S ?_; clear S; intro b7 a w S
        refine sw S ?_; clear S; intro a w S
        refine wl_nil ?_
        refine xtn ?_
        refine c_region ?_
        iterate 2 (refine sq S ?_; clear S; intro a S)
        refine sr S (trow_c (nthG l k) _ w (v2 _ (nthG_mem hkl)) (foots_lt S) (S.mem.fact TabF)) ?_; clear S; rintro _ a w ⟨r, rfl, hr, hrf⟩ S
        replace S := S.add hrf
        refine sn S ?_; clear S; intro b23 a w S
        refine sap S (by simp [maxLen]; omega) (by omega) ?_; clear S; rintro p8 c8 a w - S
        rw [show encL os ++ r.cells = encL (os ++ [r]) from by rw [encL_append, encT_cells], show os.length + 1 = (os ++ [r]).length from by simp] at S
        refine sq S ?_; clear S; intro a S
        refine wl_nil ?_
        refine xbn ?_
        refine xtn ?_
        refine c_region ?_
        iterate 2 (refine sq S ?_; clear S; intro a S)
        refine wl_nil ?_
        refine xtn ?_
        have h1 := S.wd.facts (AllI os) (by simp)
        have h2 := S.t r
        replace S := S.add (AllI.snoc h1 h2)
        rw [w64 ((k : Int) + 1) (by omega) (by omega)] at S
        exact ⟨k + 1, os ++ [r], p8, c8, S.uu, ⟨hkl, by simp [hol], by rw [List.map_append, hos, nthG_take hkl, List.map_append]; simp [hr, rowM]⟩, S.sub _ _, by omega⟩
      · refine c_exit ?_
        iterate 2 (refine xte ?_)
        refine xbe ?_
        refine xtn ?_
        refine c_seq ?_
        rw [List.take_of_length_le (by simp at h6; omega)] at hos
        have hall := S.wd.facts (AllI os) (by simp)
        replace S := S.rowToGl (e := 24) (sz := 5) (n := os.length) (c := co) po os hall
        refine c_region ?_
        refine sq S ?_; clear S; intro a S
        refine sr S (list_c os po co _ w (by omega) (foots_lt S) ((S.gl po (xs := os)).imp fun _ h => gl_ls h)) ?_; clear S; rintro _ a w ⟨r, rfl, hr, hrf⟩ S
        replace S := S.add hrf
        refine sw S ?_; clear S; intro a w S
        refine sq S ?_; clear S; intro a S
        refine wl_nil ?_
        refine xtn ?_
        refine c_ret ?_
        have hlat := S.laterT (M := M) r
        refine end2 S (fun _ => ?_)
        exact ⟨r, 0, rfl, hlat, fun _ => ⟨rfl, by rw [hr, hos]; rfl⟩, fun h => by rw [hb] at h; cases h⟩
end Go.Proofs.YtgielmldblopeaaDoor
