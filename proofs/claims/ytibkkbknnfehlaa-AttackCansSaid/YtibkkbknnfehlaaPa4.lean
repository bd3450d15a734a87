/- 4: a part of this claim's texts, joined: CloseE CloseF PlainReckon PlainSafe W5 AttackA. -/
import Derived.Test.YtibkkbknnfehlaaPa3
namespace Go.Proofs.Ytibkkbknnfehlaa
open Go Go.Wk
set_option synthInstance.maxSize 100000
set_option synthInstance.maxHeartbeats 400000
set_option maxRecDepth 100000
def UF (w0 : World) : World → Prop := fun w => ∀ x, Stable (fun _ => False) w0 (LtF x) → LtIn w x
theorem hasT_old {fs : List (World → Prop)} {w0 : World} {x : LTerm} [h : HasFact fs (UF w0)] (hx : Stable (fun _ => False) w0 (LtF x)) : HasT fs x := ⟨fun _ _ hf => (hf _ h.mem).imp fun _ hw => hw x hx⟩
theorem kvPut_new {k : List UInt8} {x : LTerm} {km : List (List UInt8 × LTerm)} (h : inM km k = false) : kvPut k (vL x) (kvM km) = kvM (km ++ [(k, x)]) := by
  have h1 : ∀ (km : List (List UInt8 × LTerm)) (i : Nat), inM km k = false → kvIdx k (kvM km) i = none := by
    intro km
    induction km with
    | nil => intro i _; rfl
    | cons e km ih =>
      intro i h
      obtain ⟨u, y⟩ := e
      have h2 : ¬ k = u := fun e => by
        rw [inM, tget, if_pos e] at h; cases h
      show kvIdx k ((u, vL y) :: kvM km) i = none
      rw [kvIdx, if_neg h2]
      refine ih _ ?_
      rw [inM, tget, if_neg h2] at h; exact h
  rw [kvPut_none (h1 km 0 h)]
  simp [kvM]
theorem encL_pop (st : List LTerm) (x : LTerm) : (encL (st ++ [x])).take (st.length * 5) = encL st := by
  have e : (encL (st ++ [x])).take (st.length * 5) = encL ((st ++ [x]).take st.length) := encL_take (st ++ [x]) st.length
  rw [e, List.take_left]
theorem encL_at {xs : List LTerm} {k : Nat} {x : LTerm} (h : xs[k]? = some x) {j : Nat} {v : Value} (hj : x.cells[j]? = some v) : (encL xs)[k * 5 + j]? = some v := by
  have hj5 : j < 5 := (List.getElem?_eq_some_iff.1 hj).1
  rw [← hj]; exact encL_get xs k x h j hj5
theorem kids6 {x : LTerm} (h : Good x.t) (hk : x.kind = 6) : 0 < x.kids.length := by
  rw [x.t_eq] at h
  cases ok_of_size h with
  | mk hp _ =>
    have := plain_shape hp
    rw [List.length_map] at this
    omega
structure AS where
  p : Option Addr
  c : Nat
  ps : Option Addr
  cs : Nat
  st : List LTerm
  sh : List LTerm
  km : List (List UInt8 × LTerm)
  Ds : List Nat
theorem apart_c (xs : List LTerm) (p : Option Addr) (c : Nat) (w0 : World) (hl : xs.length ≤ 500) (hx : Stable (fun _ => False) w0 (LsF p 0 xs)) (hg : ∀ x ∈ xs, Good x.t) :
    Ret Try.prog 44 [.slice p xs.length c] w0 (fun _ => False) fun v w' => ∃ b km, v = .map (some b) ∧ MpF b (kvM km) w' ∧ w0.heap.size ≤ b ∧ Apart (xs.map LTerm.t) km ∧ km.length ≤ 1200000 ∧ ∀ e ∈ km, Stable (fun k => k = b) w' (LtF e.2) ∧ SubT (xs.map LTerm.t) e.2.t := by
  obtain ⟨O, hOdef⟩ : ∃ O : LTerm → Prop, O = fun x => Stable (fun _ => False) w0 (LtF x) ∧ SubT (xs.map LTerm.t) x.t := ⟨_, rfl⟩
  have hO : ∀ x, O x → ∀ y ∈ x.kids, O y := fun x h y hy => by
    rw [hOdef] at h ⊢
    refine ⟨kid_st h.1 hy, ?_⟩
    have h2 := h.2
    rw [x.t_eq] at h2
    exact .kid h2 (List.mem_map.2 ⟨y, hy, rfl⟩)
  have hW : wS xs ≤ 1200000 := by
    have : ∀ l : List LTerm, (∀ x ∈ l, Good x.t) → wS l ≤ 2400 * l.length := by
      intro l
      induction l with
      | nil => intro _; simp [wS]
      | cons x l ih =>
        intro h
        have h1 := good_le (h x (by simp))
        have h2 := ih fun y hy => h y (by simp [hy])
        simp only [wS, List.map_cons, List.sum_cons, List.length_cons] at h2 ⊢
        omega
    have := this xs hg
    omega
  refine enterM Try.func44 rfl rfl (Wd.begin (fs := [LsF p 0 xs, UF w0]) (by simp; exact ⟨hx, fun w' hw' x hx' => hx' w' hw'⟩)) (fun a S => ?_)
  simp only [Try.ntmps44, List.length_cons, List.length_nil, Nat.reduceAdd, Nat.reduceSub, List.replicate_succ, List.replicate_zero, List.cons_append, List.nil_append] at S
  refine c_seq ?_; refine c_region ?_; refine sq S ?_; clear S; intro a S; refine wl_nil ?_; refine xtn ?_; refine c_scope ?_; refine c_seq ?_; refine c_region ?_
  refine smm S ?_; clear S; intro b a w S
  refine sq S ?_; clear S; intro a S; refine wl_nil ?_; refine xtn ?_; refine c_seq ?_; refine c_region ?_; refine sq S ?_; clear S; intro a S
  refine srn S (clone_c xs p _ c w rfl (by omega) (S.mem.fact0 (LsF p 0 xs))) ?_; clear S; rintro _ a w ⟨p2, c2, rfl, hown, hnew⟩ hS -
  have S := hS hown hnew
  clear hS hown hnew
  refine sa S ?_; clear S; intro b4 a w S
  refine sw S ?_; clear S; intro a w S; refine wl_nil ?_; refine xtn ?_; refine c_seq ?_; refine c_region ?_; refine sq S ?_; clear S; intro a S; refine wl_nil ?_; refine xtn ?_; refine c_seq ?_; refine c_label ?_; refine xtn ?_; refine c_seq ?_; refine c_block ?_
  replace S := S.addNil 37 5
  refine c_loop (ι := AS) (fun s a w => ∃ p2 c2 ps cs st sh km Ds, s = AS.mk p2 c2 ps cs st sh km Ds ∧ AInv (xs.map LTerm.t) O st sh km ∧ wS st + wH sh + km.length ≤ 1200000 ∧ ∃ uu : Nat → Value,  St w0 (fun _ => False) (dsOf Ds) a w ((.slice p xs.length c) :: uu 1 :: uu 2 :: (.map (some b)) :: (.pointer (some ⟨b4, 0, none⟩)) :: (.slice ps sh.length cs) :: uu 6 :: uu 7 :: uu 8 :: uu 9 :: uu 10 :: uu 11 :: uu 12 :: uu 13 :: uu 14 :: uu 15 :: uu 16 :: uu 17 :: uu 18 :: uu 19 :: uu 20 :: uu 21 :: uu 22 :: uu 23 :: uu 24 :: uu 25 :: uu 26 :: uu 27 :: uu 28 :: uu 29 :: uu 30 :: uu 31 :: uu 32 :: uu 33 :: uu 34 :: uu 35 :: uu 36 :: uu 37 :: uu 38 :: uu 39 :: uu 40 :: uu 41 :: uu 42 :: uu 43 :: uu 44 :: uu 45 :: uu 46 :: uu 47 :: uu 48 :: uu 49 :: uu 50 :: uu 51 :: uu 52 :: uu 53 :: uu 54 :: uu 55 :: uu 56 :: uu 57 :: uu 58 :: uu 59 :: uu 60 :: uu 61 :: uu 62 :: uu 63 :: uu 64 :: uu 65 :: uu 66 :: uu 67 :: uu 68 :: uu 69 :: uu 70 :: uu 71 :: uu 72 :: uu 73 :: uu 74 :: uu 75 :: uu 76 :: uu 77 :: uu 78 :: uu 79 :: uu 80 :: uu 81 :: uu 82 :: uu 83 :: uu 84 :: uu 85 :: []) [Wk.row 37 5 ps sh.length cs (encL sh), Wk.box b4 23 [.slice p2 st.length c2], Wk.row 37 5 p2 st.length c2 (encL st), mp b (kvM km), marks Ds] [LsF p 0 xs, UF w0]) (fun s => wS s.st + wH s.sh) ⟨p2, c2, none, 0, xs, [], [], []⟩ ?_ ?_
  · exact ⟨_, _, _, _, _, _, _, _, rfl, AInv.start xs rfl (fun x hx' => ⟨by rw [hOdef]; exact ⟨kids_st hx hx', .top (List.mem_map.2 ⟨x, hx', rfl⟩)⟩, hg x hx'⟩), by simpa [wH] using hW, S.uu, S⟩
  · clear S p2 c2
    rintro _ a w ⟨p20, c20, ps0, cs0, st0, sh0, km0, Ds0, rfl, hI, hw0, uu, S⟩
    refine c_block ?_; refine c_seq ?_; refine c_block ?_
    refine c_loop (ι := AS) (fun s a w => ∃ p2 c2 ps cs st sh km Ds, s = AS.mk p2 c2 ps cs st sh km Ds ∧ AInv (xs.map LTerm.t) O st sh km ∧ wS st + wH sh ≤ wS st0 + wH sh0 ∧ wS st + wH sh + km.length ≤ 1200000 ∧ ∃ uu : Nat → Value,  St w0 (fun _ => False) (dsOf Ds) a w ((.slice p xs.length c) :: uu 1 :: uu 2 :: (.map (some b)) :: (.pointer (some ⟨b4, 0, none⟩)) :: (.slice ps sh.length cs) :: uu 6 :: uu 7 :: uu 8 :: uu 9 :: uu 10 :: uu 11 :: uu 12 :: uu 13 :: uu 14 :: uu 15 :: uu 16 :: uu 17 :: uu 18 :: uu 19 :: uu 20 :: uu 21 :: uu 22 :: uu 23 :: uu 24 :: uu 25 :: uu 26 :: uu 27 :: uu 28 :: uu 29 :: uu 30 :: uu 31 :: uu 32 :: uu 33 :: uu 34 :: uu 35 :: uu 36 :: uu 37 :: uu 38 :: uu 39 :: uu 40 :: uu 41 :: uu 42 :: uu 43 :: uu 44 :: uu 45 :: uu 46 :: uu 47 :: uu 48 :: uu 49 :: uu 50 :: uu 51 :: uu 52 :: uu 53 :: uu 54 :: uu 55 :: uu 56 :: uu 57 :: uu 58 :: uu 59 :: uu 60 :: uu 61 :: uu 62 :: uu 63 :: uu 64 :: uu 65 :: uu 66 :: uu 67 :: uu 68 :: uu 69 :: uu 70 :: uu 71 :: uu 72 :: uu 73 :: uu 74 :: uu 75 :: uu 76 :: uu 77 :: uu 78 :: uu 79 :: uu 80 :: uu 81 :: uu 82 :: uu 83 :: uu 84 :: uu 85 :: []) [Wk.row 37 5 ps sh.length cs (encL sh), Wk.box b4 23 [.slice p2 st.length c2], Wk.row 37 5 p2 st.length c2 (encL st), mp b (kvM km), marks Ds] [LsF p 0 xs, UF w0]) (fun s => wS s.st + wH s.sh) ⟨p20, c20, ps0, cs0, st0, sh0, km0, Ds0⟩ ?_ ?_
    · exact ⟨_, _, _, _, _, _, _, _, rfl, hI, Nat.le_refl _, hw0, S.uu, S⟩
    · clear S hI
      rintro _ a w ⟨p2, c2, ps, cs, st, sh, km, Ds, rfl, hI, hwt, hkn, uu, S⟩
      have hls := wS_len st
      have hlh := wH_len sh
      (iterate 2 (refine c_seq ?_)); refine c_region ?_; (iterate 3 (refine sq S ?_; clear S; intro a S)); refine wl_nil ?_; refine xtn ?_
      refine c_cond S (fun h4 => ?_) (fun h4 => ?_)
      · refine c_skip ?_; refine xtn ?_; refine c_block ?_; refine c_seq ?_
        obtain ⟨st', x, rfl⟩ : ∃ st' x, st = st' ++ [x] := by
          have hne : st ≠ [] := by rintro rfl; simp at h4
          exact ⟨st.dropLast, st.getLast hne, (List.dropLast_concat_getLast hne).symm⟩
        have hlen : (st' ++ [x]).length = st'.length + 1 := by simp
        rw [hlen] at S hls
        obtain ⟨hox, hgx, hdx⟩ := hI.old x (.inl (by simp))
        have hxo : Stable (fun _ => False) w0 (LtF x) := by rw [hOdef] at hox; exact hox.1
        have hT : HasT [LsF p 0 xs, UF w0] x := hasT_old hxo
        have hKL : KLt st'.length (st'.length + 1) := ⟨by omega⟩
        have hwx : wS (st' ++ [x]) = wS st' + 2 * cnt x.t := by rw [wS_append]; simp [wS]
        have hcx := cnt_pos x.t
        have hsub : IntKind.i64.wrap (((st'.length + 1 : Nat) : Int) - 1) = (st'.length : Int) := by rw [w64 _ (by omega) (by omega)]; omega
        refine c_region ?_; (iterate 4 (refine sq S ?_; clear S; intro a S))
        rw [hsub] at S
        refine sq S ?_; clear S; intro a S
        refine slrA x.cells S (st'.length + 1) (fun j v hj => encL_at (by simp) hj) ?_; clear S; intro a S
        refine sa S ?_; clear S; intro b6 a w S
        refine sw S ?_; clear S; intro a w S; refine wl_nil ?_; refine xtn ?_; refine c_seq ?_; refine c_region ?_; (iterate 4 (refine sq S ?_; clear S; intro a S))
        rw [hsub] at S
        refine scut S (by omega) ?_; clear S; intro a S
        rw [encL_pop] at S
        refine sw S ?_; clear S; intro a w S; refine wl_nil ?_; refine xtn ?_; refine c_seq ?_; refine c_region ?_; refine sq S ?_; clear S; intro a S; refine sc S ?_; clear S; intro a w S; refine sq S ?_; clear S; intro a S; refine wl_nil ?_; refine xtn ?_; (iterate 2 (refine c_seq ?_)); refine c_region ?_; (iterate 3 (refine sq S ?_; clear S; intro a S))
        rw [kvM_getD, kvM_some] at S
        (iterate 3 (refine sq S ?_; clear S; intro a S))
        refine sa S ?_; clear S; intro b8 a w S
        refine sw S ?_; clear S; intro a w S; refine sq S ?_; clear S; intro a S; refine wl_nil ?_; refine xtn ?_; refine c_seq ?_; refine c_region ?_; refine sq S ?_; clear S; intro a S; refine wl_nil ?_; refine xtn ?_
        refine c_cond S (fun h9 => ?_) (fun h9 => ?_)
        · refine c_exit ?_; refine xte ?_; refine xbe ?_; refine xtn ?_
          exact ⟨⟨p2, c2, ps, cs, st', sh, km, Ds⟩, ⟨_, _, _, _, _, _, _, _, rfl, hI.found h9, by omega, by omega, S.uu, S.sub _ _⟩, by simp only; omega⟩
        · refine c_skip ?_; refine xtn ?_; refine c_seq ?_; refine c_region ?_; (iterate 3 (refine sq S ?_; clear S; intro a S)); refine smu S ?_; clear S; intro a w S
          rw [show kvPut (nameF x.t) (.agg ⟨x.cells⟩) (kvM km) = kvM (km ++ [(nameF x.t, x)]) from kvPut_new h9] at S
          refine wl_nil ?_; refine xtn ?_; refine c_seq ?_; refine c_region ?_; (iterate 2 (refine sq S ?_; clear S; intro a S)); refine wl_nil ?_; refine xtn ?_; refine c_block ?_
          refine c_merge (fun a w => ∃ uu : Nat → Value,  St w0 (fun _ => False) (dsOf Ds) a w ((.slice p xs.length c) :: uu 1 :: uu 2 :: (.map (some b)) :: (.pointer (some ⟨b4, 0, none⟩)) :: (.slice ps sh.length cs) :: (.pointer (some ⟨b6, 0, none⟩)) :: uu 7 :: uu 8 :: uu 9 :: uu 10 :: uu 11 :: uu 12 :: uu 13 :: uu 14 :: uu 15 :: uu 16 :: uu 17 :: uu 18 :: uu 19 :: uu 20 :: uu 21 :: uu 22 :: uu 23 :: uu 24 :: uu 25 :: uu 26 :: uu 27 :: uu 28 :: uu 29 :: uu 30 :: uu 31 :: uu 32 :: uu 33 :: uu 34 :: uu 35 :: uu 36 :: uu 37 :: uu 38 :: uu 39 :: uu 40 :: uu 41 :: uu 42 :: (.int .i64 x.kind) :: (.bool (decide (x.kind = 4) || decide (x.kind = 8))) :: uu 45 :: uu 46 :: uu 47 :: uu 48 :: uu 49 :: uu 50 :: uu 51 :: uu 52 :: uu 53 :: uu 54 :: uu 55 :: uu 56 :: uu 57 :: uu 58 :: uu 59 :: uu 60 :: uu 61 :: uu 62 :: uu 63 :: uu 64 :: uu 65 :: uu 66 :: uu 67 :: uu 68 :: uu 69 :: uu 70 :: uu 71 :: uu 72 :: uu 73 :: uu 74 :: uu 75 :: uu 76 :: uu 77 :: uu 78 :: uu 79 :: uu 80 :: uu 81 :: uu 82 :: uu 83 :: uu 84 :: uu 85 :: []) [Wk.box b6 37 x.cells, Wk.row 37 5 ps sh.length cs (encL sh), Wk.box b4 23 [.slice p2 st'.length c2], Wk.row 37 5 p2 st'.length c2 (encL st'), mp b (kvM (km ++ [(nameF x.t, x)])), marks Ds] [LsF p 0 xs, UF w0]) ?_ ?_
          · refine c_seq ?_; refine c_region ?_; (iterate 2 (refine sq S ?_; clear S; intro a S)); refine wl_nil ?_; refine xtn ?_
            refine c_cond S (fun h12 => ?_) (fun h12 => ?_)
            · refine c_skip ?_; refine xtn ?_
              rw [show decide (x.kind = 4) = (decide (x.kind = 4) || decide (x.kind = 8)) from by rw [h12]; rfl] at S
              exact ⟨S.uu, S.sub _ _⟩
            · refine c_region ?_; (iterate 2 (refine sq S ?_; clear S; intro a S)); refine wl_nil ?_; refine xtn ?_
              rw [show decide (x.kind = 8) = (decide (x.kind = 4) || decide (x.kind = 8)) from by rw [h12]; rfl] at S
              exact ⟨S.uu, S.sub _ _⟩
          · clear S; rintro a w ⟨uu, S⟩
            refine c_cond S (fun h12 => ?_) (fun h12 => ?_)
            · refine c_seq ?_; refine c_region ?_; (iterate 2 (refine sq S ?_; clear S; intro a S))
              have hlt := foots_lt S
              refine sr S (opens_c x b w) ?_; clear S; rintro _ a w ⟨b1, b2, rfl, n1, n2, f1, f2⟩ S
              replace S := S.add (Φ := BoxF b2 73 [.map (some b)]) (BoxF.stable f2 (fun hm => by have := hlt _ hm; omega))
              replace S := S.add (Φ := BoxF b1 37 x.cells) (BoxF.stable f1 (fun hm => by have := hlt _ hm; omega))
              clear hlt n1 n2 f1 f2
              refine wl_nil ?_; refine xtn ?_; refine c_block ?_
              obtain ⟨km', hkm'⟩ : ∃ km', km' = km ++ [(nameF x.t, x)] := ⟨_, rfl⟩
              rw [← hkm'] at S
              have hk48 : x.kind = 4 ∨ x.kind = 8 := by simpa using h12
              have hgv : givesF (inM km') x = x.kids := by unfold givesF; rw [if_pos hk48]
              have hown := S.wd.own (mp b (kvM km')) (by simp) rfl
              have hkl := wS_len x.kids
              have hwk := wS_kids x
              replace S := S.toRo (x := mp b (kvM km'))
              refine c_range (κ := Option Addr × Nat) (κx := Empty) (Ds := Ds) x.kids
                (fun i k => [Wk.box b6 37 x.cells, Wk.row 37 5 ps sh.length cs (encL sh), Wk.box b4 23 [.slice k.1 (st'.length + i) k.2], Wk.row 37 5 k.1 (st'.length + i) k.2 (encL (st' ++ x.kids.take i)), (mp b (kvM km')).ro, marks Ds]) (fun _ _ => [BoxF b1 37 x.cells, BoxF b2 73 [.map (some b)], LsF p 0 xs, UF w0]) (fun _ _ => True) (fun k => k.elim) (fun k => k.elim) (fun _ k => k.elim) (p2, c2) S
                (E := fun (y : LTerm) vs _ _ => vs = [vL y]) (gf := 77) (lb := [.pointer (some ⟨b1, 0, none⟩), .pointer (some ⟨b2, 0, none⟩)])
                (fun M w1 hM hF hR => by
                  have := opens_it b1 b2 b x km' w1 M hM (hF _ (by simp)) (hF _ (by simp)) (hR (mp b (kvM km')).ro (by simp) rfl) ((hF (UF w0) (by simp)).imp fun w h => h x hxo) (kids6 hgx)
                  rw [hgv] at this; exact this) ⟨trivial, by simp, rfl⟩ ?_ ?_ ?_ ?_
              · clear S
                rintro L D bL M w1 i y vs ⟨p3, c3⟩ W0 w hy - hW0 hgr rfl
                refine ⟨_, inferInstance, fun a S => ?_⟩
                have hil : i < x.kids.length := (List.getElem?_eq_some_iff.1 hy).1
                have hti : x.kids.take (i + 1) = x.kids.take i ++ [y] := by rw [List.take_add_one, hy]; rfl
                have hKL2 : KLt (st'.length + i) (st'.length + i + 1) := ⟨by omega⟩
                have hrl : (encL (st' ++ x.kids.take i)).length = (st'.length + i) * 5 := S.row p3 (st'.length + i) |>.1
                refine c_region ?_
                refine sa S ?_; clear S; intro b10 a w S
                refine sw S ?_; clear S; intro a w S; refine wl_nil ?_; refine xtn ?_
                refine rbegin (D := D) (b := bL) S ?_; clear S; intro a w S
                refine c_block ?_
                refine c_drawT (.q 1 (.b2 0 3 (.q 2 (.l 3 (.l 4 (.b2 5 7 (.b2 6 7 (.l 7 (.e)) (.l 6 (.e))) (.l 5 (.l 6 (.e))))))) (.l 0 (.q 2 (.l 4 (.b2 5 7 (.b2 6 7 (.l 7 (.e)) (.l 6 (.e))) (.l 5 (.l 6 (.e))))))))) [Wk.box b10 37 y.cells] S
                  (fun a w => ∃ (p' : Option Addr) (c' : Nat) (l' : List Value), St w1 M [] a w l' [lpI L D (lpR bL .busy none), Wk.box b6 37 x.cells, Wk.row 37 5 ps sh.length cs (encL sh), Wk.box b4 23 [.slice p' (st'.length + (i + 1)) c'], Wk.row 37 5 p' (st'.length + (i + 1)) c' (encL (st' ++ x.kids.take (i + 1))), (mp b (kvM km')).ro, marks Ds] [BoxF b1 37 x.cells, BoxF b2 73 [.map (some b)], LsF p 0 xs, UF w0]) ?_ ?_
                · intro w S
                  refine tq S ?_; clear S; intro a S
                  refine tb2 ?_ ?_
                  · refine sq S ?_; clear S; intro a S; refine te S ?_; refine tq S ?_; clear S; intro a S; refine tl ?_
                    refine sn S ?_; clear S; intro b54 a w S
                    refine te S ?_; refine tl ?_
                    refine sap S (by simp [maxLen]; omega) (by omega) ?_; clear S; rintro p4 c4 a w - S
                    refine te S ?_
                    refine tb2 ?_ ?_
                    · refine sq S ?_; clear S; intro a S; refine te S ?_
                      refine tb2 ?_ ?_
                      · refine sws S (st'.length + i + 1) (by omega) (by omega) ?_; clear S; intro a w S
                        refine te S ?_; refine tl ?_; refine sw S ?_; clear S; intro a w S; refine te S ?_; refine tn ?_
                        have e := own_put (A := encL (st' ++ x.kids.take i)) (Z := [.int .i64 0, .int .i64 0, .int .i64 0, .string ⟨#[]⟩, .slice none 0 0]) (vs := y.cells) _ _ hrl rfl rfl
                        rw [e, show encL (st' ++ x.kids.take i) ++ y.cells = encL (st' ++ x.kids.take (i + 1)) from by rw [hti, ← List.append_assoc, encL_append (st' ++ x.kids.take i) [y], encT_cells]] at S
                        exact ⟨p4, c4, _, S.sub _ _⟩
                      · refine sw S ?_; clear S; intro a w S; refine te S ?_; refine tl ?_
                        refine sws S (st'.length + i + 1) (by omega) (by omega) ?_; clear S; intro a w S
                        refine te S ?_; refine tn ?_
                        have e := own_put (A := encL (st' ++ x.kids.take i)) (Z := [.int .i64 0, .int .i64 0, .int .i64 0, .string ⟨#[]⟩, .slice none 0 0]) (vs := y.cells) _ _ hrl rfl rfl
                        rw [e, show encL (st' ++ x.kids.take i) ++ y.cells = encL (st' ++ x.kids.take (i + 1)) from by rw [hti, ← List.append_assoc, encL_append (st' ++ x.kids.take i) [y], encT_cells]] at S
                        exact ⟨p4, c4, _, S.sub _ _⟩
                    · refine sw S ?_; clear S; intro a w S; refine te S ?_; refine tl ?_; refine sq S ?_; clear S; intro a S; refine te S ?_; refine tl ?_
                      refine sws S (st'.length + i + 1) (by omega) (by omega) ?_; clear S; intro a w S
                      refine te S ?_; refine tn ?_
                      have e := own_put (A := encL (st' ++ x.kids.take i)) (Z := [.int .i64 0, .int .i64 0, .int .i64 0, .string ⟨#[]⟩, .slice none 0 0]) (vs := y.cells) _ _ hrl rfl rfl
                      rw [e, show encL (st' ++ x.kids.take i) ++ y.cells = encL (st' ++ x.kids.take (i + 1)) from by rw [hti, ← List.append_assoc, encL_append (st' ++ x.kids.take i) [y], encT_cells]] at S
                      exact ⟨p4, c4, _, S.sub _ _⟩
                  · refine sn S ?_; clear S; intro b54 a w S
                    refine te S ?_; refine tl ?_; refine sq S ?_; clear S; intro a S; refine te S ?_; refine tq S ?_; clear S; intro a S; refine tl ?_
                    refine sap S (by simp [maxLen]; omega) (by omega) ?_; clear S; rintro p4 c4 a w - S
                    refine te S ?_
                    refine tb2 ?_ ?_
                    · refine sq S ?_; clear S; intro a S; refine te S ?_
                      refine tb2 ?_ ?_
                      · refine sws S (st'.length + i + 1) (by omega) (by omega) ?_; clear S; intro a w S
                        refine te S ?_; refine tl ?_; refine sw S ?_; clear S; intro a w S; refine te S ?_; refine tn ?_
                        have e := own_put (A := encL (st' ++ x.kids.take i)) (Z := [.int .i64 0, .int .i64 0, .int .i64 0, .string ⟨#[]⟩, .slice none 0 0]) (vs := y.cells) _ _ hrl rfl rfl
                        rw [e, show encL (st' ++ x.kids.take i) ++ y.cells = encL (st' ++ x.kids.take (i + 1)) from by rw [hti, ← List.append_assoc, encL_append (st' ++ x.kids.take i) [y], encT_cells]] at S
                        exact ⟨p4, c4, _, S.sub _ _⟩
                      · refine sw S ?_; clear S; intro a w S; refine te S ?_; refine tl ?_
                        refine sws S (st'.length + i + 1) (by omega) (by omega) ?_; clear S; intro a w S
                        refine te S ?_; refine tn ?_
                        have e := own_put (A := encL (st' ++ x.kids.take i)) (Z := [.int .i64 0, .int .i64 0, .int .i64 0, .string ⟨#[]⟩, .slice none 0 0]) (vs := y.cells) _ _ hrl rfl rfl
                        rw [e, show encL (st' ++ x.kids.take i) ++ y.cells = encL (st' ++ x.kids.take (i + 1)) from by rw [hti, ← List.append_assoc, encL_append (st' ++ x.kids.take i) [y], encT_cells]] at S
                        exact ⟨p4, c4, _, S.sub _ _⟩
                    · refine sw S ?_; clear S; intro a w S; refine te S ?_; refine tl ?_; refine sq S ?_; clear S; intro a S; refine te S ?_; refine tl ?_
                      refine sws S (st'.length + i + 1) (by omega) (by omega) ?_; clear S; intro a w S
                      refine te S ?_; refine tn ?_
                      have e := own_put (A := encL (st' ++ x.kids.take i)) (Z := [.int .i64 0, .int .i64 0, .int .i64 0, .string ⟨#[]⟩, .slice none 0 0]) (vs := y.cells) _ _ hrl rfl rfl
                      rw [e, show encL (st' ++ x.kids.take i) ++ y.cells = encL (st' ++ x.kids.take (i + 1)) from by rw [hti, ← List.append_assoc, encL_append (st' ++ x.kids.take i) [y], encT_cells]] at S
                      exact ⟨p4, c4, _, S.sub _ _⟩
                rintro a w ⟨p4, c4, l4, S⟩
                refine xbn ?_
                exact rnext (D := D) (b := bL) S fun W hW => ⟨(p4, c4), trivial, hW⟩
              · clear S
                rintro D ⟨p3, c3⟩ a w - S
                replace S := S.join (Ds := Ds)
                replace S := S.unRo (x := mp b (kvM km')) hown
                rw [List.take_length, ← List.length_append] at S
                (iterate 3 (refine xbn ?_)); refine xtn ?_
                have hI2 := hI.open48 h9 hO hk48
                have hkml : km'.length = km.length + 1 := by rw [hkm']; simp
                rw [← hkm'] at hI2
                have hw2 : wS (st' ++ x.kids) = wS st' + wS x.kids := wS_append _ _
                exact ⟨⟨p3, c3, ps, cs, st' ++ x.kids, sh, km', [D] ++ Ds⟩, ⟨_, _, _, _, _, _, _, _, rfl, hI2, by omega, by omega, S.uu, S.sub _ _⟩, by simp only; omega⟩
              · intro D k; exact k.elim
              · intro id D k; exact k.elim
            · refine c_merge (fun a w => ∃ uu : Nat → Value,  St w0 (fun _ => False) (dsOf Ds) a w ((.slice p xs.length c) :: uu 1 :: uu 2 :: (.map (some b)) :: (.pointer (some ⟨b4, 0, none⟩)) :: (.slice ps sh.length cs) :: (.pointer (some ⟨b6, 0, none⟩)) :: uu 7 :: uu 8 :: uu 9 :: uu 10 :: uu 11 :: uu 12 :: uu 13 :: uu 14 :: uu 15 :: uu 16 :: uu 17 :: uu 18 :: uu 19 :: uu 20 :: uu 21 :: uu 22 :: uu 23 :: uu 24 :: uu 25 :: uu 26 :: uu 27 :: uu 28 :: uu 29 :: uu 30 :: uu 31 :: uu 32 :: uu 33 :: uu 34 :: uu 35 :: uu 36 :: uu 37 :: uu 38 :: uu 39 :: uu 40 :: uu 41 :: uu 42 :: (.int .i64 x.kind) :: uu 44 :: uu 45 :: uu 46 :: uu 47 :: uu 48 :: uu 49 :: uu 50 :: uu 51 :: uu 52 :: uu 53 :: uu 54 :: uu 55 :: uu 56 :: (.bool (decide (x.kind = 6) || decide (x.kind = 7))) :: uu 58 :: uu 59 :: uu 60 :: uu 61 :: uu 62 :: uu 63 :: uu 64 :: uu 65 :: uu 66 :: uu 67 :: uu 68 :: uu 69 :: uu 70 :: uu 71 :: uu 72 :: uu 73 :: uu 74 :: uu 75 :: uu 76 :: uu 77 :: uu 78 :: uu 79 :: uu 80 :: uu 81 :: uu 82 :: uu 83 :: uu 84 :: uu 85 :: []) [Wk.box b6 37 x.cells, Wk.row 37 5 ps sh.length cs (encL sh), Wk.box b4 23 [.slice p2 st'.length c2], Wk.row 37 5 p2 st'.length c2 (encL st'), mp b (kvM (km ++ [(nameF x.t, x)])), marks Ds] [LsF p 0 xs, UF w0]) ?_ ?_
              · refine c_seq ?_; refine c_region ?_; (iterate 2 (refine sq S ?_; clear S; intro a S)); refine wl_nil ?_; refine xtn ?_
                refine c_cond S (fun h17 => ?_) (fun h17 => ?_)
                · refine c_skip ?_; refine xtn ?_
                  rw [show decide (x.kind = 6) = (decide (x.kind = 6) || decide (x.kind = 7)) from by rw [h17]; rfl] at S
                  exact ⟨S.uu, S.sub _ _⟩
                · refine c_region ?_; (iterate 2 (refine sq S ?_; clear S; intro a S)); refine wl_nil ?_; refine xtn ?_
                  rw [show decide (x.kind = 7) = (decide (x.kind = 6) || decide (x.kind = 7)) from by rw [h17]; rfl] at S
                  exact ⟨S.uu, S.sub _ _⟩
              · clear S; rintro a w ⟨uu, S⟩
                refine c_cond S (fun h17 => ?_) (fun h17 => ?_)
                · refine c_region ?_; (iterate 2 (refine sq S ?_; clear S; intro a S))
                  refine sn S ?_; clear S; intro b62 a w S
                  have e1 : encL sh ++ x.cells = encL (sh ++ [x]) := by rw [encL_append, encT_cells]
                  refine sap S (by simp [maxLen]; omega) (by omega) ?_; clear S; rintro ps2 cs2 a w - S
                  rw [show encL sh ++ [Value.int .i64 x.kind, Value.int .i64 x.user, Value.int .i64 x.num, str x.text, Value.slice x.p x.kids.length x.cap] = encL (sh ++ [x]) from e1, show sh.length + 1 = (sh ++ [x]).length from by simp] at S
                  refine sq S ?_; clear S; intro a S; refine wl_nil ?_; (iterate 2 (refine xbn ?_)); refine xtn ?_
                  have hI2 := hI.shut h9
                  have hw2 : wH (sh ++ [x]) = wH sh + (2 * cnt x.t - 1) := by rw [wH_append]; simp [wH]
                  exact ⟨⟨p2, c2, ps2, cs2, st', sh ++ [x], km ++ [(nameF x.t, x)], Ds⟩, ⟨_, _, _, _, _, _, _, _, rfl, hI2, by omega, by (try simp only [List.length_append, List.length_singleton]); omega, S.uu, S.sub _ _⟩, by simp only; omega⟩
                · refine c_skip ?_; (iterate 2 (refine xbn ?_)); refine xtn ?_
                  have hI2 := hI.other h9 (by rintro h; simp [h] at h12) (by rintro h; simp [h] at h12) (by rintro h; simp [h] at h17) (by rintro h; simp [h] at h17)
                  exact ⟨⟨p2, c2, ps, cs, st', sh, km ++ [(nameF x.t, x)], Ds⟩, ⟨_, _, _, _, _, _, _, _, rfl, hI2, by omega, by (try simp only [List.length_append, List.length_singleton]); omega, S.uu, S.sub _ _⟩, by simp only; omega⟩
      · refine c_exit ?_; (iterate 2 (refine xte ?_)); refine xbe ?_; refine xtn ?_; (iterate 2 (refine c_seq ?_))
        have hst0 : st = [] := by
          cases st with
          | nil => rfl
          | cons x st => simp at h4
        subst hst0
        rw [List.length_nil, encL_nil] at S
        refine c_region ?_; (iterate 3 (refine sq S ?_; clear S; intro a S)); refine wl_nil ?_; refine xtn ?_; refine c_block ?_
        refine c_loop (ι := Nat × Option Addr × Nat) (fun q a w => ∃ i p3 c3, q = (i, p3, c3) ∧ i ≤ sh.length ∧ (∀ j, j < i → givesF (inM km) (nthL sh j) = []) ∧ ∃ uu : Nat → Value,  St w0 (fun _ => False) (dsOf Ds) a w ((.slice p xs.length c) :: uu 1 :: uu 2 :: (.map (some b)) :: (.pointer (some ⟨b4, 0, none⟩)) :: (.slice ps sh.length cs) :: uu 6 :: uu 7 :: uu 8 :: uu 9 :: uu 10 :: uu 11 :: uu 12 :: uu 13 :: uu 14 :: uu 15 :: uu 16 :: uu 17 :: uu 18 :: uu 19 :: uu 20 :: uu 21 :: uu 22 :: uu 23 :: uu 24 :: uu 25 :: uu 26 :: uu 27 :: uu 28 :: uu 29 :: uu 30 :: uu 31 :: uu 32 :: uu 33 :: uu 34 :: uu 35 :: uu 36 :: uu 37 :: uu 38 :: uu 39 :: uu 40 :: uu 41 :: uu 42 :: uu 43 :: uu 44 :: uu 45 :: uu 46 :: uu 47 :: uu 48 :: uu 49 :: uu 50 :: uu 51 :: uu 52 :: uu 53 :: uu 54 :: uu 55 :: uu 56 :: uu 57 :: uu 58 :: uu 59 :: uu 60 :: uu 61 :: uu 62 :: uu 63 :: (.slice ps sh.length cs) :: (.int .i64 sh.length) :: (.int .i64 (i : Nat)) :: uu 67 :: uu 68 :: uu 69 :: uu 70 :: uu 71 :: uu 72 :: uu 73 :: uu 74 :: uu 75 :: uu 76 :: uu 77 :: uu 78 :: uu 79 :: uu 80 :: uu 81 :: uu 82 :: uu 83 :: uu 84 :: uu 85 :: []) [Wk.row 37 5 ps sh.length cs (encL sh), Wk.box b4 23 [.slice p3 0 c3], Wk.row 37 5 p3 0 c3 [], mp b (kvM km), marks Ds] [LsF p 0 xs, UF w0]) (fun q => sh.length - q.1) (0, p2, c2) ?_ ?_
        · exact ⟨_, _, _, rfl, Nat.zero_le _, fun j hj => absurd hj (Nat.not_lt_zero _), S.uu, S⟩
        · clear S
          rintro _ a w ⟨i, p3, c3, rfl, hi, hno, uu, S⟩
          refine c_seq ?_; refine c_region ?_; refine sq S ?_; clear S; intro a S; refine wl_nil ?_; refine xtn ?_; refine c_seq ?_
          refine c_cond S (fun h21 => ?_) (fun h21 => ?_)
          · refine c_skip ?_; refine xtn ?_; refine c_seq ?_; refine c_block ?_; refine c_seq ?_
            have hil : i < sh.length := by simp at h21; omega
            have hKL : KLt i sh.length := ⟨hil⟩
            obtain ⟨x, hxd⟩ : ∃ x, x = nthL sh i := ⟨_, rfl⟩
            have hxi : sh[i]? = some x := by rw [hxd]; exact nth_get hil
            obtain ⟨hox, hgx, hdx⟩ := hI.old x (.inr (.inl (List.mem_of_getElem? hxi)))
            have hxo : Stable (fun _ => False) w0 (LtF x) := by rw [hOdef] at hox; exact hox.1
            obtain ⟨g, hgd⟩ : ∃ g, g = givesF (inM km) x := ⟨_, rfl⟩
            have hwg := wS_gives (inM km) x
            rw [← hgd] at hwg
            have hwe := wH_erase sh i x hxi
            have hlg := wS_len g
            have hlh2 := wH_len sh
            have hw00 : wS [] = 0 := rfl
            refine c_region ?_; (iterate 2 (refine sq S ?_; clear S; intro a S))
            refine slrA x.cells S sh.length (fun j v hj => encL_at hxi hj) ?_; clear S; intro a S
            refine sa S ?_; clear S; intro b12 a w S
            refine sq S ?_; clear S; intro a S; refine sw S ?_; clear S; intro a w S; refine wl_nil ?_; refine xtn ?_; refine c_seq ?_
            refine c_drawT (.q 1 (.q 2 (.b2 0 3 (.l 3 (.l 4 (.l 5 (.e)))) (.l 0 (.l 4 (.l 5 (.e))))))) [Wk.box b12 37 x.cells, mp b (kvM km)] S
              (fun a w => ∃ (p' : Option Addr) (c' : Nat), ∃ uu : Nat → Value,  St w0 (fun _ => False) (dsOf Ds) a w ((.slice p xs.length c) :: uu 1 :: uu 2 :: (.map (some b)) :: (.pointer (some ⟨b4, 0, none⟩)) :: (.slice ps sh.length cs) :: uu 6 :: uu 7 :: uu 8 :: uu 9 :: uu 10 :: (.int .i64 (i : Nat)) :: uu 12 :: uu 13 :: uu 14 :: uu 15 :: uu 16 :: uu 17 :: uu 18 :: uu 19 :: uu 20 :: uu 21 :: uu 22 :: uu 23 :: uu 24 :: uu 25 :: uu 26 :: uu 27 :: uu 28 :: uu 29 :: uu 30 :: uu 31 :: uu 32 :: uu 33 :: uu 34 :: uu 35 :: uu 36 :: uu 37 :: uu 38 :: uu 39 :: uu 40 :: uu 41 :: uu 42 :: uu 43 :: uu 44 :: uu 45 :: uu 46 :: uu 47 :: uu 48 :: uu 49 :: uu 50 :: uu 51 :: uu 52 :: uu 53 :: uu 54 :: uu 55 :: uu 56 :: uu 57 :: uu 58 :: uu 59 :: uu 60 :: uu 61 :: uu 62 :: uu 63 :: (.slice ps sh.length cs) :: (.int .i64 sh.length) :: (.int .i64 (i : Nat)) :: uu 67 :: uu 68 :: uu 69 :: uu 70 :: uu 71 :: uu 72 :: uu 73 :: uu 74 :: uu 75 :: uu 76 :: uu 77 :: uu 78 :: uu 79 :: uu 80 :: uu 81 :: uu 82 :: uu 83 :: uu 84 :: uu 85 :: []) [Wk.row 37 5 ps sh.length cs (encL sh), Wk.box b4 23 [.slice p' g.length c'], Wk.row 37 5 p' g.length c' (encL g), mp b (kvM km), marks Ds] [LsF p 0 xs, UF w0]) ?_ ?_
            · intro w S
              (iterate 2 (refine tq S ?_; clear S; intro a S))
              refine tb2 ?_ ?_
              · refine sq S ?_; clear S; intro a S; refine te S ?_; refine tl ?_
                have hlt := foots_lt S
                refine sr S (opens_c x b w) ?_; clear S; rintro _ a w ⟨b1, b2, rfl, n1, n2, f1, f2⟩ S
                replace S := S.add (Φ := BoxF b2 73 [.map (some b)]) (BoxF.stable f2 (fun hm => by have := hlt _ hm; omega))
                replace S := S.add (Φ := BoxF b1 37 x.cells) (BoxF.stable f1 (fun hm => by have := hlt _ hm; omega))
                clear hlt n1 n2 f1 f2
                refine te S ?_; refine tl ?_
                have hfs : ∀ Φ ∈ [BoxF b1 37 x.cells, BoxF b2 73 [.map (some b)], MpF b (kvM km), LtF x], Stable (fun k => ∃ ad, p3 = some ad ∧ k = ad.block) w Φ := by
                  intro Φ hΦ
                  simp only [List.mem_cons, List.not_mem_nil, or_false] at hΦ
                  rcases hΦ with rfl | rfl | rfl | rfl
                  · exact S.rowFact p3 0 (by simp)
                  · exact S.rowFact p3 0 (by simp)
                  · exact MpF.stable (S.wd.held (mp b (kvM km)) (by simp)) (fun hm => S.apart2 (Wk.row 37 5 p3 0 c3 []) (mp b (kvM km)) b hm rfl)
                  · exact (S.rowFact (Φ := UF w0) p3 0 (by simp)).imp fun w h => h x hxo
                have hap := appendSeq_c 77 [.pointer (some ⟨b1, 0, none⟩), .pointer (some ⟨b2, 0, none⟩)] g [] [BoxF b1 37 x.cells, BoxF b2 73 [.map (some b)], MpF b (kvM km), LtF x] p3 0 c3 w (by omega) (S.row p3 0) hfs
                  (fun M w1 hM hF => by
                    have := opens_it b1 b2 b x km w1 M hM (hF _ (by simp)) (hF _ (by simp)) (hF _ (by simp)) (hF _ (by simp)) (kids6 hgx)
                    rw [← hgd] at this; exact this)
                refine srg p3 0 S hap ?_; clear S hfs hap; rintro _ a w ⟨p4, c4, rfl, hown4, hnew4⟩ hS
                have S := hS _ hown4 hnew4
                clear hS hown4 hnew4
                rw [Nat.zero_add, List.nil_append] at S
                refine te S ?_; refine tl ?_; refine sw S ?_; clear S; intro a w S; refine te S ?_; refine tn ?_
                exact ⟨p4, c4, S.uu, S.sub _ _⟩
              · have hlt := foots_lt S
                refine sr S (opens_c x b w) ?_; clear S; rintro _ a w ⟨b1, b2, rfl, n1, n2, f1, f2⟩ S
                replace S := S.add (Φ := BoxF b2 73 [.map (some b)]) (BoxF.stable f2 (fun hm => by have := hlt _ hm; omega))
                replace S := S.add (Φ := BoxF b1 37 x.cells) (BoxF.stable f1 (fun hm => by have := hlt _ hm; omega))
                clear hlt n1 n2 f1 f2
                refine te S ?_; refine tl ?_; refine sq S ?_; clear S; intro a S; refine te S ?_; refine tl ?_
                have hfs : ∀ Φ ∈ [BoxF b1 37 x.cells, BoxF b2 73 [.map (some b)], MpF b (kvM km), LtF x], Stable (fun k => ∃ ad, p3 = some ad ∧ k = ad.block) w Φ := by
                  intro Φ hΦ
                  simp only [List.mem_cons, List.not_mem_nil, or_false] at hΦ
                  rcases hΦ with rfl | rfl | rfl | rfl
                  · exact S.rowFact p3 0 (by simp)
                  · exact S.rowFact p3 0 (by simp)
                  · exact MpF.stable (S.wd.held (mp b (kvM km)) (by simp)) (fun hm => S.apart2 (Wk.row 37 5 p3 0 c3 []) (mp b (kvM km)) b hm rfl)
                  · exact (S.rowFact (Φ := UF w0) p3 0 (by simp)).imp fun w h => h x hxo
                have hap := appendSeq_c 77 [.pointer (some ⟨b1, 0, none⟩), .pointer (some ⟨b2, 0, none⟩)] g [] [BoxF b1 37 x.cells, BoxF b2 73 [.map (some b)], MpF b (kvM km), LtF x] p3 0 c3 w (by omega) (S.row p3 0) hfs
                  (fun M w1 hM hF => by
                    have := opens_it b1 b2 b x km w1 M hM (hF _ (by simp)) (hF _ (by simp)) (hF _ (by simp)) (hF _ (by simp)) (kids6 hgx)
                    rw [← hgd] at this; exact this)
                refine srg p3 0 S hap ?_; clear S hfs hap; rintro _ a w ⟨p4, c4, rfl, hown4, hnew4⟩ hS
                have S := hS _ hown4 hnew4
                clear hS hown4 hnew4
                rw [Nat.zero_add, List.nil_append] at S
                refine te S ?_; refine tl ?_; refine sw S ?_; clear S; intro a w S; refine te S ?_; refine tn ?_
                exact ⟨p4, c4, S.uu, S.sub _ _⟩
            rintro a w ⟨p4, c4, uu, S⟩
            refine xtn ?_; refine c_seq ?_; refine c_region ?_; (iterate 3 (refine sq S ?_; clear S; intro a S)); refine wl_nil ?_; refine xtn ?_
            refine c_cond S (fun h24 => ?_) (fun h24 => ?_)
            · refine c_seq ?_; refine c_region ?_; (iterate 4 (refine sq S ?_; clear S; intro a S))
              rw [w64 _ (by omega) (by omega), show (i : Int) + 1 = ((i + 1 : Nat) : Int) from rfl] at S
              refine srg ps sh.length S (delete_c sh i ps sh.length cs w hil rfl (by omega) (S.row ps sh.length)) ?_; clear S; rintro _ a w ⟨rfl, hown5⟩ hS
              have S := hS _ hown5 (fun ad h => .inl ⟨ad, h, rfl⟩)
              clear hS hown5
              rw [show sh.length - 1 = (sh.eraseIdx i).length from by rw [List.length_eraseIdx_of_lt hil]] at S
              refine sq S ?_; clear S; intro a S; refine wl_nil ?_; refine xtn ?_; refine c_exit ?_; refine xbx ?_; (iterate 2 (refine xte ?_)); refine xbx ?_; refine xte ?_; refine xbe ?_; refine xtn ?_
              have hgne : givesF (inM km) x ≠ [] := by
                rw [← hgd]; rintro rfl; simp at h24
              have hI2 := hI.reopen hO hxi hgne
              rw [← hgd] at hI2
              exact ⟨⟨p4, c4, ps, cs, g, sh.eraseIdx i, km, Ds⟩, ⟨_, _, _, _, _, _, _, _, rfl, hI2, by omega, S.uu, S⟩, by simp only; omega⟩
            · refine c_skip ?_; refine xbn ?_; refine xtn ?_; refine c_region ?_; (iterate 2 (refine sq S ?_; clear S; intro a S)); refine wl_nil ?_; refine xtn ?_
              have hg0 : g = [] := by
                cases hq : g with
                | nil => rfl
                | cons y g' => rw [hq] at h24; simp at h24
              rw [w64 ((i : Int) + 1) (by omega) (by omega), hg0, List.length_nil, encL_nil] at S
              refine ⟨(i + 1, p4, c4), ⟨_, _, _, rfl, hil, fun j hj => ?_, S.uu, S⟩, by simp only; omega⟩
              rcases Nat.lt_or_ge j i with h | h
              · exact hno j h
              · obtain rfl : j = i := by omega
                rw [← hxd, ← hgd, hg0]
          · refine c_exit ?_; (iterate 2 (refine xte ?_)); refine xbe ?_; refine xtn ?_; refine c_exit ?_; refine xbx ?_; refine xte ?_; refine xbe ?_; refine xtn ?_; refine c_seq ?_; refine c_region ?_; (iterate 2 (refine sq S ?_; clear S; intro a S)); refine wl_nil ?_; refine xtn ?_; refine c_ret ?_; refine xsr ?_
            have hi2 : sh.length ≤ i := by simp at h21; omega
            have hA := hI.apart fun x hx' => by
              obtain ⟨j, hj, hjx⟩ := List.mem_iff_getElem.1 hx'
              have := hno j (by omega)
              rw [show nthL sh j = x from by rw [← hjx]; simp [nthL, hj]] at this
              exact this
            have hown := S.wd.own (mp b (kvM km)) (by simp) rfl b rfl
            refine endM1 S (fun w hw => ?_)
            exact ⟨b, km, rfl, hw.held (mp b (kvM km)) (by simp), hown.elim (fun h => h.elim) id, hA, by omega, fun e he => by
              have := (hI.old e.2 (.inr (.inr ⟨e, he, rfl⟩))).1
              rw [hOdef] at this
              exact ⟨fun w2 hw2 => this.1 w2 (hw.agree.trans' hw2 fun i hi hib => by
                subst hib
                exact hown.elim (fun h => h.elim) (fun h => absurd hi (by omega))), this.2⟩⟩
noncomputable def derB (K : List Term) (t : Term) : Bool := @decide (Der K t) (Classical.propDecidable _)
theorem derB_iff {K : List Term} {t : Term} : derB K t = true ↔ Der K t := by
  unfold derB; exact @decide_eq_true_iff _ (Classical.propDecidable _)
noncomputable def canB (K : List Term) (t : Term) : Bool := if chkF K [t] = 0 then derB K t else false
theorem chk_zero {K L : List Term} : chkF K L = 0 ↔ K.length ≤ 500 ∧ ∀ t ∈ K ++ L, Good t := by
  have hb : ∀ t, badF t = false ↔ Good t := fun t => by rw [badF, ← good_check]; simp
  unfold chkF
  split
  · rename_i h; constructor
    · intro h; cases h
    · intro h2; omega
  · rename_i h
    split
    · rename_i h2
      constructor
      · intro h; cases h
      · rintro ⟨_, h3⟩
        obtain ⟨t, ht, h4⟩ := List.any_eq_true.1 h2
        rw [(hb t).2 (h3 t ht)] at h4; cases h4
    · rename_i h2
      refine ⟨fun _ => ⟨by omega, fun t ht => (hb t).1 ?_⟩, fun _ => rfl⟩
      cases hq : badF t with
      | false => rfl
      | true => exact absurd (List.any_eq_true.2 ⟨t, ht, hq⟩) h2
theorem can_cl (xs : List LTerm) (t : LTerm) (p : Option Addr) (c : Nat) (w0 : World) (hx : Stable (fun _ => False) w0 (LsF p 0 xs)) (ht : Stable (fun _ => False) w0 (LtF t)) :
    Ret Try.prog 27 [.slice p xs.length c, vL t] w0 (fun _ => False) fun v _ => v = .tuple ⟨[.bool (canB (xs.map LTerm.t) t.t), .int .i64 (chkF (xs.map LTerm.t) [t.t])]⟩ := by
  refine enter Try.func27 rfl rfl (Wd.begin (fs := [LtF t, LsF p 0 xs]) (by simp; exact ⟨ht, hx⟩)) (fun a S => ?_)
  simp only [Try.ntmps27, List.length_cons, List.length_nil, Nat.reduceAdd, Nat.reduceSub, List.replicate_succ, List.replicate_zero, List.cons_append, List.nil_append] at S
  refine c_seq ?_; refine c_region ?_
  refine sa S ?_; clear S; intro b3 a w S
  (iterate 2 (refine sq S ?_; clear S; intro a S)); refine wl_nil ?_; refine xtn ?_; (iterate 2 (refine c_seq ?_)); refine c_region ?_; (iterate 2 (refine sq S ?_; clear S; intro a S))
  refine sn S ?_; clear S; intro b9 a w S
  have hb9 := S.box b9
  have h9 : Stable (fun _ => False) w (LsF (some ⟨b9, 0, none⟩) 0 [t]) := fun w' hw' =>
    LsIn.of_block [t] (by rw [hw'.blk (Array.getElem?_eq_some_iff.1 hb9).1 (fun h => h)]; exact hb9) (fun x hx => by obtain rfl := List.mem_singleton.1 hx; exact S.mem.t0 x w' hw')
  have hck := check_cl xs [t] p (some ⟨b9, 0, none⟩) xs.length 1 c 1 w rfl rfl (by omega) (S.mem.fact0 (LsF p 0 xs)) h9
  refine sr S hck ?_; clear S hck h9 hb9; rintro _ a w rfl S
  refine sq S ?_; clear S; intro a S; refine wl_nil ?_; refine xtn ?_; refine c_seq ?_; refine c_region ?_; (iterate 2 (refine sq S ?_; clear S; intro a S)); refine wl_nil ?_; refine xtn ?_
  refine c_cond S (fun h2 => ?_) (fun h2 => ?_)
  · refine c_seq ?_; refine c_region ?_; (iterate 3 (refine sq S ?_; clear S; intro a S)); refine wl_nil ?_; refine xtn ?_; refine c_ret ?_; refine xtr ?_
    refine end2 S (fun _ => ?_)
    have h2' : ¬ chkF (xs.map LTerm.t) [t.t] = 0 := by simpa using h2
    rw [canB, if_neg h2']
    rfl
  · refine c_skip ?_; refine xtn ?_; refine c_seq ?_
    refine c_drawD [(0, true), (2, true), (1, false), (3, false), (4, true), (5, true)] [] S ?_; clear S; intro w S
    (iterate 2 (refine dq S ?_; clear S; intro a S)); refine dl ?_
    have h2' : chkF (xs.map LTerm.t) [t.t] = 0 := by simpa using h2
    obtain ⟨hlen, hgood⟩ := chk_zero.1 h2'
    rw [List.length_map] at hlen
    refine sr S (apart_c xs p c w hlen (S.mem.fact0 (LsF p 0 xs)) (fun x hx => hgood _ (List.mem_append_left _ (List.mem_map.2 ⟨x, hx, rfl⟩)))) ?_; clear S; rintro _ a w ⟨b, km, rfl, hm, hb, hA, -, -⟩ S
    refine de S ?_; refine dl ?_
    refine sr S (can_c t b km w (S.mem.t0 t) (MpF.stable hm (fun h => h))) ?_; clear S; rintro _ a w rfl S
    refine de S ?_; (iterate 2 (refine dq S ?_; clear S; intro a S)); refine dn ?_; refine xtn ?_; refine c_ret ?_
    refine end2 S (fun _ => ?_)
    rw [canB, if_pos h2', h2']
    have hgt : Good t.t := hgood _ (List.mem_append_right _ (by simp))
    have e : canF (inM km) t.t = derB (xs.map LTerm.t) t.t := by
      rw [Bool.eq_iff_iff, derB_iff, can_iff hA hgt]
    rw [e]
def hasI : List Term → Term → Int → Int
  | [], _, _ => -1
  | x :: xs, t, o => if sameF x t = true then o else hasI xs t (o + 1)
theorem hasI_cases (t : Term) : ∀ (l : List Term) (o : Int), (hasI l t o = -1 ∧ t ∉ l) ∨ ∃ i : Nat, hasI l t o = o + i ∧ l[i]? = some t
  | [], o => .inl ⟨rfl, nofun⟩
  | x :: xs, o => by
    rw [hasI]
    by_cases h : sameF x t = true
    · rw [if_pos h]
      exact .inr ⟨0, by simp, by rw [(sameF_iff _ _).1 h]; rfl⟩
    · rw [if_neg h]
      have hne : ¬ t = x := fun e => h ((sameF_iff _ _).2 e.symm)
      rcases hasI_cases t xs (o + 1) with ⟨h1, h2⟩ | ⟨i, h1, h2⟩
      · exact .inl ⟨h1, by simp [h2, hne]⟩
      · exact .inr ⟨i + 1, by rw [h1]; omega, by simpa using h2⟩
theorem hasI_in {l : List Term} {t : Term} (h : t ∈ l) : ∃ i : Nat, hasI l t 0 = i ∧ l[i]? = some t := by
  rcases hasI_cases t l 0 with ⟨_, h2⟩ | ⟨i, h1, h2⟩
  · exact absurd h h2
  · exact ⟨i, by rw [h1]; omega, h2⟩
def kinT : Term → List Term
  | .mk k u _ _ ks => if k = 7 ∨ k = 8 then secretT u :: ks else ks
structure WithR (l : List Term) (t : Term) (m : List Term) : Prop where
  sub : ∀ y ∈ l, y ∈ m
  nd : l.Nodup → m.Nodup
  has : t ∈ m
  good : ∀ x ∈ m, x ∉ l → Good x
  kin : ∀ x ∈ m, x ∉ l → ∀ y ∈ kinT x, y ∈ m
theorem WithR.found {l : List Term} {t : Term} (h : t ∈ l) : WithR l t l := ⟨fun _ h => h, fun h => h, h, fun _ h n => absurd h n, fun _ h n => absurd h n⟩
structure WayR (l : List Term) (t : Term) (ys m : List Term) : Prop where
  sub : ∀ y ∈ l, y ∈ m
  nd : l.Nodup → m.Nodup
  has : t ∈ m
  good : ∀ x ∈ m, x ∉ l → Good x
  kin : ∀ x ∈ m, x ∉ l → x ≠ t → ∀ y ∈ kinT x, y ∈ m
  got : ∀ y ∈ ys, y ∈ m
theorem WayR.begin {l : List Term} {t : Term} (h : t ∉ l) (hg : Good t) : WayR l t [] (l ++ [t]) := by
  refine ⟨fun y h => List.mem_append_left _ h, fun hn => ?_, by simp, fun x hx hn => ?_, fun x hx hn ht => ?_, nofun⟩
  · rw [List.nodup_append]
    exact ⟨hn, by simp, fun a ha b hb => by simp at hb; subst hb; rintro rfl; exact h ha⟩
  · rcases List.mem_append.1 hx with hx | hx
    · exact absurd hx hn
    · simp at hx; rw [hx]; exact hg
  · rcases List.mem_append.1 hx with hx | hx
    · exact absurd hx hn
    · simp at hx; exact absurd hx ht
theorem WayR.step {l : List Term} {t y : Term} {ys m m' : List Term} (h : WayR l t ys m) (k : WithR m y m') : WayR l t (ys ++ [y]) m' := by
  refine ⟨fun x hx => k.sub _ (h.sub _ hx), fun hn => k.nd (h.nd hn), k.sub _ h.has, fun x hx hn => ?_, fun x hx hn ht => ?_, fun z hz => ?_⟩
  · by_cases hm : x ∈ m
    · exact h.good x hm hn
    · exact k.good x hx hm
  · by_cases hm : x ∈ m
    · exact fun y hy => k.sub _ (h.kin x hm hn ht y hy)
    · exact k.kin x hx hm
  · rcases List.mem_append.1 hz with hz | hz
    · exact k.sub _ (h.got z hz)
    · simp at hz; rw [hz]; exact k.has
theorem WayR.done {l : List Term} {t : Term} {ys m : List Term} (h : WayR l t ys m) (hk : ∀ y ∈ kinT t, y ∈ ys) : WithR l t m := by
  refine ⟨h.sub, h.nd, h.has, h.good, fun x hx hn => ?_⟩
  by_cases e : x = t
  · subst e; exact fun y hy => h.got y (hk y hy)
  · exact h.kin x hx hn e
structure OccR (K l : List Term) : Prop where
  nd : l.Nodup
  good : ∀ x ∈ l, Good x
  kin : ∀ x ∈ l, ∀ y ∈ kinT x, y ∈ l
  has : ∀ x ∈ K, x ∈ l
theorem OccR.nil : OccR [] [] := ⟨by simp, nofun, nofun, nofun⟩
theorem OccR.more {K l m : List Term} {t : Term} (h : OccR K l) (k : WithR l t m) : OccR (K ++ [t]) m := by
  refine ⟨k.nd h.nd, fun x hx => ?_, fun x hx => ?_, fun x hx => ?_⟩
  · by_cases hl : x ∈ l
    · exact h.good x hl
    · exact k.good x hx hl
  · by_cases hl : x ∈ l
    · exact fun y hy => k.sub _ (h.kin x hl y hy)
    · exact k.kin x hx hl
  · rcases List.mem_append.1 hx with hx | hx
    · exact k.sub _ (h.has x hx)
    · simp at hx; rw [hx]; exact k.has
def cnF (l : List Term) (cs : List Bool) (t : Term) : Prop := ∃ i : Nat, l[i]? = some t ∧ cs[i]? = some true
structure LeB (a b : List Bool) : Prop where
  len : a.length = b.length
  le : ∀ i : Nat, a[i]? = some true → b[i]? = some true
theorem LeB.refl (a : List Bool) : LeB a a := ⟨rfl, fun _ h => h⟩
theorem LeB.trans {a b c : List Bool} (h : LeB a b) (k : LeB b c) : LeB a c := ⟨h.len.trans k.len, fun i hi => k.le i (h.le i hi)⟩
theorem LeB.set (a : List Bool) (i : Nat) : LeB a (a.set i true) := ⟨by simp, fun j hj => by
  rw [List.getElem?_set]
  split
  · split
    · rfl
    · rename_i h1 h2; subst h1
      have := (List.getElem?_eq_some_iff.1 hj).1
      exact absurd this h2
  · exact hj⟩
theorem cn_le {l : List Term} {a b : List Bool} (h : LeB a b) {t : Term} : cnF l a t → cnF l b t := fun ⟨i, h1, h2⟩ => ⟨i, h1, h.le i h2⟩
theorem cn_set {l : List Term} {cs : List Bool} {i : Nat} {t : Term} (h : l[i]? = some t) (hl : cs.length = l.length) : cnF l (cs.set i true) t := by
  refine ⟨i, h, ?_⟩
  have := (List.getElem?_eq_some_iff.1 h).1
  rw [List.getElem?_set, if_pos rfl, if_pos (by omega)]
theorem cn_set_old {l : List Term} {cs : List Bool} {i : Nat} {t x : Term} (h : l[i]? = some t) (hx : cnF l (cs.set i true) x) : cnF l cs x ∨ x = t := by
  obtain ⟨j, h1, h2⟩ := hx
  rw [List.getElem?_set] at h2
  split at h2
  · rename_i e; subst e
    right
    rw [h] at h1
    injection h1 with h1
    exact h1.symm
  · exact .inl ⟨j, h1, h2⟩
theorem cn_at {l : List Term} (hn : l.Nodup) {cs : List Bool} {i : Nat} {t : Term} (h : l[i]? = some t) : cnF l cs t ↔ cs[i]? = some true := by
  refine ⟨fun ⟨j, h1, h2⟩ => ?_, fun h2 => ⟨i, h, h2⟩⟩
  have hi := (List.getElem?_eq_some_iff.1 h).1
  have : j = i := (List.getElem?_inj (h₀ := (List.getElem?_eq_some_iff.1 h1).1) hn).1 (h1.trans h.symm)
  rw [← this]; exact h2
def opnT (C : Term → Prop) : Term → Term → Prop
  | .mk k u _ _ ks, y => (k = 4 ∨ k = 8) ∧ y ∈ ks ∨ k = 6 ∧ C (ks.headD Wk.zeroT) ∧ y ∈ ks.drop 1 ∨ k = 7 ∧ C (secretT u) ∧ y ∈ ks
structure DoneT (C D : Term → Prop) (t : Term) : Prop where
  text : ∀ u n s ks, t = .mk 1 u n s ks → D t
  make : ∀ k u n s ks, t = .mk k u n s ks → 4 ≤ k → k ≤ 8 → (k = 8 → C (secretT u)) → (∀ y ∈ ks, C y) → D t
  opn : C t → ∀ y, opnT C t y → D y
theorem DoneT.le {C D D' : Term → Prop} {t : Term} (h : DoneT C D t) (k : ∀ t, D t → D' t) : DoneT C D' t :=
  ⟨fun u n s ks e => k _ (h.text u n s ks e), fun a u n s ks e h4 h8 hs hk => k _ (h.make a u n s ks e h4 h8 hs hk), fun hc y hy => k _ (h.opn hc y hy)⟩
structure CanR (K l : List Term) (cs : List Bool) : Prop where
  len : cs.length = l.length
  sound : ∀ t, cnF l cs t → Der K t
  known : ∀ t ∈ K, cnF l cs t
theorem CanR.set {K l : List Term} {cs : List Bool} {i : Nat} {t : Term} (h : CanR K l cs) (hi : l[i]? = some t) (hd : Der K t) : CanR K l (cs.set i true) :=
  ⟨by rw [List.length_set]; exact h.len, fun x hx => (cn_set_old hi hx).elim (h.sound x) (fun e => e ▸ hd), fun x hx => cn_le (LeB.set cs i) (h.known x hx)⟩
theorem nodup_names {l : List Term} (hg : ∀ t ∈ l, Good t) (hn : l.Nodup) : (l.map nameF).Nodup := by
  induction l with
  | nil => simp
  | cons x xs ih =>
    rw [List.nodup_cons] at hn
    rw [List.map_cons, List.nodup_cons]
    refine ⟨fun h => ?_, ih (fun t ht => hg t (by simp [ht])) hn.2⟩
    obtain ⟨y, hy, he⟩ := List.mem_map.1 h
    have := name_inj (hg y (by simp [hy])) (hg x (by simp)) he
    exact hn.1 (this ▸ hy)
theorem can_cn0 {K l : List Term} {cs : List Bool} {km : List (List UInt8 × LTerm)} (hO : OccR K l) (hd : ∀ t ∈ l, DoneT (cnF l cs) (cnF l cs) t)
    (hin : ∀ t, t ∈ l → inM km (nameF t) = true → cnF l cs t) (N : Nat) : ∀ t, cnt t ≤ N → t ∈ l → canF (inM km) t = true → cnF l cs t := by
  induction N with
  | zero => intro t h; have := cnt_pos t; omega
  | succ N ih =>
    rintro ⟨k, u, n, s, ks⟩ hN ht h
    have hg := hO.good _ ht
    have hp := plain_shape (by cases ok_of_size hg with | mk h _ => exact h)
    rw [canF] at h
    simp only [Bool.or_eq_true, Bool.and_eq_true, Bool.not_eq_true', Bool.or_eq_false_iff, decide_eq_true_eq, decide_eq_false_iff_not] at h
    rcases h with (h | rfl) | ⟨⟨h2, h3⟩, h8, hk⟩
    · exact hin _ ht h
    · exact (hd _ ht).text _ _ _ _ rfl
    · by_cases h1 : k = 1
      · subst h1; exact (hd _ ht).text _ _ _ _ rfl
      refine (hd _ ht).make k u n s ks rfl (by omega) (by omega) (fun e8 => ?_) (fun y hy => ?_)
      · have hs : secretT u ∈ l := hO.kin _ ht _ (by rw [kinT, if_pos (.inr e8)]; simp)
        exact hin _ hs (h8.resolve_left (fun h => h e8))
      · have hyl : y ∈ l := hO.kin _ ht _ (by rw [kinT]; split <;> simp [hy])
        have := cntL_mem hy
        rw [cnt] at hN
        exact ih y (by omega) hyl (canL_iff.1 hk y hy)
theorem can_cn {K l : List Term} {cs : List Bool} {km : List (List UInt8 × LTerm)} (hO : OccR K l) (hd : ∀ t ∈ l, DoneT (cnF l cs) (cnF l cs) t)
    (hin : ∀ t, t ∈ l → inM km (nameF t) = true → cnF l cs t) (t : Term) (ht : t ∈ l) (h : canF (inM km) t = true) : cnF l cs t := can_cn0 hO hd hin _ t (Nat.le_refl _) ht h
theorem full_of {K l : List Term} {cs : List Bool} (xs : List LTerm) (hx : xs.map LTerm.t = l) (hO : OccR K l) (hC : CanR K l cs) (hd : ∀ t ∈ l, DoneT (cnF l cs) (cnF l cs) t) {t : Term} (ht : t ∈ l) (h : Der K t) : cnF l cs t := by
  obtain ⟨km, hkm, hnd⟩ : ∃ km : List (List UInt8 × LTerm), (∀ s x, (s, x) ∈ km ↔ (∃ i : Nat, xs[i]? = some x ∧ cs[i]? = some true) ∧ s = nameF x.t) ∧ (km.map (·.1)).Nodup := by
    refine ⟨((xs.zip cs).filter (·.2)).map fun e => (nameF e.1.t, e.1), fun s x => ?_, ?_⟩
    · rw [List.mem_map]
      constructor
      · rintro ⟨⟨y, b⟩, h1, h2⟩
        injection h2 with h2 h3
        obtain ⟨h4, h5⟩ := List.mem_filter.1 h1
        simp only at h2 h3 h5
        subst h3 h5
        obtain ⟨i, hi⟩ := List.mem_iff_getElem?.1 h4
        rw [List.getElem?_zip_eq_some] at hi
        exact ⟨⟨i, hi.1, hi.2⟩, h2.symm⟩
      · rintro ⟨⟨i, h1, h2⟩, rfl⟩
        refine ⟨(x, true), List.mem_filter.2 ⟨?_, rfl⟩, rfl⟩
        exact List.mem_iff_getElem?.2 ⟨i, by rw [List.getElem?_zip_eq_some]; exact ⟨h1, h2⟩⟩
    · have hs : ((((xs.zip cs).filter (·.2)).map fun e => (nameF e.1.t, e.1)).map (·.1)).Sublist (l.map nameF) := by
        rw [List.map_map, ← hx, List.map_map]
        have e1 : xs.map (nameF ∘ LTerm.t) = (xs.zip cs).map fun e => nameF e.1.t := by
          have hl : xs.length = cs.length := by rw [hC.len, ← hx, List.length_map]
          have : (xs.zip cs).map Prod.fst = xs := List.map_fst_zip (by omega)
          rw [← this, List.map_map]
          simp only [this]
          rfl
        rw [e1]
        exact List.filter_sublist.map _
      exact hs.nodup (nodup_names hO.good hO.nd)
  have toC : ∀ e ∈ km, cnF l cs e.2.t ∧ e.1 = nameF e.2.t ∧ e.2.t ∈ l := fun e he => by
    obtain ⟨s, x⟩ := e
    obtain ⟨⟨i, h1, h2⟩, h3⟩ := (hkm s x).1 he
    have h4 : l[i]? = some x.t := by rw [← hx, List.getElem?_map, h1]; rfl
    exact ⟨⟨i, h4, h2⟩, h3, List.mem_of_getElem? h4⟩
  have ofC : ∀ t, cnF l cs t → inM km (nameF t) = true := fun t ⟨i, h1, h2⟩ => by
    rw [← hx, List.getElem?_map] at h1
    obtain ⟨x, hx1, hx2⟩ := Option.map_eq_some_iff.1 h1
    exact inM_iff.2 ⟨(nameF x.t, x), (hkm _ _).2 ⟨⟨i, hx1, h2⟩, rfl⟩, by rw [← hx2]⟩
  have hin : ∀ t, t ∈ l → inM km (nameF t) = true → cnF l cs t := fun t ht h => by
    obtain ⟨e, he, h1⟩ := inM_iff.1 h
    obtain ⟨h2, h3, h4⟩ := toC e he
    rw [h3] at h1
    rw [← name_inj (hO.good _ h4) (hO.good _ ht) h1]; exact h2
  have hcan := can_cn hO hd hin
  have A : Apart K km := by
    refine ⟨fun e he => (toC e he).2.1, fun e he => ?_, fun t ht => ofC t (hC.known t ht), fun e he y hy => ?_, hnd⟩
    · obtain ⟨h1, _, h3⟩ := toC e he
      exact ⟨hO.good _ h3, hC.sound _ h1⟩
    · obtain ⟨h1, _, h3⟩ := toC e he
      generalize e.2.t = z at h1 h3 hy
      obtain ⟨k, u, n, s, ks⟩ := z
      have hg := hO.good _ h3
      have hp := plain_shape (by cases ok_of_size hg with | mk h _ => exact h)
      have hk : ∀ y ∈ ks, y ∈ l := fun y hy => hO.kin _ h3 _ (by rw [kinT]; split <;> simp [hy])
      refine ofC y ((hd _ h3).opn h1 y ?_)
      rw [givesT] at hy
      split at hy
      · rename_i h4; exact .inl ⟨h4, hy⟩
      · split at hy
        · rename_i h6
          split at hy
          · rename_i hc
            refine .inr (.inl ⟨h6, hcan _ (hk _ ?_) hc, hy⟩)
            cases ks with
            | nil => simp at hy
            | cons a b => simp
          · cases hy
        · split at hy
          · rename_i h7
            split at hy
            · rename_i hc
              exact .inr (.inr ⟨h7, hin _ (hO.kin _ h3 _ (by rw [kinT, if_pos (.inl h7)]; simp)) hc, hy⟩)
            · cases hy
          · cases hy
  exact hcan t ht (der_can A h)
theorem opn_le {C D : Term → Prop} (h : ∀ t, C t → D t) {t y : Term} (k : opnT C t y) : opnT D t y := by
  obtain ⟨a, u, n, s, ks⟩ := t
  rcases k with k | ⟨k1, k2, k3⟩ | ⟨k1, k2, k3⟩
  · exact .inl k
  · exact .inr (.inl ⟨k1, h _ k2, k3⟩)
  · exact .inr (.inr ⟨k1, h _ k2, k3⟩)
theorem opn_der {K : List Term} {C : Term → Prop} (h : ∀ t, C t → Der K t) {t y : Term} (k : opnT C t y) (hd : Der K t) : Der K y := by
  obtain ⟨a, u, n, s, ks⟩ := t
  rcases k with ⟨k1, k2⟩ | ⟨k1, k2, k3⟩ | ⟨k1, k2, k3⟩
  · exact .part k1 hd k2
  · subst k1
    cases ks with
    | nil => simp at k3
    | cons key ks => exact .unlock hd (h _ k2) (by simpa using k3)
  · subst k1; exact .open7 hd (h _ k2) k3
theorem turn_of {l : List Term} {a c0 c1 c2 c3 c4 : List Bool} {x : LTerm} (h0 : LeB a c0) (h1 : LeB c0 c1) (h2 : LeB c1 c2) (h3 : LeB c2 c3) (h4 : LeB c3 c4) (t1 : x.kind = 1 → cnF l c1 x.t)
    (t2 : 4 ≤ x.kind → x.kind ≤ 7 → (∀ y ∈ x.kids, cnF l c1 y.t) → cnF l c2 x.t) (t3 : x.kind = 8 → (∀ y ∈ x.kids, cnF l c2 y.t) → cnF l c2 (secretT x.user) → cnF l c3 x.t)
    (t4 : ∀ y, opnT (cnF l c3) x.t y → cnF l c3 x.t → cnF l c4 y) : DoneT (cnF l a) (cnF l c4) x.t := by
  have e := x.t_eq
  have k1 : ∀ {t}, cnF l a t → cnF l c1 t := fun h => cn_le (h0.trans h1) h
  refine ⟨fun u n s ks h => ?_, fun k u n s ks h g4 g8 hs hk => ?_, fun hc y hy => ?_⟩
  · rw [e] at h
    injection h with h
    exact cn_le (h2.trans (h3.trans h4)) (t1 h)
  · rw [e] at h
    injection h with q1 q2 q3 q4 q5
    subst q1 q2
    have hk' : ∀ y ∈ x.kids, cnF l a y.t := fun y hy => hk _ (by rw [← q5]; exact List.mem_map.2 ⟨y, hy, rfl⟩)
    by_cases h7 : x.kind ≤ 7
    · exact cn_le (h3.trans h4) (t2 g4 h7 fun y hy => k1 (hk' y hy))
    · have h8 : x.kind = 8 := by omega
      exact cn_le h4 (t3 h8 (fun y hy => cn_le h2 (k1 (hk' y hy))) (cn_le h2 (k1 (hs h8))))
  · have k3 : ∀ t, cnF l a t → cnF l c3 t := fun t h => cn_le (h2.trans h3) (k1 h)
    exact t4 y (opn_le k3 hy) (k3 _ hc)
theorem opens_of {C : Term → Prop} {x : LTerm} {o2 o3 : Bool} {fst : Nat} (hf1 : fst ≤ 1) (hf6 : fst = 1 → x.kind = 6) (ho2 : o2 = true ↔ x.kind = 4 ∨ x.kind = 8 ∨ (x.kind = 6 ∧ C ((x.kids.map LTerm.t).headD Wk.zeroT)))
    (hof : o2 = true → x.kind = 6 → fst = 1) (ho3 : o3 = true ↔ o2 = true ∨ (x.kind = 7 ∧ C (secretT x.user))) :
    (∀ y, opnT C x.t y → o3 = true ∧ ∃ j, fst ≤ j ∧ j < x.kids.length ∧ (nthL x.kids j).t = y) ∧ (o3 = true → ∀ j, fst ≤ j → j < x.kids.length → opnT C x.t (nthL x.kids j).t) := by
  have hidx : ∀ y ∈ x.kids.map LTerm.t, ∃ j, j < x.kids.length ∧ (nthL x.kids j).t = y := fun y hy => by
    obtain ⟨z, hz, rfl⟩ := List.mem_map.1 hy
    obtain ⟨j, hj, rfl⟩ := List.mem_iff_getElem.1 hz
    exact ⟨j, hj, by simp [nthL, hj]⟩
  rw [x.t_eq]
  constructor
  · rintro y (⟨h1, h2⟩ | ⟨h1, h2, h3⟩ | ⟨h1, h2, h3⟩)
    · obtain ⟨j, hj, he⟩ := hidx y h2
      exact ⟨ho3.2 (.inl (ho2.2 (by omega))), j, by omega, hj, he⟩
    · have ht : o2 = true := ho2.2 (.inr (.inr ⟨h1, h2⟩))
      have hf := hof ht h1
      refine ⟨ho3.2 (.inl ht), ?_⟩
      rw [← List.map_drop] at h3
      obtain ⟨z, hz, rfl⟩ := List.mem_map.1 h3
      obtain ⟨j, hj, rfl⟩ := List.mem_iff_getElem.1 hz
      have hj' : 1 + j < x.kids.length := by rw [List.length_drop] at hj; omega
      exact ⟨1 + j, by omega, hj', by rw [List.getElem_drop]; simp [nthL, hj']⟩
    · obtain ⟨j, hj, he⟩ := hidx y h3
      exact ⟨ho3.2 (.inr ⟨h1, h2⟩), j, by omega, hj, he⟩
  · intro h j hfj hj
    have hm : (nthL x.kids j).t ∈ x.kids.map LTerm.t := List.mem_map.2 ⟨_, nth_mem hj, rfl⟩
    rcases ho3.1 h with h | ⟨h1, h2⟩
    · rcases ho2.1 h with h1 | h1 | ⟨h1, h2⟩
      · exact .inl ⟨.inl h1, hm⟩
      · exact .inl ⟨.inr h1, hm⟩
      · have hf := hof h h1
        refine .inr (.inl ⟨h1, h2, ?_⟩)
        rw [← List.map_drop]
        refine List.mem_map.2 ⟨_, ?_, rfl⟩
        exact List.mem_of_getElem? (i := j - 1) (by rw [List.getElem?_drop, show 1 + (j - 1) = j from by omega]; exact nth_get hj)
    · exact .inr (.inr ⟨h1, h2, hm⟩)
theorem OccR.left {K M l : List Term} (h : OccR (K ++ M) l) : OccR K l := ⟨h.nd, h.good, h.kin, fun x hx => h.has _ (List.mem_append_left _ hx)⟩
theorem LeB.count {a b : List Bool} (h : LeB a b) : a = b ∨ a.count true < b.count true := by
  obtain ⟨hl, hle⟩ := h
  induction a generalizing b with
  | nil => exact .inl (List.length_eq_zero_iff.1 hl.symm).symm
  | cons x xs ih =>
    cases b with
    | nil => simp at hl
    | cons y ys =>
      have h0 := hle 0
      simp only [List.getElem?_cons_zero, Option.some.injEq] at h0
      have h1 := ih (b := ys) (by simpa using hl) (fun i hi => by have := hle (i + 1); simp only [List.getElem?_cons_succ] at this; exact this hi)
      cases x <;> cases y <;> simp at h0 ⊢ <;> rcases h1 with h1 | h1
      · exact .inl h1
      · exact .inr h1
      · subst h1; omega
      · omega
      · exact .inl h1
      · exact .inr (by omega)
def FullB (K l : List Term) (cs : List Bool) : Prop := ∀ t ∈ l, Der K t → cnF l cs t
theorem round_of {K l : List Term} {a b : List Bool} (xs : List LTerm) (hx : xs.map LTerm.t = l) (hO : OccR K l) (hC : CanR K l b) (hle : LeB a b) (hd : ∀ i < l.length, ∀ t, l[i]? = some t → DoneT (cnF l a) (cnF l b) t) {r : Nat} (h : r ≤ a.count true ∨ FullB K l a) : r + 1 ≤ b.count true ∨ FullB K l b := by
  rcases h with h | h
  · rcases hle.count with rfl | hc
    · refine .inr fun t ht hD => full_of xs hx hO hC (fun t ht => ?_) ht hD
      obtain ⟨i, hi⟩ := List.mem_iff_getElem?.1 ht
      exact hd i (List.getElem?_eq_some_iff.1 hi).1 t hi
    · exact .inl (by omega)
  · exact .inr fun t ht hD => cn_le hle (h t ht hD)
theorem full_end {K l : List Term} {b : List Bool} {r : Nat} (hC : CanR K l b) (h : r ≤ b.count true ∨ FullB K l b) (hr : l.length < r) : FullB K l b := by
  rcases h with h | h
  · have := List.count_le_length (a := true) (l := b)
    have := hC.len
    omega
  · exact h
theorem reckon {K l : List Term} {cs : List Bool} (hO : OccR K l) (hC : CanR K l cs) (hF : FullB K l cs) {i : Nat} {t : Term} (h : l[i]? = some t) : cs[i]? = some (derB K t) := by
  have hi := (List.getElem?_eq_some_iff.1 h).1
  have hci : i < cs.length := by rw [hC.len]; exact hi
  cases hb : derB K t with
  | true => exact (cn_at hO.nd h).1 (hF t (List.mem_of_getElem? h) (derB_iff.1 hb))
  | false =>
    rw [List.getElem?_eq_getElem hci]
    cases hc : cs[i] with
    | false => rfl
    | true =>
      have := derB_iff.2 (hC.sound t ⟨i, h, by rw [List.getElem?_eq_getElem hci, hc]⟩)
      rw [hb] at this; cases this
inductive Hid (N : Term → Prop) : Term → Prop where
  | mk {k u n : Int} {s : List UInt8} {ks : List Term} (h1 : ¬ N (.mk k u n s ks)) (h2 : (k = 4 ∨ k = 8) → ∀ t ∈ ks, Hid N t) (h6 : k = 6 → ∀ key rest, ks = key :: rest → ¬ N key → ∀ t ∈ rest, Hid N t)
      (h7 : k = 7 → ¬ N (secretT u) → ∀ t ∈ ks, Hid N t) : Hid N (.mk k u n s ks)
theorem Hid.no {N : Term → Prop} {t : Term} (h : Hid N t) : ¬ N t := by cases h; assumption
def Shut (N : Term → Prop) : Prop := ∀ k u n s ks, N (.mk k u n s ks) → k ≠ 1 ∧ (k = 2 ∨ k = 3 ∨ (k = 8 ∧ N (secretT u)) ∨ ∃ t ∈ ks, N t)
theorem hid_der {N : Term → Prop} (hN : Shut N) {K : List Term} (hK : ∀ t ∈ K, Hid N t) {t : Term} (h : Der K t) : Hid N t := by
  induction h with
  | known h => exact hK _ h
  | text => exact .mk (fun hn => (hN _ _ _ _ _ hn).1 rfl) (fun h => by omega) (fun h => by omega) (fun h => by omega)
  | @make k u n s ks h2 h3 _ _ ih8 ihk =>
    refine .mk (fun hn => ?_) (fun _ t ht => ihk t ht) (fun _ key rest he _ t ht => ihk t (by simp [he, ht])) (fun _ _ t ht => ihk t ht)
    rcases (hN _ _ _ _ _ hn).2 with q | q | ⟨q, q2⟩ | ⟨t, ht, q⟩
    · exact h2 q
    · exact h3 q
    · exact (ih8 q).no q2
    · exact (ihk t ht).no q
  | part hk _ ht ih => cases ih with | mk _ h2 _ _ => exact h2 hk _ ht
  | unlock _ _ ht ih1 ih2 => cases ih1 with | mk _ _ h6 _ => exact h6 rfl _ _ rfl ih2.no _ ht
  | open7 _ _ ht ih1 ih2 => cases ih1 with | mk _ _ _ h7 => exact h7 rfl ih2.no _ ht
theorem not_der_of {N : Term → Prop} (hN : Shut N) {K : List Term} (hK : ∀ t ∈ K, Hid N t) {t : Term} (ht : N t) : ¬ Der K t := fun h => (hid_der hN hK h).no ht
inductive Occ (a : Term) : Term → Prop where
  | here : Occ a a
  | kid {k u n : Int} {s : List UInt8} {ks : List Term} {t : Term} (ht : t ∈ ks) (h : Occ a t) : Occ a (.mk k u n s ks)
section
variable {K : List Term} {x m : Int}
end
theorem cnt_kids (t : LTerm) : cnt t.t = 1 + cntL (t.kids.map LTerm.t) := by rw [t.t_eq, cnt]
theorem can_der0 {K : List Term} {t : Term} (hl : K.length ≤ 500) (hK : ∀ t ∈ K, Good t) (ht : Good t) : chkF K [t] = 0 ∧ canB K t = derB K t := by
  have h : chkF K [t] = 0 := chk_zero.2 ⟨hl, fun x hx => by
    rcases List.mem_append.1 hx with hx | hx
    · exact hK x hx
    · obtain rfl := List.mem_singleton.1 hx; exact ht⟩
  exact ⟨h, by rw [canB, if_pos h]⟩
theorem encL_set (ys : List LTerm) (i : Nat) (x : LTerm) (h : i < ys.length) : (encL ys).take (i * 5) ++ x.cells ++ (encL ys).drop (i * 5 + x.cells.length) = encL (ys.set i x) := by
  have e1 : (encL ys).take (i * 5) = encL (ys.take i) := encL_take ys i
  rw [show i * 5 + x.cells.length = (i + 1) * 5 from by simp; omega, encL_drop ys (i + 1) (by omega), e1, ← encT_cells, ← encL_append, ← encL_append, List.set_eq_take_append_cons_drop, if_pos h]
  simp
end Go.Proofs.Ytibkkbknnfehlaa
namespace Go.Wk
open Go Go.Deep Go.ChangeShapes Go.WideShapes Go.ChangeAt Go.RowKit
section
variable {H : Type} {enc : TypeId × Value → H} {P : Program} {w : World} {base : Nat} {spare : Nat → Bool} {held : Bool} {L : TypeId}
theorem terms_of_trod {T : TypeId} [hT : TermTy P T] (hL : P.underlying L = some (.slice T)) {fuel : Nat} {cs : List Value} {x : DataW H × List MemPlace} (h : DataW.trod enc P w base spare held fuel L cs = some x) :
    ∃ (p : Option Addr) (c : Nat) (ts : List LTerm), cs = [.slice p ts.length c] ∧ ts.length ≤ c ∧ c ≤ maxLen ∧ LsIn w p 0 ts := by
  obtain ⟨fs, I, S, L', hu, hf, hI, hS, hL', c1, c2, c3, c4⟩ := hT.ex
  rcases DataW.trod_slice hL h with ⟨e4, _⟩ | ⟨ad, len, cap, elems, rest, n', rfl, e4, _, _, hlc, hcm, hel, hem, _, _⟩
  · exact ⟨none, 0, [], by simpa using e4, Nat.le_refl _, Nat.zero_le _, by simp [LsIn]⟩
  · subst e4
    obtain ⟨g, hg⟩ := choose_lt (α := LTerm) (p := fun i t => w.cells? base (ad.add (i * 5)) 5 = some t.cells ∧ LtIn w t) (n := len) (fun i hi => by
      have h1 := hem i hi
      rw [c1, List.getElem?_eq_getElem (by omega)] at h1
      obtain ⟨cs', h2, h3⟩ := Option.bind_eq_some_iff.1 h1
      obtain ⟨t, rfl, ht⟩ := term_of_trod n' cs' _ h3
      exact ⟨t, h2, ht⟩)
    refine ⟨some ad, cap, (List.range len).map g, by simp, by simpa using hlc, hcm, ?_⟩
    refine LsIn.of_all fun i t ht => ?_
    have hi : i < len := by
      rcases Nat.lt_or_ge i len with h | h
      · exact h
      · rw [List.getElem?_eq_none (by simpa using h)] at ht; cases ht
    have : t = g i := by simpa [hi] using ht.symm
    subst this
    obtain ⟨hc, hin⟩ := hg i hi
    refine ⟨fun j v hj => ?_, hin⟩
    obtain ⟨_, _, h5⟩ := World.cells?_some hc
    have hj5 : j < 5 := by
      have := (List.getElem?_eq_some_iff.1 hj).1
      simpa [LTerm.cells] using this
    have := h5 j hj5
    rw [Go.Deep.add_add, hj] at this
    simpa using this
theorem terms_of_Trod {T : TypeId} [hT : TermTy P T] (hL : P.underlying L = some (.slice T)) {v : Value} {d : DataW H} {p : List MemPlace} {r : Reach} {W : World} {base' : Nat} (h : DataW.Trod enc P w base spare held L v d p) (hv : Value.okWide P W r base' L v) :
    ∃ (p : Option Addr) (c : Nat) (ts : List LTerm), v = .slice p ts.length c ∧ ts.length ≤ c ∧ c ≤ maxLen ∧ LsIn w p 0 ts := by
  obtain ⟨a, len, cap, rfl⟩ := okWide_slice hL hv
  obtain ⟨fuel, hf⟩ := h
  obtain ⟨p, c, ts, e, h1, h2, h3⟩ := terms_of_trod hL hf
  have e' : a = p ∧ len = ts.length ∧ cap = c := by simpa [Value.cells] using e
  obtain ⟨rfl, rfl, rfl⟩ := e'
  exact ⟨_, _, ts, rfl, h1, h2, h3⟩
end
theorem LsIn.stable {w : World} {p : Option Addr} {i : Nat} {ts : List LTerm} (h : LsIn w p i ts) : Stable (fun _ => False) w (LsF p i ts) := fun w' hw' => LsIn.mono (fun _ _ hc => cell_agree hw' hc) ts h
section
variable {w0 : World} {M0 : Nat → Prop} {ds : List Deferred} {a : Act} {w : World} {l : List Value} {bs : List Item} {fs : List (World → Prop)}
theorem St.boxLs {b : Nat} {T : TypeId} (ts : List LTerm) {cs : List Value} (S : St w0 M0 ds a w l (Wk.box b T cs :: bs) fs) (hc : cs = ts.flatMap LTerm.cells) (h : ∀ t ∈ ts, Stable (foots (Wk.box b T cs :: bs)) w (LtF t)) : St w0 M0 ds a w l bs (LsF (some ⟨b, 0, none⟩) 0 ts :: fs) := by
  subst hc
  have hb : w.heap[b]? = some (.cells (ts.flatMap LTerm.cells).toArray T (0, 0)) := S.wd.held _ (List.mem_cons_self ..)
  have hap := (List.pairwise_cons.1 S.wd.apart).1
  have S' : St w0 M0 ds a w l bs fs := ⟨S.slots, S.defers, S.wd.sub (List.sublist_cons_self ..) (List.Sublist.refl _)⟩
  refine S'.add fun w' hw' => LsIn.of_block (t := T) ts ?_ fun x hx => (h x hx).less (fun k _ ⟨it, hi, hk⟩ => ⟨it, List.mem_cons_of_mem _ hi, hk⟩) w' hw'
  rw [hw'.blk (Array.getElem?_eq_some_iff.1 hb).1 (fun ⟨it, hi, hk⟩ => hap it hi b rfl hk)]
  exact hb
theorem own_le {w : World} {e : TypeId} {sz : Nat} {p : Option Addr} {n c : Nat} {xs : List Value} (h : w.ownsRow 0 e sz (.slice p n c) n xs) : n ≤ c := by
  rcases h.2 with ⟨hv, h0⟩ | ⟨g, cap, cur, hv, hb, hg, hnc, hcm, hcs, ht⟩
  · omega
  · cases hv; exact hnc
theorem St.rowLs {p : Option Addr} {n c : Nat} {e : TypeId} {xs : List LTerm} (S : St w0 M0 ds a w l (Wk.row e 5 p n c (encL xs) :: bs) fs) (h : ∀ t ∈ xs, Stable (foots bs) w (LtF t)) : St w0 M0 ds a w l bs (LsF p 0 xs :: fs) := by
  have hrow : w.ownsRow 0 e 5 (.slice p n c) n (encL xs) := S.wd.held _ (List.mem_cons_self ..)
  have hap := (List.pairwise_cons.1 S.wd.apart).1
  have S' : St w0 M0 ds a w l bs fs := ⟨S.slots, S.defers, S.wd.sub (List.sublist_cons_self ..) (List.Sublist.refl _)⟩
  exact S'.add (ls_of_own hrow h fun ad hp ⟨it, hi, hk⟩ => hap it hi ad.block ⟨ad, hp, rfl⟩ hk)
end
def AllL (L : List LTerm) : World → Prop := fun w => ∀ x ∈ L, LtIn w x
theorem AllL.stable {M : Nat → Prop} {w : World} {L : List LTerm} (h : ∀ x ∈ L, Stable M w (LtF x)) : Stable M w (AllL L) := fun w' hw x hx => h x hx w' hw
theorem AllL.get {M : Nat → Prop} {w : World} {L : List LTerm} (h : Stable M w (AllL L)) {x : LTerm} (hx : x ∈ L) : Stable M w (LtF x) := fun w' hw => h w' hw x hx
theorem Wd.mpLent {w : World} {b : Nat} {kv : List (List UInt8 × Value)} {fs : List (World → Prop)} (h : (mp b kv).holds w) (hf : ∀ Φ ∈ fs, Stable (fun k => k = b) w Φ) : Wd w (fun k => k = b) w [mp b kv] fs := by
  refine ⟨Agree.refl _ _, ?_, ?_, ?_, by simp, ?_, ?_⟩
  · intro it hi; obtain rfl := List.mem_singleton.1 hi; exact h
  · intro it hi; obtain rfl := List.mem_singleton.1 hi; exact mp_lt h
  · intro it hi _ k hk; obtain rfl := List.mem_singleton.1 hi; exact .inl hk
  · intro Φ hΦ
    refine (hf Φ hΦ).less fun k _ hk => ?_
    obtain ⟨it, hi, hk⟩ := hk
    obtain rfl := List.mem_singleton.1 hi; exact hk
  · intro it hi; obtain rfl := List.mem_singleton.1 hi; exact mp_loc _ _
def nthI (ys : List Int) (k : Nat) : Int := ys.getD k 0
theorem nthI_get {ys : List Int} {k : Nat} (h : k < ys.length) : ys[k]? = some (nthI ys k) := by simp [nthI, h]
theorem encI_get {ys : List Int} {k : Nat} (h : k < ys.length) : (encL ys)[k]? = some (.int .i64 (nthI ys k)) := by
  have := encL_get ys k _ (nthI_get h) 0 Nat.zero_lt_one
  simpa [Enc.sz, Enc.cells] using this
theorem SlF.take {p : Option Addr} {ys : List Int} (m : Nat) {w : World} (h : SlF p (encL ys) w) : SlF p (encL (ys.take m)) w := by
  rw [← encL_take ys m]
  refine ⟨fun hp => by rw [h.1 hp]; simp, fun ad hp j u hj => h.2 ad hp j u ?_⟩
  rw [List.getElem?_take] at hj
  split at hj
  · exact hj
  · cases hj
theorem SlF.nil {p : Option Addr} {w : World} : SlF p [] w := ⟨fun _ => rfl, fun _ _ j u hj => by simp at hj⟩
section
variable {P : Program} {l lc : Cx} {bs : List Item} {fs : List (World → Prop)} {x y : Operand} {p : Option Addr} {n c k : Nat} {kk : IntKind} {m : Int} {ys : List Int} {t ty e : TypeId} {z : Value} {by_ : Nat}
instance (priority := 869) srcSlI {tx e : TypeId} {p : Option Addr} {m c : Nat} {ys : List Int} {bs : List Item} {fs : List (World → Prop)} [h : Und P tx (.slice e)] [hr : HasSl fs p (encL ys)] [hn : LenN ys m] : SrcV P tx (.slice p m c) bs fs 1 m (encL ys) := ⟨fun w mm =>
  src_sl h.eq (mm.facts _ hr.mem).now (by rw [encL_len, hn.eq]; rfl) (encL_one ys) (by decide)⟩
theorem sl_some {w : World} (h : SlF p (encL ys) w) (hk : k < ys.length) : ∃ ad, p = some ad := by
  cases hp : p with
  | some ad => exact ⟨ad, rfl⟩
  | none =>
    have h1 := congrArg List.length (h.1 hp)
    rw [encL_len] at h1
    have h2 : ys.length * 1 = 0 := h1
    omega
instance (priority := 890) opIdxS [Ev lc x (.slice p n c)] [Ev lc y (.int kk m)] [Und P t (.slice e)] [TI P e z 1 by_] [hm : IsNat m k] [hs : HasSl fs p (encL ys)] [hn : LenN ys n] [hk : KLt k n] :
    OpQ P (.indexAddr t x y) ty lc bs fs (.pointer (some (rAddr p k))) := ⟨fun ρ w h mm => by
  have hlt := hk.lt
  obtain ⟨ad, rfl⟩ := sl_some (mm.facts _ hs.mem).now (by rw [hn.eq]; exact hlt)
  have h2 := hm.eq
  subst h2
  simp [xop, execOp, h.ev (x := x) (v := .slice (some ad) n c), h.ev (x := y) (v := .int kk (k : Int))]
  simp [run_indexAt (P := P) (t := t) (e := e) (z := z) (sz := 1) (by_ := by_) (Int.natCast_nonneg k) (Int.ofNat_lt.2 hlt), rAddr]⟩
instance (priority := 790) opLoadSI [Ev l x (.pointer (some (rAddr p k)))] [ha : AggT P t false] [hs : HasSl fs p (encL ys)] [hk : KLt k ys.length] : OpQ P (.load t x) ty l bs fs (.int .i64 (nthI ys k)) := ⟨fun ρ w h m => by
  have hsl := (m.facts _ hs.mem).now
  obtain ⟨ad, rfl⟩ := sl_some hsl hk.lt
  have hc : w.cell? (rAddr (some ad) k) = some (.int .i64 (nthI ys k)) := hsl.2 ad rfl k _ (encI_get hk.lt)
  simp [xop, execOp, Instr.loadAt, h.ev (x := x) (v := .pointer (some (rAddr (some ad) k))), Instr.sureAddr, loadVar, Sem.run_bind, ha.run, load, Sem.run, hc]⟩
end
class Lay (α : Type) extends Enc α where
  dflt : α
  inn : World → α → Prop
  mono : ∀ (w w' : World) (x : α), (∀ ad v, w.cell? ad = some v → w'.cell? ad = some v) → inn w x → inn w' x
instance layI : Lay Int := { encI with dflt := 0, inn := fun _ _ => True, mono := fun _ _ _ _ h => h }
instance layS : Lay (List UInt8) := { encS with dflt := [], inn := fun _ _ => True, mono := fun _ _ _ _ h => h }
instance layT : Lay LTerm := { encT with dflt := zeroL, inn := LtIn, mono := fun _ _ x h hx => LtIn.mono h x hx }
instance encBo : Enc Bool := ⟨1, fun b => [.bool b], fun _ => rfl, fun x u hu => by obtain rfl := List.mem_singleton.1 hu; rfl⟩
instance layBo : Lay Bool := { encBo with dflt := false, inn := fun _ _ => True, mono := fun _ _ _ _ h => h }
instance layB : Lay UInt8 := { encB with dflt := 0, inn := fun _ _ => True, mono := fun _ _ _ _ h => h }
def InF {α : Type} [Lay α] (x : α) : World → Prop := fun w => Lay.inn w x
def GlF {α : Type} [Lay α] (p : Option Addr) (xs : List α) : World → Prop := fun w => SlF p (encL xs) w ∧ ∀ x ∈ xs, Lay.inn w x
def nthG {α : Type} [Lay α] (xs : List α) (k : Nat) : α := xs.getD k Lay.dflt
theorem nthG_get {α : Type} [Lay α] {xs : List α} {k : Nat} (h : k < xs.length) : xs[k]? = some (nthG xs k) := by simp [nthG, h]
theorem nthG_take {α : Type} [Lay α] {xs : List α} {k : Nat} (h : k < xs.length) : xs.take (k + 1) = xs.take k ++ [nthG xs k] := by
  rw [List.take_add_one, nthG_get h]; rfl
def gAddr (p : Option Addr) (k sz off : Nat) : Addr := (p.getD ⟨0, 0, none⟩).add (k * sz + off)
structure Sl (α : Type) where
  p : Option Addr
  cap : Nat
  xs : List α
abbrev Sl.v {α : Type} (s : Sl α) : Value := .slice s.p s.xs.length s.cap
instance encSl {α : Type} : Enc (Sl α) := ⟨1, fun s => [s.v], fun _ => rfl, fun x u hu => by obtain rfl := List.mem_singleton.1 hu; rfl⟩
theorem SlF.mono {p : Option Addr} {xs : List Value} {w w' : World} (h : ∀ ad v, w.cell? ad = some v → w'.cell? ad = some v) (hs : SlF p xs w) : SlF p xs w' := ⟨hs.1, fun ad hp j u hj => h _ _ (hs.2 ad hp j u hj)⟩
theorem GlF.mono {α : Type} [Lay α] {p : Option Addr} {xs : List α} {w w' : World} (h : ∀ ad v, w.cell? ad = some v → w'.cell? ad = some v) (hs : GlF p xs w) : GlF p xs w' := ⟨hs.1.mono h, fun x hx => Lay.mono w w' x h (hs.2 x hx)⟩
instance laySl {α : Type} [Lay α] : Lay (Sl α) := { encSl with
  dflt := ⟨none, 0, []⟩
  inn := fun w s => s.xs.length ≤ s.cap ∧ s.cap ≤ maxLen ∧ GlF s.p s.xs w
  mono := fun _ _ _ h hx => ⟨hx.1, hx.2.1, hx.2.2.mono h⟩ }
theorem GlF.stable {α : Type} [Lay α] {w : World} {p : Option Addr} {xs : List α} (h : GlF p xs w) : Stable (fun _ => False) w (GlF p xs) := fun _ hw' => h.mono fun _ _ hc => cell_agree hw' hc
theorem gl_nil {α : Type} [Lay α] {w : World} {p : Option Addr} : GlF (α := α) p [] w := ⟨SlF.nil, fun _ h => by cases h⟩
theorem gl_some {α : Type} [Lay α] {w : World} {p : Option Addr} {xs : List α} (h : GlF p xs w) {k : Nat} (hk : k < xs.length) (hz : 0 < Enc.sz α) : ∃ ad, p = some ad := by
  cases hp : p with
  | some ad => exact ⟨ad, rfl⟩
  | none =>
    have h1 := congrArg List.length (h.1.1 hp)
    rw [encL_len] at h1
    have h2 : xs.length * Enc.sz α = 0 := h1
    rcases Nat.mul_eq_zero.1 h2 with h3 | h3 <;> omega
theorem gl_cell {α : Type} [Lay α] {w : World} {p : Option Addr} {xs : List α} (h : GlF p xs w) {k : Nat} (hk : k < xs.length) {j : Nat} {u : Value} (hj : (Enc.cells (nthG xs k))[j]? = some u) : w.cell? (gAddr p k (Enc.sz α) j) = some u := by
  have hjs : j < Enc.sz α := by
    have := (List.getElem?_eq_some_iff.1 hj).1
    rwa [Enc.len] at this
  obtain ⟨ad, rfl⟩ := gl_some h hk (by omega)
  exact h.1.2 ad rfl _ _ ((encL_get xs k _ (nthG_get hk) j hjs).trans hj)
theorem gl_ls {w : World} {p : Option Addr} {xs : List LTerm} (h : GlF p xs w) : LsF p 0 xs w := by
  cases hp : p with
  | none =>
    have := h.1.1 hp
    cases xs with
    | nil => trivial
    | cons x xs => simp [encL, Enc.cells] at this
  | some ad =>
    subst hp
    refine LsIn.of_all fun k t hk => ⟨fun j v hj => ?_, h.2 t (List.mem_of_getElem? hk)⟩
    have hj5 : j < 5 := by
      have := (List.getElem?_eq_some_iff.1 hj).1
      simpa [LTerm.cells] using this
    have := h.1.2 ad rfl (k * 5 + j) v ((encL_get xs k t hk j hj5).trans hj)
    simpa using this
class HasG (fs : List (World → Prop)) (p : Option Addr) (α : outParam Type) (i : outParam (Lay α)) (xs : outParam (List α)) : Prop where
  of : ∀ (M : Nat → Prop) (w : World), (∀ Φ ∈ fs, Stable M w Φ) → Stable M w (GlF p xs)
instance hasg0 {α : Type} [i : Lay α] {fs : List (World → Prop)} {p : Option Addr} {xs : List α} : HasG (GlF p xs :: fs) p α i xs := ⟨fun _ _ h => h _ (by simp)⟩
instance (priority := 900) hasgS {α : Type} {i : Lay α} {fs : List (World → Prop)} {Φ : World → Prop} {p : Option Addr} {xs : List α} [h : HasG fs p α i xs] : HasG (Φ :: fs) p α i xs := ⟨fun M w hf => h.of M w fun Ψ hΨ => hf Ψ (by simp [hΨ])⟩
class HasGx (fs : List (World → Prop)) {α : Type} [Lay α] (xs : List α) : Prop where
  of : ∀ (M : Nat → Prop) (w : World), (∀ Φ ∈ fs, Stable M w Φ) → ∃ p, Stable M w (GlF p xs)
instance hasgx0 {α : Type} [i : Lay α] {fs : List (World → Prop)} {p : Option Addr} {xs : List α} : HasGx (GlF p xs :: fs) xs := ⟨fun _ _ h => ⟨p, h _ (by simp)⟩⟩
instance (priority := 900) hasgxS {α : Type} [i : Lay α] {fs : List (World → Prop)} {Φ : World → Prop} {xs : List α} [h : HasGx fs xs] : HasGx (Φ :: fs) xs := ⟨fun M w hf => h.of M w fun Ψ hΨ => hf Ψ (by simp [hΨ])⟩
class HasI (fs : List (World → Prop)) {α : Type} [Lay α] (x : α) : Prop where
  of : ∀ (M : Nat → Prop) (w : World), (∀ Φ ∈ fs, Stable M w Φ) → Stable M w (InF x)
instance (priority := 850) hasgI {α : Type} [i : Lay α] {fs : List (World → Prop)} {s : Sl α} [h : HasI fs s] : HasG fs s.p α i s.xs := ⟨fun M w hf => (h.of M w hf).imp fun _ h => h.2.2⟩
instance (priority := 850) hasgxI {α : Type} [i : Lay α] {fs : List (World → Prop)} {s : Sl α} [h : HasI fs s] : HasGx fs s.xs := ⟨fun M w hf => ⟨s.p, (h.of M w hf).imp fun _ h => h.2.2⟩⟩
section
variable {α : Type} [Lay α] {w0 : World} {M0 : Nat → Prop} {ds : List Deferred} {a : Act} {w : World} {l : List Value} {bs : List Item} {fs : List (World → Prop)}
theorem gl_of_own {M : Nat → Prop} {e : TypeId} {p : Option Addr} {n c sz : Nat} {xs : List α} (h : w.ownsRow 0 e sz (.slice p n c) n (encL xs)) (hk : ∀ x ∈ xs, Stable M w (InF x)) (hM : ∀ ad, p = some ad → ¬ M ad.block) : Stable M w (GlF p xs) := fun w' hw' =>
  ⟨SlF.stable (own_sl h) hM w' hw', fun x hx => hk x hx w' hw'⟩
end
class SzE (α : Type) [Lay α] (n : outParam Nat) : Prop where
  eq : Enc.sz α = n
  pos : 0 < n
instance : SzE Int 1 := ⟨rfl, by decide⟩
instance : SzE Bool 1 := ⟨rfl, by decide⟩
class CellsOf {α : Type} [Lay α] (x : α) (cs : outParam (List Value)) : Prop where eq : Enc.cells x = cs
instance {x : Int} : CellsOf x [.int .i64 x] := ⟨rfl⟩
instance {x : Bool} : CellsOf x [.bool x] := ⟨rfl⟩
section
variable {P : Program} {l : Cx} {bs : List Item} {fs : List (World → Prop)} {x y : Operand} {p : Option Addr} {n c k sz off : Nat} {kk : IntKind} {m : Int} {t ty e : TypeId} {z : Value} {by_ : Nat} {α : Type} {i : Lay α} {xs : List α}
instance (priority := 880) opIdxG [Ev l x (.slice p n c)] [Ev l y (.int kk m)] [Und P t (.slice e)] [TI P e z sz by_] [hm : IsNat m k] [hl : HasG fs p α i xs] [hs : SzE α sz] [hk : KLt k n] [hk' : KLt k xs.length] :
    OpQ P (.indexAddr t x y) ty l bs fs (.pointer (some (gAddr p k sz 0))) := ⟨fun ρ w h mm => by
  have hlt := hk.lt
  obtain ⟨ad, rfl⟩ := gl_some (hl.of _ _ mm.facts).now hk'.lt (by rw [hs.eq]; exact hs.pos)
  have h2 := hm.eq
  subst h2
  simp [xop, execOp, h.ev (x := x) (v := .slice (some ad) n c), h.ev (x := y) (v := .int kk (k : Int))]
  simp [run_indexAt (P := P) (t := t) (e := e) (z := z) (sz := sz) (by_ := by_) (Int.natCast_nonneg k) (Int.ofNat_lt.2 hlt), gAddr]⟩
theorem gl_cells {cs : List Value} {w : World} [hs : SzE α sz] (h : GlF p xs w) (hk : k < xs.length) [hc : CellsOf (nthG xs k) cs] {j : Nat} {u : Value} (hj : cs[j]? = some u) : w.cell? (gAddr p k sz j) = some u := by
  rw [← hs.eq]
  exact gl_cell h hk (by rw [hc.eq]; exact hj)
instance (priority := 780) opLoadG1 {v : Value} {cs : List Value} [Ev l x (.pointer (some (gAddr p k sz off)))] [ha : AggT P t false] [hl : HasG fs p α i xs] [hs : SzE α sz] [hk : KLt k xs.length] [hc : CellsOf (nthG xs k) cs] [hn : Nth cs off v] :
    OpQ P (.load t x) ty l bs fs v := ⟨fun ρ w h mm => by
  have h1 := gl_cells (hl.of _ _ mm.facts).now hk.lt hn.eq
  simp [xop, execOp, Instr.loadAt, h.ev (x := x) (v := .pointer (some (gAddr p k sz off))), Instr.sureAddr, loadVar, Sem.run_bind, ha.run, load, Sem.run, h1]⟩
end
class Tro (P : Program) (T : TypeId) (α : Type) [Lay α] : Prop where
  of : ∀ {H : Type} (enc : TypeId × Value → H) (w : World) (base : Nat) (spare : Nat → Bool) (held : Bool) (fuel : Nat) (cs : List Value) (x : DataW H × List MemPlace), DataW.trod enc P w base spare held fuel T cs = some x → ∃ a : α, cs = Enc.cells a ∧ Lay.inn w a
  size : P.cellsOf T = Enc.sz α
theorem troI {P : Program} {T : TypeId} (hu : P.underlying T = some (.int .i64)) (hs : P.cellsOf T = 1) : Tro P T Int := ⟨fun enc w base spare held fuel cs x h => by
  obtain ⟨k, e0, _, _⟩ := DataW.trod_int hu h
  exact ⟨k, e0, trivial⟩, hs⟩
theorem troSl {P : Program} {T L : TypeId} {α : Type} [Lay α] [hT : Tro P T α] (hu : P.underlying L = some (.slice T)) (hs : P.cellsOf L = 1) : Tro P L (Sl α) := ⟨fun enc w base spare held fuel cs x h => by
  rcases DataW.trod_slice hu h with ⟨e4, _⟩ | ⟨ad, len, cap, elems, rest, n', rfl, e4, _, _, hlc, hcm, hel, hem, _, _⟩
  · exact ⟨⟨none, 0, []⟩, e4, Nat.le_refl _, Nat.zero_le _, gl_nil⟩
  · subst e4
    have : Inhabited α := ⟨Lay.dflt⟩
    obtain ⟨g, hg⟩ := choose_lt (α := α) (p := fun i t => w.cells? base (ad.add (i * Enc.sz α)) (Enc.sz α) = some (Enc.cells t) ∧ Lay.inn w t) (n := len) (fun i hi => by
      have h1 := hem i hi
      rw [hT.size, List.getElem?_eq_getElem (by omega)] at h1
      obtain ⟨cs', h2, h3⟩ := Option.bind_eq_some_iff.1 h1
      obtain ⟨t, rfl, ht⟩ := hT.of _ _ _ _ _ _ _ _ h3
      exact ⟨t, h2, ht⟩)
    refine ⟨⟨some ad, cap, (List.range len).map g⟩, by simp [Enc.cells, Sl.v], by simpa using hlc, hcm, ⟨fun h => (by cases h), fun ad' hp j u hj => ?_⟩, fun t ht => ?_⟩
    · obtain rfl : ad = ad' := by simpa using hp
      have hjl : j < len * Enc.sz α := by
        have := (List.getElem?_eq_some_iff.1 hj).1
        rw [encL_len] at this; simpa using this
      have hz : 0 < Enc.sz α := Nat.pos_of_ne_zero fun h0 => by rw [h0] at hjl; omega
      have hi : j / Enc.sz α < len := (Nat.div_lt_iff_lt_mul hz).2 hjl
      have hm : j % Enc.sz α < Enc.sz α := Nat.mod_lt _ hz
      have hdm : j / Enc.sz α * Enc.sz α + j % Enc.sz α = j := Nat.div_add_mod' j _
      obtain ⟨hc, -⟩ := hg _ hi
      obtain ⟨_, _, h5⟩ := World.cells?_some hc
      have h6 := h5 _ hm
      have h7 := encL_get ((List.range len).map g) (j / Enc.sz α) (g (j / Enc.sz α)) (by simp [hi]) _ hm
      rw [hdm, hj] at h7
      rw [Go.Deep.add_add, hdm] at h6
      rw [h6, ← h7]
    · obtain ⟨i, hi, rfl⟩ := List.mem_map.1 ht
      exact (hg i (List.mem_range.1 hi)).2, hs⟩
theorem trod_flds {H : Type} {enc : TypeId × Value → H} {P : Program} {w : World} {base : Nat} {spare : Nat → Bool} {held : Bool} {T : TypeId} {fs : Array Field} (hu : P.underlying T = some (.struct fs)) {fuel : Nat} {cs : List Value} {x : DataW H × List MemPlace} (h : DataW.trod enc P w base spare held fuel T cs = some x) :
    cs.length = P.cellsOf T ∧ ∀ (i t o : Nat), (fs.toList.map (fun f => (f.type, f.offset)))[i]? = some (t, o) → ∃ n y, DataW.trod enc P w base spare held n t ((cs.drop o).take (P.cellsOf t)) = some y := by
  obtain ⟨xs, n, rfl, rfl, hlen, hxl, hx⟩ := DataW.trod_struct hu h
  refine ⟨hlen, fun i t o hi => ?_⟩
  rw [List.getElem?_map] at hi
  obtain ⟨f, hf1, hf2⟩ := Option.map_eq_some_iff.1 hi
  simp only [Prod.mk.injEq] at hf2
  obtain ⟨rfl, rfl⟩ := hf2
  have hlt : i < fs.size := by simpa using (List.getElem?_eq_some_iff.1 hf1).1
  have := hx i f (by simpa using hf1)
  rw [List.getElem?_eq_getElem (by omega)] at this
  exact ⟨n, _, this⟩
theorem trod_fld {H : Type} {enc : TypeId × Value → H} {P : Program} {w : World} {base : Nat} {spare : Nat → Bool} {held : Bool} {T : TypeId} {α : Type} [Lay α] [hT : Tro P T α] {n : Nat} {cs : List Value} {y : DataW H × List MemPlace} {o s : Nat} (h : DataW.trod enc P w base spare held n T ((cs.drop o).take s) = some y) (hs : s = P.cellsOf T) :
    ∃ a : α, (cs.drop o).take (Enc.sz α) = Enc.cells a ∧ Lay.inn w a := by
  subst hs
  obtain ⟨a, h1, h2⟩ := hT.of _ _ _ _ _ _ _ _ h
  exact ⟨a, by rw [← hT.size]; exact h1, h2⟩
theorem troT {P : Program} {T : TypeId} [hT : TermTy P T] : Tro P T LTerm := ⟨fun enc w base spare held fuel cs x h => term_of_trod fuel cs x h, by obtain ⟨fs, I, S, L, hu, hf, hI, hS, hL, c1, c2, c3, c4⟩ := hT.ex; exact c1⟩
theorem struct_of_Trod {P : Program} {T : TypeId} {α : Type} [Lay α] [hT : Tro P T α] {H : Type} {enc : TypeId × Value → H} {w : World} {base : Nat} {spare : Nat → Bool} {held : Bool} {fs : Array Field} (hu : P.underlying T = some (.struct fs)) {v : Value} {d : DataW H} {p : List MemPlace} {r : Reach} {W : World} {base' : Nat} (h : DataW.Trod enc P w base spare held T v d p) (hv : Value.okWide P W r base' T v) :
    ∃ a : α, v = .agg ⟨Enc.cells a⟩ ∧ Lay.inn w a := by
  obtain ⟨cs, rfl, _⟩ := okWide_struct hu hv
  obtain ⟨fuel, hf⟩ := h
  obtain ⟨a, e, ha⟩ := hT.of _ _ _ _ _ _ _ _ hf
  refine ⟨a, ?_, ha⟩
  have : cs.toList = Enc.cells a := by simpa [Value.cells] using e
  rw [← this]
open Go
class SetG (l : List Value) (ms : List (Nat × Value)) (l' : outParam (List Value)) : Prop where ok : True
instance setg0 {l : List Value} : SetG l [] l := ⟨trivial⟩
instance setg1 {u v : Value} {l l' : List Value} {ms : List (Nat × Value)} [SetG l ms l'] : SetG (u :: l) ((0, v) :: ms) (v :: l') := ⟨trivial⟩
instance setg2 {u v : Value} {g : Nat} {l l' : List Value} {ms : List (Nat × Value)} [SetG l ((g, v) :: ms) l'] : SetG (u :: l) ((g + 1, v) :: ms) (u :: l') := ⟨trivial⟩
section
variable {P : Program} {r : Option Nat} {Q : Exit → Act → World → Prop} {w0 : World} {M0 : Nat → Prop} {ds : List Deferred} {a : Act} {w : World} {l : List Value} {bs : List Item} {fs : List (World → Prop)}
theorem c_mrge0 {x y : Code}  (S : St w0 M0 ds a w l bs fs) (mods : (Nat → Value) → List (Nat × Value)) {l1 : (Nat → Value) → List Value} [∀ uu, SetG l (mods uu) (l1 uu)] (bs1 : List Item) (fs1 : List (World → Prop)) (rel : Prop)
    (hx : Wp P r x (Exit.then (fun a w => ∃ vv, rel ∧ St w0 M0 ds a w (l1 vv) bs1 fs1) Q) a w) (hy : ∀  uu a w, rel → St w0 M0 ds a w (l1 uu) bs1 fs1 → Wp P r y Q a w) : Wp P r (.seq x y) Q a w :=
  c_merge _ hx fun a w h => by obtain ⟨vv, h1, h2⟩ := h; exact hy  vv a w h1 h2
theorem c_fore1 {c : Code} {ι1 : Type} (_S : St w0 M0 ds a w l bs fs) (mods : ι1 → (Nat → Value) → List (Nat × Value)) {l1 : ι1 → (Nat → Value) → List Value} [∀ x1 uu, SetG l (mods x1 uu) (l1 x1 uu)] (bs1 : ι1 → List Item) (fs1 : ι1 → List (World → Prop)) (rel : ι1 → Prop) (μ : ι1 → Nat) (z1 : ι1) (h0 : rel z1) (uu0 : Nat → Value) (S0 : St w0 M0 ds a w (l1 z1 uu0) (bs1 z1) (fs1 z1))
    (hr : ∀ x1 uu a w, rel x1 → St w0 M0 ds a w (l1 x1 uu) (bs1 x1) (fs1 x1) → Wp P r c (Exit.then (fun a w => ∃ y1 vv, rel y1 ∧ St w0 M0 ds a w (l1 y1 vv) (bs1 y1) (fs1 y1) ∧ μ y1 < μ x1) Q) a w) : Wp P r (.loop c) Q a w := by
  refine c_loop (ι := ι1) (fun p a w => rel p ∧ ∃ uu, St w0 M0 ds a w (l1 p uu) (bs1 p) (fs1 p)) (fun p => μ p) (z1) ⟨h0, uu0, S0⟩ ?_
  rintro p a w ⟨h1, uu, S1⟩
  refine wpIn_mono (hr p uu a w h1 S1) fun e a1 w1 hq => ?_
  cases e <;> first | exact hq | skip
  obtain ⟨y1, vv, h2, S2, hm⟩ := hq
  exact ⟨y1, ⟨h2, vv, S2⟩, hm⟩
theorem c_mrge1 {x y : Code} {ι1 : Type} (_S : St w0 M0 ds a w l bs fs) (mods : ι1 → (Nat → Value) → List (Nat × Value)) {l1 : ι1 → (Nat → Value) → List Value} [∀ x1 uu, SetG l (mods x1 uu) (l1 x1 uu)] (bs1 : ι1 → List Item) (fs1 : ι1 → List (World → Prop)) (rel : ι1 → Prop)
    (hx : Wp P r x (Exit.then (fun a w => ∃ y1 vv, rel y1 ∧ St w0 M0 ds a w (l1 y1 vv) (bs1 y1) (fs1 y1)) Q) a w) (hy : ∀ x1 uu a w, rel x1 → St w0 M0 ds a w (l1 x1 uu) (bs1 x1) (fs1 x1) → Wp P r y Q a w) : Wp P r (.seq x y) Q a w :=
  c_merge _ hx fun a w h => by obtain ⟨y1, vv, h1, h2⟩ := h; exact hy y1 vv a w h1 h2
theorem c_drwe1 {id : Nat} {lo : List Oper} {ι1 : Type} (t : Tr) (S : St w0 M0 ds a w l bs fs) (mods : ι1 → (Nat → Value) → List (Nat × Value)) {l1 : ι1 → (Nat → Value) → List Value} [∀ x1 uu, SetG l (mods x1 uu) (l1 x1 uu)] (bs0 : List Item) (bs1 : ι1 → List Item) (fs1 : ι1 → List (World → Prop)) (rel : ι1 → Prop)
    (h : ∀ w, St w0 M0 ds a w l bs fs → AT P lo.toArray (fun w => Wd w0 M0 w bs0 fs) (fun a w => ∃ y1 vv, rel y1 ∧ St w0 M0 ds a w (l1 y1 vv) (bs1 y1) (fs1 y1)) t a w) (hK : ∀ x1 uu a w, rel x1 → St w0 M0 ds a w (l1 x1 uu) (bs1 x1) (fs1 x1) → Q .normal a w) (hm : P.follows .mixedOrders = true := by kernel_rfl)
    (hd : ((lo.all fun o => !isDefer o.op) && (Nat.beq t.len lo.length && (Region.noSelect lo.toArray && flowT lo.toArray t (Array.replicate lo.length false)))) = true := by kernel_rfl) : Wp P r (.region id lo.toArray true) Q a w :=
  c_drawT t bs0 S _ h (fun a w h => by obtain ⟨y1, vv, h1, h2⟩ := h; exact hK y1 vv a w h1 h2) hm hd
theorem c_forb1 {c : Code} {ι1 : Type} (_S : St w0 M0 ds a w l bs fs) (mods : ι1 → (Nat → Value) → List (Nat × Value)) {l1 : ι1 → (Nat → Value) → List Value} [∀ x1 uu, SetG l (mods x1 uu) (l1 x1 uu)]   (rel : ι1 → Prop) (μ : ι1 → Nat) (z1 : ι1) (h0 : rel z1) (uu0 : Nat → Value) (S0 : St w0 M0 ds a w (l1 z1 uu0) bs fs)
    (hr : ∀ x1 uu a w, rel x1 → St w0 M0 ds a w (l1 x1 uu) bs fs → Wp P r c (Exit.then (fun a w => ∃ y1 vv, rel y1 ∧ St w0 M0 ds a w (l1 y1 vv) bs fs ∧ μ y1 < μ x1) Q) a w) : Wp P r (.loop c) Q a w := by
  refine c_loop (ι := ι1) (fun p a w => rel p ∧ ∃ uu, St w0 M0 ds a w (l1 p uu) bs fs) (fun p => μ p) (z1) ⟨h0, uu0, S0⟩ ?_
  rintro p a w ⟨h1, uu, S1⟩
  refine wpIn_mono (hr p uu a w h1 S1) fun e a1 w1 hq => ?_
  cases e <;> first | exact hq | skip
  obtain ⟨y1, vv, h2, S2, hm⟩ := hq
  exact ⟨y1, ⟨h2, vv, S2⟩, hm⟩
theorem c_mrgb1 {x y : Code} {ι1 : Type} (S : St w0 M0 ds a w l bs fs) (mods : ι1 → (Nat → Value) → List (Nat × Value)) {l1 : ι1 → (Nat → Value) → List Value} [∀ x1 uu, SetG l (mods x1 uu) (l1 x1 uu)]   (rel : ι1 → Prop)
    (hx : Wp P r x (Exit.then (fun a w => ∃ y1 vv, rel y1 ∧ St w0 M0 ds a w (l1 y1 vv) bs fs) Q) a w) (hy : ∀ x1 uu a w, rel x1 → St w0 M0 ds a w (l1 x1 uu) bs fs → Wp P r y Q a w) : Wp P r (.seq x y) Q a w :=
  c_merge _ hx fun a w h => by obtain ⟨y1, vv, h1, h2⟩ := h; exact hy y1 vv a w h1 h2
theorem c_forf1 {c : Code} {ι1 : Type} (_S : St w0 M0 ds a w l bs fs) (mods : ι1 → (Nat → Value) → List (Nat × Value)) {l1 : ι1 → (Nat → Value) → List Value} [∀ x1 uu, SetG l (mods x1 uu) (l1 x1 uu)] (bs1 : ι1 → List Item)  (rel : ι1 → Prop) (μ : ι1 → Nat) (z1 : ι1) (h0 : rel z1) (uu0 : Nat → Value) (S0 : St w0 M0 ds a w (l1 z1 uu0) (bs1 z1) fs)
    (hr : ∀ x1 uu a w, rel x1 → St w0 M0 ds a w (l1 x1 uu) (bs1 x1) fs → Wp P r c (Exit.then (fun a w => ∃ y1 vv, rel y1 ∧ St w0 M0 ds a w (l1 y1 vv) (bs1 y1) fs ∧ μ y1 < μ x1) Q) a w) : Wp P r (.loop c) Q a w := by
  refine c_loop (ι := ι1) (fun p a w => rel p ∧ ∃ uu, St w0 M0 ds a w (l1 p uu) (bs1 p) fs) (fun p => μ p) (z1) ⟨h0, uu0, S0⟩ ?_
  rintro p a w ⟨h1, uu, S1⟩
  refine wpIn_mono (hr p uu a w h1 S1) fun e a1 w1 hq => ?_
  cases e <;> first | exact hq | skip
  obtain ⟨y1, vv, h2, S2, hm⟩ := hq
  exact ⟨y1, ⟨h2, vv, S2⟩, hm⟩
theorem c_fore2 {c : Code} {ι1 : Type} {ι2 : Type} (_S : St w0 M0 ds a w l bs fs) (mods : ι1 → ι2 → (Nat → Value) → List (Nat × Value)) {l1 : ι1 → ι2 → (Nat → Value) → List Value} [∀ x1 x2 uu, SetG l (mods x1 x2 uu) (l1 x1 x2 uu)] (bs1 : ι1 → ι2 → List Item) (fs1 : ι1 → ι2 → List (World → Prop)) (rel : ι1 → ι2 → Prop) (μ : ι1 → ι2 → Nat) (z1 : ι1) (z2 : ι2) (h0 : rel z1 z2) (uu0 : Nat → Value) (S0 : St w0 M0 ds a w (l1 z1 z2 uu0) (bs1 z1 z2) (fs1 z1 z2))
    (hr : ∀ x1 x2 uu a w, rel x1 x2 → St w0 M0 ds a w (l1 x1 x2 uu) (bs1 x1 x2) (fs1 x1 x2) → Wp P r c (Exit.then (fun a w => ∃ y1 y2 vv, rel y1 y2 ∧ St w0 M0 ds a w (l1 y1 y2 vv) (bs1 y1 y2) (fs1 y1 y2) ∧ μ y1 y2 < μ x1 x2) Q) a w) : Wp P r (.loop c) Q a w := by
  refine c_loop (ι := ι1 × ι2) (fun p a w => rel (p.1) (p.2) ∧ ∃ uu, St w0 M0 ds a w (l1 (p.1) (p.2) uu) (bs1 (p.1) (p.2)) (fs1 (p.1) (p.2))) (fun p => μ (p.1) (p.2)) (z1, z2) ⟨h0, uu0, S0⟩ ?_
  rintro p a w ⟨h1, uu, S1⟩
  refine wpIn_mono (hr (p.1) (p.2) uu a w h1 S1) fun e a1 w1 hq => ?_
  cases e <;> first | exact hq | skip
  obtain ⟨y1, y2, vv, h2, S2, hm⟩ := hq
  exact ⟨(y1, y2), ⟨h2, vv, S2⟩, hm⟩
theorem c_mrge2 {x y : Code} {ι1 : Type} {ι2 : Type} (_S : St w0 M0 ds a w l bs fs) (mods : ι1 → ι2 → (Nat → Value) → List (Nat × Value)) {l1 : ι1 → ι2 → (Nat → Value) → List Value} [∀ x1 x2 uu, SetG l (mods x1 x2 uu) (l1 x1 x2 uu)] (bs1 : ι1 → ι2 → List Item) (fs1 : ι1 → ι2 → List (World → Prop)) (rel : ι1 → ι2 → Prop)
    (hx : Wp P r x (Exit.then (fun a w => ∃ y1 y2 vv, rel y1 y2 ∧ St w0 M0 ds a w (l1 y1 y2 vv) (bs1 y1 y2) (fs1 y1 y2)) Q) a w) (hy : ∀ x1 x2 uu a w, rel x1 x2 → St w0 M0 ds a w (l1 x1 x2 uu) (bs1 x1 x2) (fs1 x1 x2) → Wp P r y Q a w) : Wp P r (.seq x y) Q a w :=
  c_merge _ hx fun a w h => by obtain ⟨y1, y2, vv, h1, h2⟩ := h; exact hy y1 y2 vv a w h1 h2
theorem c_fore3 {c : Code} {ι1 : Type} {ι2 : Type} {ι3 : Type} (_S : St w0 M0 ds a w l bs fs) (mods : ι1 → ι2 → ι3 → (Nat → Value) → List (Nat × Value)) {l1 : ι1 → ι2 → ι3 → (Nat → Value) → List Value} [∀ x1 x2 x3 uu, SetG l (mods x1 x2 x3 uu) (l1 x1 x2 x3 uu)] (bs1 : ι1 → ι2 → ι3 → List Item) (fs1 : ι1 → ι2 → ι3 → List (World → Prop)) (rel : ι1 → ι2 → ι3 → Prop) (μ : ι1 → ι2 → ι3 → Nat) (z1 : ι1) (z2 : ι2) (z3 : ι3) (h0 : rel z1 z2 z3) (uu0 : Nat → Value) (S0 : St w0 M0 ds a w (l1 z1 z2 z3 uu0) (bs1 z1 z2 z3) (fs1 z1 z2 z3))
    (hr : ∀ x1 x2 x3 uu a w, rel x1 x2 x3 → St w0 M0 ds a w (l1 x1 x2 x3 uu) (bs1 x1 x2 x3) (fs1 x1 x2 x3) → Wp P r c (Exit.then (fun a w => ∃ y1 y2 y3 vv, rel y1 y2 y3 ∧ St w0 M0 ds a w (l1 y1 y2 y3 vv) (bs1 y1 y2 y3) (fs1 y1 y2 y3) ∧ μ y1 y2 y3 < μ x1 x2 x3) Q) a w) : Wp P r (.loop c) Q a w := by
  refine c_loop (ι := ι1 × ι2 × ι3) (fun p a w => rel (p.1) (p.2.1) (p.2.2) ∧ ∃ uu, St w0 M0 ds a w (l1 (p.1) (p.2.1) (p.2.2) uu) (bs1 (p.1) (p.2.1) (p.2.2)) (fs1 (p.1) (p.2.1) (p.2.2))) (fun p => μ (p.1) (p.2.1) (p.2.2)) (z1, z2, z3) ⟨h0, uu0, S0⟩ ?_
  rintro p a w ⟨h1, uu, S1⟩
  refine wpIn_mono (hr (p.1) (p.2.1) (p.2.2) uu a w h1 S1) fun e a1 w1 hq => ?_
  cases e <;> first | exact hq | skip
  obtain ⟨y1, y2, y3, vv, h2, S2, hm⟩ := hq
  exact ⟨(y1, y2, y3), ⟨h2, vv, S2⟩, hm⟩
theorem c_drwe3 {id : Nat} {lo : List Oper} {ι1 : Type} {ι2 : Type} {ι3 : Type} (t : Tr) (S : St w0 M0 ds a w l bs fs) (mods : ι1 → ι2 → ι3 → (Nat → Value) → List (Nat × Value)) {l1 : ι1 → ι2 → ι3 → (Nat → Value) → List Value} [∀ x1 x2 x3 uu, SetG l (mods x1 x2 x3 uu) (l1 x1 x2 x3 uu)] (bs0 : List Item) (bs1 : ι1 → ι2 → ι3 → List Item) (fs1 : ι1 → ι2 → ι3 → List (World → Prop)) (rel : ι1 → ι2 → ι3 → Prop)
    (h : ∀ w, St w0 M0 ds a w l bs fs → AT P lo.toArray (fun w => Wd w0 M0 w bs0 fs) (fun a w => ∃ y1 y2 y3 vv, rel y1 y2 y3 ∧ St w0 M0 ds a w (l1 y1 y2 y3 vv) (bs1 y1 y2 y3) (fs1 y1 y2 y3)) t a w) (hK : ∀ x1 x2 x3 uu a w, rel x1 x2 x3 → St w0 M0 ds a w (l1 x1 x2 x3 uu) (bs1 x1 x2 x3) (fs1 x1 x2 x3) → Q .normal a w) (hm : P.follows .mixedOrders = true := by kernel_rfl)
    (hd : ((lo.all fun o => !isDefer o.op) && (Nat.beq t.len lo.length && (Region.noSelect lo.toArray && flowT lo.toArray t (Array.replicate lo.length false)))) = true := by kernel_rfl) : Wp P r (.region id lo.toArray true) Q a w :=
  c_drawT t bs0 S _ h (fun a w h => by obtain ⟨y1, y2, y3, vv, h1, h2⟩ := h; exact hK y1 y2 y3 vv a w h1 h2) hm hd
theorem c_forf3 {c : Code} {ι1 : Type} {ι2 : Type} {ι3 : Type} (S : St w0 M0 ds a w l bs fs) (mods : ι1 → ι2 → ι3 → (Nat → Value) → List (Nat × Value)) {l1 : ι1 → ι2 → ι3 → (Nat → Value) → List Value} [∀ x1 x2 x3 uu, SetG l (mods x1 x2 x3 uu) (l1 x1 x2 x3 uu)] (bs1 : ι1 → ι2 → ι3 → List Item)  (rel : ι1 → ι2 → ι3 → Prop) (μ : ι1 → ι2 → ι3 → Nat) (z1 : ι1) (z2 : ι2) (z3 : ι3) (h0 : rel z1 z2 z3) (uu0 : Nat → Value) (S0 : St w0 M0 ds a w (l1 z1 z2 z3 uu0) (bs1 z1 z2 z3) fs)
    (hr : ∀ x1 x2 x3 uu a w, rel x1 x2 x3 → St w0 M0 ds a w (l1 x1 x2 x3 uu) (bs1 x1 x2 x3) fs → Wp P r c (Exit.then (fun a w => ∃ y1 y2 y3 vv, rel y1 y2 y3 ∧ St w0 M0 ds a w (l1 y1 y2 y3 vv) (bs1 y1 y2 y3) fs ∧ μ y1 y2 y3 < μ x1 x2 x3) Q) a w) : Wp P r (.loop c) Q a w := by
  refine c_loop (ι := ι1 × ι2 × ι3) (fun p a w => rel (p.1) (p.2.1) (p.2.2) ∧ ∃ uu, St w0 M0 ds a w (l1 (p.1) (p.2.1) (p.2.2) uu) (bs1 (p.1) (p.2.1) (p.2.2)) fs) (fun p => μ (p.1) (p.2.1) (p.2.2)) (z1, z2, z3) ⟨h0, uu0, S0⟩ ?_
  rintro p a w ⟨h1, uu, S1⟩
  refine wpIn_mono (hr (p.1) (p.2.1) (p.2.2) uu a w h1 S1) fun e a1 w1 hq => ?_
  cases e <;> first | exact hq | skip
  obtain ⟨y1, y2, y3, vv, h2, S2, hm⟩ := hq
  exact ⟨(y1, y2, y3), ⟨h2, vv, S2⟩, hm⟩
theorem c_fore4 {c : Code} {ι1 : Type} {ι2 : Type} {ι3 : Type} {ι4 : Type} (_S : St w0 M0 ds a w l bs fs) (mods : ι1 → ι2 → ι3 → ι4 → (Nat → Value) → List (Nat × Value)) {l1 : ι1 → ι2 → ι3 → ι4 → (Nat → Value) → List Value} [∀ x1 x2 x3 x4 uu, SetG l (mods x1 x2 x3 x4 uu) (l1 x1 x2 x3 x4 uu)] (bs1 : ι1 → ι2 → ι3 → ι4 → List Item) (fs1 : ι1 → ι2 → ι3 → ι4 → List (World → Prop)) (rel : ι1 → ι2 → ι3 → ι4 → Prop) (μ : ι1 → ι2 → ι3 → ι4 → Nat) (z1 : ι1) (z2 : ι2) (z3 : ι3) (z4 : ι4) (h0 : rel z1 z2 z3 z4) (uu0 : Nat → Value) (S0 : St w0 M0 ds a w (l1 z1 z2 z3 z4 uu0) (bs1 z1 z2 z3 z4) (fs1 z1 z2 z3 z4))
    (hr : ∀ x1 x2 x3 x4 uu a w, rel x1 x2 x3 x4 → St w0 M0 ds a w (l1 x1 x2 x3 x4 uu) (bs1 x1 x2 x3 x4) (fs1 x1 x2 x3 x4) → Wp P r c (Exit.then (fun a w => ∃ y1 y2 y3 y4 vv, rel y1 y2 y3 y4 ∧ St w0 M0 ds a w (l1 y1 y2 y3 y4 vv) (bs1 y1 y2 y3 y4) (fs1 y1 y2 y3 y4) ∧ μ y1 y2 y3 y4 < μ x1 x2 x3 x4) Q) a w) : Wp P r (.loop c) Q a w := by
  refine c_loop (ι := ι1 × ι2 × ι3 × ι4) (fun p a w => rel (p.1) (p.2.1) (p.2.2.1) (p.2.2.2) ∧ ∃ uu, St w0 M0 ds a w (l1 (p.1) (p.2.1) (p.2.2.1) (p.2.2.2) uu) (bs1 (p.1) (p.2.1) (p.2.2.1) (p.2.2.2)) (fs1 (p.1) (p.2.1) (p.2.2.1) (p.2.2.2))) (fun p => μ (p.1) (p.2.1) (p.2.2.1) (p.2.2.2)) (z1, z2, z3, z4) ⟨h0, uu0, S0⟩ ?_
  rintro p a w ⟨h1, uu, S1⟩
  refine wpIn_mono (hr (p.1) (p.2.1) (p.2.2.1) (p.2.2.2) uu a w h1 S1) fun e a1 w1 hq => ?_
  cases e <;> first | exact hq | skip
  obtain ⟨y1, y2, y3, y4, vv, h2, S2, hm⟩ := hq
  exact ⟨(y1, y2, y3, y4), ⟨h2, vv, S2⟩, hm⟩
theorem c_mrge4 {x y : Code} {ι1 : Type} {ι2 : Type} {ι3 : Type} {ι4 : Type} (S : St w0 M0 ds a w l bs fs) (mods : ι1 → ι2 → ι3 → ι4 → (Nat → Value) → List (Nat × Value)) {l1 : ι1 → ι2 → ι3 → ι4 → (Nat → Value) → List Value} [∀ x1 x2 x3 x4 uu, SetG l (mods x1 x2 x3 x4 uu) (l1 x1 x2 x3 x4 uu)] (bs1 : ι1 → ι2 → ι3 → ι4 → List Item) (fs1 : ι1 → ι2 → ι3 → ι4 → List (World → Prop)) (rel : ι1 → ι2 → ι3 → ι4 → Prop)
    (hx : Wp P r x (Exit.then (fun a w => ∃ y1 y2 y3 y4 vv, rel y1 y2 y3 y4 ∧ St w0 M0 ds a w (l1 y1 y2 y3 y4 vv) (bs1 y1 y2 y3 y4) (fs1 y1 y2 y3 y4)) Q) a w) (hy : ∀ x1 x2 x3 x4 uu a w, rel x1 x2 x3 x4 → St w0 M0 ds a w (l1 x1 x2 x3 x4 uu) (bs1 x1 x2 x3 x4) (fs1 x1 x2 x3 x4) → Wp P r y Q a w) : Wp P r (.seq x y) Q a w :=
  c_merge _ hx fun a w h => by obtain ⟨y1, y2, y3, y4, vv, h1, h2⟩ := h; exact hy y1 y2 y3 y4 vv a w h1 h2
end
theorem Stable.tl {x : Item} {bs : List Item} {w : World} {Φ : World → Prop} (h : Stable (foots (x :: bs)) w Φ) : Stable (foots bs) w Φ := h.less fun _ _ ⟨it, hi, hk⟩ => ⟨it, List.mem_cons_of_mem _ hi, hk⟩
class ItOk (x : Item) : Prop where
  loc : ∀ w1 w2 : World, (∀ k, x.foot k → w2.heap[k]? = w1.heap[k]?) → x.holds w1 → x.holds w2
  lt : ∀ w : World, x.holds w → ∀ k, x.foot k → k < w.heap.size
instance itBox {b : Nat} {t : TypeId} {cs : List Value} : ItOk (box b t cs) := ⟨box_loc b t cs, fun w h k hk => by simp only [box] at hk h; subst hk; exact (Array.getElem?_eq_some_iff.1 h).1⟩
instance itRow {e : TypeId} {sz : Nat} {p : Option Addr} {n c : Nat} {xs : List Value} : ItOk (row e sz p n c xs) := ⟨row_loc e sz p n c xs, fun _ h => row_foot_lt h⟩
def both (x y : Item) : Item where
  foot := fun k => x.foot k ∨ y.foot k
  holds := fun w => x.holds w ∧ y.holds w ∧ ∀ k, x.foot k → ¬ y.foot k
  own := x.own && y.own
instance itBoth {x y : Item} [hx : ItOk x] [hy : ItOk y] : ItOk (both x y) := ⟨fun w1 w2 h h1 => ⟨hx.loc w1 w2 (fun k hk => h k (.inl hk)) h1.1, hy.loc w1 w2 (fun k hk => h k (.inr hk)) h1.2.1, h1.2.2⟩, fun w h k hk => hk.elim (hx.lt w h.1 k) (hy.lt w h.2.1 k)⟩
theorem foots_both {x y : Item} {bs : List Item} : foots (both x y :: bs) = foots (x :: y :: bs) := by
  funext k
  simp only [foots, List.mem_cons, or_and_right, exists_or, exists_eq_left, both, or_assoc]
section
variable {w0 : World} {M0 : Nat → Prop} {ds : List Deferred} {a : Act} {w : World} {l : List Value} {bs bs' : List Item} {fs : List (World → Prop)} {x y : Item}
theorem Wd.toBoth [ox : ItOk x] [oy : ItOk y] (h : Wd w0 M0 w (x :: y :: bs) fs) (hx : x.own = true) (hy : y.own = true) : Wd w0 M0 w (both x y :: bs) fs := by
  have hp := List.pairwise_cons.1 h.apart
  have hp2 := List.pairwise_cons.1 hp.2
  have hap : ∀ k, x.foot k → ¬ y.foot k := hp.1 y (by simp)
  refine ⟨h.agree, ?_, ?_, ?_, ?_, ?_, ?_⟩
  · intro it hi
    rcases List.mem_cons.1 hi with rfl | hi
    · exact ⟨h.held x (by simp), h.held y (by simp), hap⟩
    · exact h.held it (by simp [hi])
  · intro it hi k hk
    rcases List.mem_cons.1 hi with rfl | hi
    · exact hk.elim (h.lt x (by simp) k) (h.lt y (by simp) k)
    · exact h.lt it (by simp [hi]) k hk
  · intro it hi ho k hk
    rcases List.mem_cons.1 hi with rfl | hi
    · exact hk.elim (h.own x (by simp) hx k) (h.own y (by simp) hy k)
    · exact h.own it (by simp [hi]) ho k hk
  · exact List.pairwise_cons.2 ⟨fun it hi k hk => hk.elim (hp.1 it (by simp [hi]) k) (hp2.1 it hi k), hp2.2⟩
  · intro Φ hΦ; rw [foots_both]; exact h.facts Φ hΦ
  · intro it hi
    rcases List.mem_cons.1 hi with rfl | hi
    · exact (itBoth (x := x) (y := y)).loc
    · exact h.loc it (by simp [hi])
theorem Wd.ofBoth [ox : ItOk x] [oy : ItOk y] (h : Wd w0 M0 w (both x y :: bs) fs) (hx : x.own = true) (hy : y.own = true) : Wd w0 M0 w (x :: y :: bs) fs := by
  have hb := h.held (both x y) (by simp)
  have hp := List.pairwise_cons.1 h.apart
  have hown := h.own (both x y) (by simp) (by simp [both, hx, hy])
  refine ⟨h.agree, ?_, ?_, ?_, ?_, ?_, ?_⟩
  · intro it hi
    rcases List.mem_cons.1 hi with rfl | hi
    · exact hb.1
    · rcases List.mem_cons.1 hi with rfl | hi
      · exact hb.2.1
      · exact h.held it (by simp [hi])
  · intro it hi k hk
    rcases List.mem_cons.1 hi with rfl | hi
    · exact h.lt (both it y) (by simp) k (.inl hk)
    · rcases List.mem_cons.1 hi with rfl | hi
      · exact h.lt (both x it) (by simp) k (.inr hk)
      · exact h.lt it (by simp [hi]) k hk
  · intro it hi ho k hk
    rcases List.mem_cons.1 hi with rfl | hi
    · exact hown k (.inl hk)
    · rcases List.mem_cons.1 hi with rfl | hi
      · exact hown k (.inr hk)
      · exact h.own it (by simp [hi]) ho k hk
  · refine List.pairwise_cons.2 ⟨fun it hi k hk => ?_, List.pairwise_cons.2 ⟨fun it hi k hk => hp.1 it hi k (.inr hk), hp.2⟩⟩
    rcases List.mem_cons.1 hi with rfl | hi
    · exact hb.2.2 k hk
    · exact hp.1 it hi k (.inl hk)
  · intro Φ hΦ; rw [← foots_both]; exact h.facts Φ hΦ
  · intro it hi
    rcases List.mem_cons.1 hi with rfl | hi
    · exact ox.loc
    · rcases List.mem_cons.1 hi with rfl | hi
      · exact oy.loc
      · exact h.loc it (by simp [hi])
theorem St.perm (S : St w0 M0 ds a w l bs fs) (bs' : List Item) (hp : bs'.Perm bs) : St w0 M0 ds a w l bs' fs := ⟨S.slots, S.defers, S.wd.perm hp⟩
theorem St.front (S : St w0 M0 ds a w l bs fs) (x : Item) [hd : DropI bs x bs'] : St w0 M0 ds a w l (x :: bs') fs := S.perm _ hd.perm
theorem St.toBoth [ItOk x] [ItOk y] (S : St w0 M0 ds a w l (x :: y :: bs) fs) (hx : x.own = true := by rfl) (hy : y.own = true := by rfl) : St w0 M0 ds a w l (both x y :: bs) fs := ⟨S.slots, S.defers, S.wd.toBoth hx hy⟩
theorem St.ofBoth [ItOk x] [ItOk y] (S : St w0 M0 ds a w l (both x y :: bs) fs) (hx : x.own = true := by rfl) (hy : y.own = true := by rfl) : St w0 M0 ds a w l (x :: y :: bs) fs := ⟨S.slots, S.defers, S.wd.ofBoth hx hy⟩
class HasIt (bs : List Item) (x : Item) : Prop where mem : x ∈ bs
instance hit0 {x : Item} {bs : List Item} : HasIt (x :: bs) x := ⟨List.mem_cons_self ..⟩
instance (priority := 900) hit1 {x y : Item} {bs : List Item} [h : HasIt bs x] : HasIt (y :: bs) x := ⟨List.mem_cons_of_mem _ h.mem⟩
theorem St.it (S : St w0 M0 ds a w l bs fs) (x : Item) [h : HasIt bs x] : x.holds w := S.wd.held _ h.mem
theorem St.itNew (S : St w0 M0 ds a w l bs fs) (x : Item) [h : HasIt bs x] (ho : x.own = true := by rfl) : ∀ k, x.foot k → M0 k ∨ w0.heap.size ≤ k := S.wd.own _ h.mem ho
end
section
variable {P : Program} {r : Option Nat} {ops : Array Oper} {Q : Exit → Act → World → Prop} {w0 : World} {M0 : Nat → Prop} {ds : List Deferred} {a : Act} {w : World} {l : List Value} {bs : List Item} {fs : List (World → Prop)}
  {d : Option Nat} {ty : TypeId} {pos : String} {af : Array Edge} {rest : List Oper} {f : Nat} {x : Operand} {ys : List Operand} {args : List Value} {ts : Array TypeId}
theorem sit {l' : Value → List Value} (it : Item) [EntF P f] [CallTo ⟨[], l⟩ x ys f args] [hp : ∀ v, PutO l d v (l' v)] (S : St w0 M0 ds a w l bs fs) {R : Value → World → Prop} (hc : Ret P f args w it.foot R) (ho : it.own = true)
    (K : ∀ v a w', R v w' → (∀ (y : Item) {bs' : List Item} [ReplI bs it y bs'] [ItOk y], y.holds w' → (∀ k, y.foot k → it.foot k ∨ w.heap.size ≤ k) → St w0 M0 ds a w' (l' v) bs' fs) → WL P r ops Q rest a w') :
    WL P r ops Q (⟨d, .call { callee := .value x, args := ys.toArray, argTypes := ts }, ty, pos, af, none⟩ :: rest) a w :=
  sri it S hc ho fun v a w' hR hS => K v a w' hR fun y bs' hr oy h hf => hS y bs' hr h hf (oy.lt w' h) oy.loc
end
instance : IsNat 8 8 := ⟨rfl⟩
instance : IsNat 65 65 := ⟨rfl⟩
instance isnatMin {a b : Int} {n m : Nat} [h : IsNat a n] [h' : IsNat b m] : IsNat (min a b) (min n m) := ⟨by rw [h.eq, h'.eq]; omega⟩
instance lecMin {a b : Nat} : LeC (min a b) a := ⟨Nat.min_le_left _ _⟩
instance (priority := 900) lecZ {a : Nat} : LeC 0 a := ⟨Nat.zero_le _⟩
theorem str_cut (s : List UInt8) (lo hi : Nat) : (⟨s.toArray⟩ : ByteArray).extract lo hi = ⟨((s.take hi).drop lo).toArray⟩ := by
  apply ByteArray.ext
  rw [ByteArray.data_extract]
  simp [List.extract_eq_take_drop, List.drop_take]
section
variable {P : Program} {l lc : Cx} {bs : List Item} {fs : List (World → Prop)} {x y : Operand} {p : Option Addr} {n c k : Nat} {t ty e : TypeId} {z : Value} {sz by_ : Nat} {ol oh om : Option Operand} {lo hi mx : Nat} {s : List UInt8}
instance opSliceStr [Ev lc x (str s)] [hl : EvB lc ol 0 lo] [hh : EvB lc oh s.length hi] [Und P t .string] [h1 : LeC hi s.length] [h2 : LeC lo hi] : OpQ P (.slice t x ol oh none) ty lc bs fs (str ((s.take hi).drop lo)) := ⟨fun ρ w hf _ => by
  have eX : ρ x = str s := hf.ev
  have hb : (Instr.sliceBounds false s.length s.length (ol.map ρ) (oh.map ρ) none).run P w = .ok (lo, hi, s.length) w := by
    rcases hh.eq with ⟨rfl, rfl⟩ | ⟨o2, kk2, rfl, h'⟩
    · rcases hl.eq with ⟨rfl, rfl⟩ | ⟨o3, kk3, rfl, h''⟩
      · simp [Instr.sliceBounds]
      · have e3 := hf.ev (x := o3) (v := .int kk3 (lo : Int))
        simp [Instr.sliceBounds, e3, run_sliceBound h2.le]
    · have e2 := hf.ev (x := o2) (v := .int kk2 (hi : Int))
      rcases hl.eq with ⟨rfl, rfl⟩ | ⟨o3, kk3, rfl, h''⟩
      · simp [Instr.sliceBounds, e2, run_sliceBound h1.le]
      · have e3 := hf.ev (x := o3) (v := .int kk3 (lo : Int))
        simp [Instr.sliceBounds, Sem.run_bind, e2, e3, run_sliceBound h1.le, run_sliceBound h2.le]
  have hsz : (⟨s.toArray⟩ : ByteArray).size = s.length := rfl
  simp [xop, execOp, eX, Instr.sliceAt, Instr.slice, Sem.run_bind, run_und, hsz, hb, str_cut]⟩
instance (priority := 710) opSliceQ0 [Ev lc x (.slice p n c)] [EvB lc oh n hi] [EvB lc om c mx] [Und P t (.slice e)] [TI P e z sz by_] [h1 : LeC mx c] [h2 : LeC hi mx] [h4 : HiOk om oh] :
    OpQ P (.slice t x none oh om) ty lc bs fs (.slice p hi mx) := ⟨fun ρ w h _ => by
  have := run_cut (P := P) (ρ := ρ) (lc := lc) (ol := none) (oh := oh) (om := om) (lo := 0) (hi := hi) (mx := mx) (t := t) (e := e) (z := z) (sz := sz) (by_ := by_) (x := x) (p := p) (n := n) (c := c) (ty := ty) h h1.le h2.le (Nat.zero_le _) h4.ok w
  rw [this]
  have e1 : (if mx = 0 then p else p.map (·.add (0 * sz))) = p := by
    split
    · rfl
    · cases p <;> simp [Addr.add]
  rw [e1]; simp⟩
end
def IsLs (M : Nat → Prop) (w : World) (v : Value) (Ts : List Term) : Prop := ∃ (p : Option Addr) (c : Nat) (os : List LTerm), v = .slice p os.length c ∧ os.map LTerm.t = Ts ∧ os.length ≤ c ∧ c ≤ maxLen ∧ Stable M w (LsF p 0 os)
theorem Wd.itLentM {w : World} {fs : List (World → Prop)} {x : Item} {Mr : Nat → Prop} [ox : ItOk x] (h : x.holds w) (hM : ∀ k, Mr k → k < w.heap.size ∧ ¬ x.foot k) (hf : ∀ Φ ∈ fs, Stable (fun k => x.foot k ∨ Mr k) w Φ) : Wd w x.foot w [x, ext Mr] fs := by
  refine ⟨Agree.refl _ _, ?_, ?_, ?_, ?_, ?_, ?_⟩
  · intro it hi
    rcases List.mem_cons.1 hi with rfl | hi
    · exact h
    · obtain rfl := List.mem_singleton.1 hi; trivial
  · intro it hi k hk
    rcases List.mem_cons.1 hi with rfl | hi
    · exact ox.lt w h k hk
    · obtain rfl := List.mem_singleton.1 hi; exact (hM k hk).1
  · intro it hi ho k hk
    rcases List.mem_cons.1 hi with rfl | hi
    · exact .inl hk
    · obtain rfl := List.mem_singleton.1 hi; cases ho
  · refine List.pairwise_cons.2 ⟨fun it hi k hk hk' => ?_, by simp⟩
    obtain rfl := List.mem_singleton.1 hi; exact (hM k hk').2 hk
  · intro Φ hΦ
    refine (hf Φ hΦ).less fun k _ hk => ?_
    obtain ⟨it, hi, hk⟩ := hk
    rcases List.mem_cons.1 hi with rfl | hi
    · exact .inl hk
    · obtain rfl := List.mem_singleton.1 hi; exact .inr hk
  · intro it hi
    rcases List.mem_cons.1 hi with rfl | hi
    · exact ox.loc
    · obtain rfl := List.mem_singleton.1 hi; exact fun _ _ _ _ => trivial
theorem Wd.it2LentM {w : World} {fs : List (World → Prop)} {x y : Item} {Mr : Nat → Prop} [ox : ItOk x] [oy : ItOk y] (h : (both x y).holds w) (hx : x.own = true) (hy : y.own = true) (hM : ∀ k, Mr k → k < w.heap.size ∧ ¬ (both x y).foot k) (hf : ∀ Φ ∈ fs, Stable (fun k => (both x y).foot k ∨ Mr k) w Φ) : Wd w (both x y).foot w [x, y, ext Mr] fs := (Wd.itLentM h hM hf).ofBoth hx hy
def restOf (bs : List Item) (x : Item) : Nat → Prop := fun k => foots bs k ∧ ¬ x.foot k
theorem St.restOk {w0 : World} {M0 : Nat → Prop} {ds : List Deferred} {a : Act} {w : World} {l : List Value} {bs : List Item} {fs : List (World → Prop)} (S : St w0 M0 ds a w l bs fs) (x : Item) : ∀ k, restOf bs x k → k < w.heap.size ∧ ¬ x.foot k := fun k h => ⟨foots_lt S k h.1, h.2⟩
theorem Stable.split {bs : List Item} {w : World} {Φ : World → Prop} (x : Item) [hx : HasIt bs x] (h : Stable (foots bs) w Φ) : Stable (fun k => x.foot k ∨ restOf bs x k) w Φ := h.less fun _ _ hk => hk.elim (fun h => ⟨x, hx.mem, h⟩) (fun h => h.1)
section
variable {P : Program} {r : Option Nat} {ops : Array Oper} {Q : Exit → Act → World → Prop} {w0 : World} {M0 : Nat → Prop} {ds : List Deferred} {a : Act} {w : World} {l : List Value} {bs bs' : List Item} {fs : List (World → Prop)}
  {d : Option Nat} {ty : TypeId} {pos : String} {af : Array Edge} {rest : List Oper} {f : Nat} {x : Operand} {ys : List Operand} {args : List Value} {ts : Array TypeId}
theorem St.addAll (S : St w0 M0 ds a w l bs fs) : ∀ (fs2 : List (World → Prop)), (∀ Φ ∈ fs2, Stable (foots bs) w Φ) → St w0 M0 ds a w l bs (fs2 ++ fs)
  | [], _ => S
  | Φ :: fs2, h => (St.addAll S fs2 (fun Ψ hΨ => h Ψ (by simp [hΨ]))).add (h Φ (by simp))
theorem sitM {l' : Value → List Value} (it : Item) [EntF P f] [CallTo ⟨[], l⟩ x ys f args] [hp : ∀ v, PutO l d v (l' v)] (S : St w0 M0 ds a w l bs fs) {R : Value → World → Prop} (hc : Ret P f args w it.foot R) (ho : it.own = true)
    (K : ∀ v a w', R v w' → (∀ (y : Item) (fs2 : List (World → Prop)) {fs3 : List (World → Prop)} {bs' : List Item} [AppL fs2 fs fs3] [ReplI bs it y bs'] [ItOk y], y.holds w' → (∀ k, y.foot k → it.foot k ∨ w.heap.size ≤ k) → (∀ Φ ∈ fs2, Stable (fun k => y.foot k ∨ restOf bs it k) w' Φ) → St w0 M0 ds a w' (l' v) bs' fs3) → WL P r ops Q rest a w') :
    WL P r ops Q (⟨d, .call { callee := .value x, args := ys.toArray, argTypes := ts }, ty, pos, af, none⟩ :: rest) a w := by
  have hap := S.wd.apart
  refine sit it S hc ho fun v a w' hR hS => K v a w' hR fun y fs2 fs3 bs' happ hr oy hy hf hfs => ?_
  rw [← happ.eq]
  refine (hS y hy hf).addAll fs2 fun Φ hΦ => (hfs Φ hΦ).less fun k _ hk => ?_
  obtain ⟨pre, post, rfl, rfl⟩ := hr.ex
  obtain ⟨z, hz, hk⟩ := hk
  have hp := List.pairwise_append.1 hap
  rcases List.mem_append.1 hz with hz | hz
  · exact .inr ⟨⟨z, by simp [hz], hk⟩, hp.2.2 z hz it (by simp) k hk⟩
  · rcases List.mem_cons.1 hz with rfl | hz
    · exact .inl hk
    · exact .inr ⟨⟨z, by simp [hz], hk⟩, fun hx => (List.pairwise_cons.1 hp.2.1).1 z hz k hx hk⟩
theorem St.boxToF (S : St w0 M0 ds a w l bs fs) (b : Nat) {t : TypeId} {cs : List Value} [_hb : HasBox bs b t cs] [hd : DropI bs (Wk.box b t cs) bs'] : St w0 M0 ds a w l bs' (BoxF b t cs :: fs) := by
  have S1 := S.perm _ hd.perm
  have hap := List.pairwise_cons.1 S1.wd.apart
  have hbx : BoxF b t cs w := S1.wd.held (Wk.box b t cs) (by simp)
  have S2 : St w0 M0 ds a w l bs' fs := ⟨S1.slots, S1.defers, S1.wd.sub (.cons _ (.refl _)) (.refl _)⟩
  exact S2.add (BoxF.stable hbx fun ⟨it, hi, hk⟩ => hap.1 it hi b rfl hk)
end
theorem St.frontLs {w0 : World} {M0 : Nat → Prop} {ds : List Deferred} {a : Act} {w : World} {l : List Value} {bs bs' : List Item} {fs : List (World → Prop)} (S : St w0 M0 ds a w l bs fs) (b : Nat) (ts : List LTerm) {T : TypeId} {cs : List Value} [hb : HasBox bs b T cs] [hd : DropI bs (Wk.box b T cs) bs'] (hc : cs = ts.flatMap LTerm.cells) (h : ∀ t ∈ ts, Stable (foots bs) w (LtF t)) : St w0 M0 ds a w l bs' (LsF (some ⟨b, 0, none⟩) 0 ts :: fs) := by
  have S1 : St w0 M0 ds a w l (Wk.box b T cs :: bs') fs := S.perm _ hd.perm
  refine S1.boxLs ts hc fun t ht => (h t ht).less fun k _ ⟨it, hi, hk⟩ => ⟨it, (hd.perm.mem_iff).1 hi, hk⟩
theorem ltF_mk {M : Nat → Prop} {w : World} {k u n : Int} {s : List UInt8} {p : Option Addr} {c : Nat} {ks : List LTerm} (h1 : ks.length ≤ c) (h2 : c ≤ maxLen) (h : Stable M w (LsF p 0 ks)) : Stable M w (LtF (.mk k u n s p c ks)) := fun w' hw' => ⟨h1, h2, h w' hw'⟩
instance condsU {pol : Bool} : Conds undef pol [false] := ⟨by simp [undef]⟩
theorem gU {P : Program} {r : Option Nat} {ops : Array Oper} {Q : Exit → Act → World → Prop} {w0 : World} {M0 : Nat → Prop} {ds : List Deferred} {a : Act} {w : World} {l l' : List Value} {bs : List Item} {fs : List (World → Prop)} {d : Option Nat} {op : Op} {ty : TypeId} {pos : String} {af : Array Edge} {rest : List Oper} {j g : Nat} {pol : Bool}
    (S : St w0 M0 ds a w l bs fs) [hp : PutO l d undef l'] [hg : GSlot ops j g] [hn : Nth l g undef] (h : ∀ a, St w0 M0 ds a w l' bs fs → WL P r ops Q rest a w) : WL P r ops Q (⟨d, op, ty, pos, af, some (j, pol)⟩ :: rest) a w :=
  wl_guard (fun ht => by
    have := (wanted_iff (ops := ops) (d := d) (op := op) (ty := ty) (pos := pos) (af := af) (pol := pol) S hg.eq).1 ht
    simp at this) fun _ => h _ S.put
theorem lsBox {w : World} {b : Nat} {T : TypeId} {ts : List LTerm} (hb : w.heap[b]? = some (.cells (ts.flatMap LTerm.cells).toArray T (0, 0))) (h : ∀ t ∈ ts, Stable (fun _ => False) w (LtF t)) : Stable (fun _ => False) w (LsF (some ⟨b, 0, none⟩) 0 ts) := fun w' hw' =>
  LsIn.of_block ts (by rw [hw'.blk (Array.getElem?_eq_some_iff.1 hb).1 id]; exact hb) fun t ht => h t ht w' hw'
section
variable {P : Program} {l : Cx} {bs : List Item} {fs : List (World → Prop)} {x y : Operand} {k : Nat} {kk : IntKind} {m : Int} {t ty : TypeId} {s : List UInt8}
end
def AllI {α : Type} [Lay α] (L : List α) : World → Prop := fun w => ∀ x ∈ L, Lay.inn w x
theorem AllI.get {α : Type} [Lay α] {M : Nat → Prop} {w : World} {L : List α} (h : Stable M w (AllI L)) {x : α} (hx : x ∈ L) : Stable M w (InF x) := fun w' hw => h w' hw x hx
theorem gl_own {α : Type} [Lay α] {M : Nat → Prop} {w : World} {e : TypeId} {p : Option Addr} {n c sz : Nat} {xs : List α} (h : w.ownsRow 0 e sz (.slice p n c) n (encL xs)) (hk : Stable M w (AllI xs)) (hM : ∀ ad, p = some ad → ¬ M ad.block) : Stable M w (GlF p xs) := gl_of_own h (fun _ hx => AllI.get hk hx) hM
end Go.Wk
namespace Go.Proofs.Ytibkkbknnfehlaa
open Go Go.Wk
set_option synthInstance.maxSize 100000
set_option synthInstance.maxHeartbeats 400000
set_option maxRecDepth 100000
def isUser (u : Int) : Bool := decide (1 ≤ u) && decide (u ≤ 6)
theorem user_c (u : Int) (w0 : World) : Ret Try.prog 39 [.int .i64 u] w0 (fun _ => False) fun v _ => v = .bool (isUser u) := by
  refine enter Try.func39 rfl rfl (Wd.start w0) (fun a S => ?_)
  simp only [Try.ntmps39, List.length_cons, List.length_nil, Nat.reduceAdd, Nat.reduceSub, List.replicate_succ, List.replicate_zero, List.cons_append, List.nil_append] at S
  refine c_seq ?_; refine c_region ?_; refine sq S ?_; clear S; intro a S; refine wl_nil ?_; refine xtn ?_; refine c_seq ?_; refine c_region ?_; (iterate 3 (refine sq S ?_; clear S; intro a S)); (iterate 2 (refine gQ S ?_; clear S; intro a S)); (iterate 2 (refine sq S ?_; clear S; intro a S)); refine wl_nil ?_; refine xtn ?_; refine c_ret ?_
  refine end1 S (fun _ => ?_)
  rfl
instance {u : Int} {bs fs} : CallV Try.prog 39 [.int .i64 u] bs fs (.bool (isUser u)) := ⟨fun w _ => user_c u w⟩
def addN (ns : List (List UInt8)) (k : List UInt8) : List (List UInt8) := if k ∈ ns then ns else ns ++ [k]
theorem mem_addN {ns : List (List UInt8)} {k s : List UInt8} : s ∈ addN ns k ↔ s ∈ ns ∨ s = k := by
  unfold addN
  split
  · rename_i h
    constructor
    · exact .inl
    · rintro (h1 | rfl)
      · exact h1
      · exact h
  · simp
def kvT (ns : List (List UInt8)) : List (List UInt8 × Value) := ns.map fun n => (n, .bool true)
theorem kvT_idx (k : List UInt8) : ∀ (ns : List (List UInt8)) (i : Nat), (((kvIdx k (kvT ns) i).map (·.2)).getD (.bool false)) = .bool (decide (k ∈ ns))
  | [], i => by simp [kvT, kvIdx]
  | u :: ns, i => by
    show ((kvIdx k ((u, .bool true) :: kvT ns) i).map (·.2)).getD (.bool false) = _
    rw [kvIdx]
    by_cases h : k = u
    · simp [h]
    · rw [if_neg h, kvT_idx k ns (i + 1)]; simp [h]
theorem kvT_get (k : List UInt8) (ns : List (List UInt8)) : (kvGet k (kvT ns)).getD (.bool false) = .bool (decide (k ∈ ns)) := kvT_idx k ns 0
theorem kvT_put (k : List UInt8) : ∀ ns : List (List UInt8), kvPut k (.bool true) (kvT ns) = kvT (addN ns k)
  | [] => rfl
  | u :: ns => by
    show kvPut k (.bool true) ((u, .bool true) :: kvT ns) = _
    rw [kvPut]
    by_cases h : k = u
    · subst h; simp [addN, kvT]
    · rw [if_neg h, kvT_put k ns]
      unfold addN
      by_cases h2 : k ∈ ns <;> simp [h, h2, kvT]
theorem bput_c (t : LTerm) (b : Nat) (ns : List (List UInt8)) (w0 : World) (hm : (mp b (kvT ns)).holds w0) (hf : Stable (fun k => k = b) w0 (LtF t)) :
    Ret Try.prog 38 [.map (some b), vL t] w0 (fun k => k = b) fun v w' => v = .bool (!decide (nameF t.t ∈ ns)) ∧ (mp b (kvT (addN ns (nameF t.t)))).holds w' := by
  refine enter Try.func38 rfl rfl (Wd.mpLent (fs := [LtF t]) hm (by simpa using hf)) (fun a S => ?_)
  simp only [Try.ntmps38, List.length_cons, List.length_nil, Nat.reduceAdd, Nat.reduceSub, List.replicate_succ, List.replicate_zero, List.cons_append, List.nil_append] at S
  refine c_seq ?_; refine c_region ?_
  refine sa S ?_; clear S; intro b3 a w S
  refine sq S ?_; clear S; intro a S; refine wl_nil ?_; refine xtn ?_; refine c_seq ?_; refine c_region ?_; refine sq S ?_; clear S; intro a S
  refine srn S (encode_c t _ (S.t0 t)) ?_; clear S; rintro _ a w ⟨p, c, rfl, hown, hnew⟩ hS -
  have S := hS hown hnew
  clear hS
  (iterate 5 (refine sq S ?_; clear S; intro a S)); refine wl_nil ?_; refine xtn ?_; refine c_seq ?_; refine c_region ?_; (iterate 4 (refine sq S ?_; clear S; intro a S))
  rw [kvT_get] at S
  refine sq S ?_; clear S; intro a S; refine wl_nil ?_; refine xtn ?_; refine c_seq ?_; refine c_region ?_; (iterate 3 (refine sq S ?_; clear S; intro a S)); refine smu S ?_; clear S; intro a w S
  rw [kvT_put] at S
  refine wl_nil ?_; refine xtn ?_; refine c_seq ?_; refine c_region ?_; (iterate 3 (refine sq S ?_; clear S; intro a S)); refine wl_nil ?_; refine xtn ?_; refine c_ret ?_
  have h := S.wd.held (mp b (kvT (addN ns (nameF t.t)))) (by simp)
  refine end1 S (fun _ => ?_)
  exact ⟨rfl, h⟩
theorem own_cap {w : World} {e : TypeId} {sz : Nat} {p : Option Addr} {n c : Nat} {xs : List Value} (h : w.ownsRow 0 e sz (.slice p n c) n xs) : c ≤ maxLen := by
  rcases h.2 with ⟨hv, h0⟩ | ⟨g, cap, cur, hv, hb, hg, hnc, hcm, hcs, ht⟩
  · cases hv; exact Nat.zero_le _
  · cases hv; exact hcm
theorem cntL_len (ts : List Term) : ts.length ≤ cntL ts := by
  induction ts with
  | nil => exact Nat.zero_le _
  | cons t ts ih => have := cnt_pos t; simp only [cntL, List.length_cons]; omega
theorem set_map (ys : List LTerm) (k : Nat) (r : LTerm) (zs : List Term) (h : ys.map LTerm.t = zs) (hr : zs[k]? = some r.t) : (ys.set k r).map LTerm.t = zs := by
  subst h
  rw [List.map_set]
  apply List.ext_getElem?
  intro i
  rw [List.getElem?_set]
  split
  · rename_i h; subst h
    split
    · exact hr.symm
    · rename_i h2; rw [List.getElem?_eq_none (by simpa using h2)] at hr; cases hr
  · rfl
def OwF (B : Nat) (x : LTerm) : World → Prop := fun w => LtIn w x ∧ w.ownsRow 0 37 5 (.slice x.p x.kids.length x.cap) x.kids.length (encL x.kids) ∧ ∀ ad, x.p = some ad → B ≤ ad.block
def IsTo (M : Nat → Prop) (B : Nat) (w : World) (v : Value) (T : Term) : Prop := ∃ r : LTerm, v = vL r ∧ r.t = T ∧ Stable M w (OwF B r)
theorem IsTo.t {M : Nat → Prop} {B : Nat} {w : World} {v : Value} {T : Term} (h : IsTo M B w v T) : IsT M w v T := by
  obtain ⟨r, h1, h2, h3⟩ := h
  exact ⟨r, h1, h2, h3.imp fun _ h => h.1⟩
theorem copied_c0 (N : Nat) : ∀ (t : LTerm) (M : Nat → Prop) (w0 : World), SizeOf.sizeOf t < N → cnt t.t ≤ 1200 → (∀ k, M k → k < w0.heap.size) → Stable M w0 (LtF t) → Ret Try.prog 28 [vL t] w0 (fun _ => False) fun v w' => IsTo M w0.heap.size w' v t.t := by
  induction N with
  | zero => intro t _ _ h; exact absurd h (Nat.not_lt_zero _)
  | succ N ih =>
  intro t M w0 hN hc hM hf
  have hlen : t.kids.length ≤ 1200 := by have h1 := cnt_kids t; have h2 := cntL_len (t.kids.map LTerm.t); rw [List.length_map] at h2; omega
  have hkc : ∀ x ∈ t.kids, cnt x.t ≤ 1200 := fun x hx => by have h1 := cnt_kids t; have h2 := cntL_mem (List.mem_map.2 ⟨x, hx, rfl⟩ : x.t ∈ t.kids.map LTerm.t); omega
  refine enter Try.func28 rfl rfl (Wd.beginM (M := M) (fs := [LtF t]) hM (by simpa using hf)) (fun a S => ?_)
  simp only [Try.ntmps28, List.length_cons, List.length_nil, Nat.reduceAdd, Nat.reduceSub, List.replicate_succ, List.replicate_zero, List.cons_append, List.nil_append] at S
  refine c_seq ?_; refine c_region ?_
  refine sa S ?_; clear S; intro b1 a w S
  refine sa S ?_; clear S; intro b2 a w S
  refine wl_nil ?_; refine xtn ?_; refine c_seq ?_; refine c_region ?_; (iterate 2 (refine sq S ?_; clear S; intro a S))
  refine srn S (clone_c t.kids t.p t.kids.length t.cap _ rfl (by omega) (ls_of_lt (S.t0 t))) ?_; clear S; rintro _ a w ⟨p', c', rfl, hown, hnew⟩ hS -
  have S := hS hown hnew
  clear hS
  refine sq S ?_; clear S; intro a S; refine sw S ?_; clear S; intro a w S; refine wl_nil ?_; refine xtn ?_; (iterate 2 (refine c_seq ?_)); refine c_region ?_; (iterate 4 (refine sq S ?_; clear S; intro a S)); refine wl_nil ?_; refine xtn ?_; refine c_block ?_
  refine c_fore2 S (fun (k : Nat) (ys : List LTerm) uu => [(3, uu 3), (7, .int .i64 (k : Nat)), (0, uu 12), (0, uu 13), (0, uu 14), (0, uu 15), (0, uu 16), (0, uu 17), (0, uu 18), (0, uu 19), (0, uu 20), (0, uu 21), (0, uu 22), (0, uu 23), (0, uu 24)]) (fun (k : Nat) (ys : List LTerm) => [Wk.row 37 5 p' t.kids.length c' (encL ys), Wk.box b2 37 zeroL.cells, Wk.box b1 37 [.int .i64 t.kind, .int .i64 t.user, .int .i64 t.num, str t.text, .slice p' t.kids.length c'], ext M]) (fun (k : Nat) (ys : List LTerm) => [AllL ys, LtF t]) (fun (k : Nat) (ys : List LTerm) => k ≤ t.kids.length ∧ ys.length = t.kids.length ∧ ys.map LTerm.t = t.kids.map LTerm.t ∧ ys.drop k = t.kids.drop k) (fun (k : Nat) (ys : List LTerm) => t.kids.length - k) (0) (t.kids) ?_ S.uu ?_ ?_
  · exact ⟨Nat.zero_le _, rfl, rfl, rfl⟩
  · exact S.add (Φ := AllL t.kids) (AllL.stable fun x hx => kid_st (S.t t) hx)
  · clear S; rintro k ys uu a w ⟨hk, hyl, hym, hyd⟩ S
    refine c_seq ?_; refine c_region ?_; refine sq S ?_; clear S; intro a S; refine wl_nil ?_; refine xtn ?_; refine c_seq ?_
    refine c_cond S (fun h3 => ?_) (fun h3 => ?_)
    · refine c_skip ?_; refine xtn ?_; refine c_seq ?_; refine c_block ?_; refine c_seq ?_
      have hkl : k < t.kids.length := by simp at h3; omega
      have hK : KLt k t.kids.length := ⟨hkl⟩
      have hyk : ys[k]? = some (nthL t.kids k) := by
        have := congrArg (fun l => l[0]?) hyd
        simp only [List.getElem?_drop, Nat.add_zero] at this
        rw [this, nth_get hkl]
      refine c_region ?_; (iterate 2 (refine sq S ?_; clear S; intro a S)); refine wl_nil ?_; refine xtn ?_
      refine c_drwe1 (.q 0 (.q 1 (.q 2 (.q 3 (.q 4 (.q 5 (.l 6 (.l 7 (.l 8 (.l 9 (.l 10 (.e)))))))))))) S (fun (ys' : List LTerm) uu => [(14, uu 14), (0, uu 15), (0, uu 16), (0, uu 17), (0, uu 18), (0, uu 19), (0, uu 20), (0, uu 21), (0, uu 22), (0, uu 23)]) [Wk.box b2 37 zeroL.cells, Wk.box b1 37 [.int .i64 t.kind, .int .i64 t.user, .int .i64 t.num, str t.text, .slice p' t.kids.length c'], ext M] (fun (ys' : List LTerm) => [Wk.row 37 5 p' t.kids.length c' (encL ys'), Wk.box b2 37 zeroL.cells, Wk.box b1 37 [.int .i64 t.kind, .int .i64 t.user, .int .i64 t.num, str t.text, .slice p' t.kids.length c'], ext M]) (fun (ys' : List LTerm) => [AllL ys', LtF t]) (fun (ys' : List LTerm) => ys'.length = t.kids.length ∧ ys'.map LTerm.t = t.kids.map LTerm.t ∧ ys'.drop (k + 1) = t.kids.drop (k + 1)) ?_ ?_
      · intro w S
        (iterate 6 (refine tq S ?_; clear S; intro a S)); refine tl ?_; refine sq S ?_; clear S; intro a S; refine te S ?_; refine tl ?_
        refine slrA (nthL t.kids k).cells S t.kids.length (fun j v hj => ?_) ?_
        · have hj5 : j < 5 := (List.getElem?_eq_some_iff.1 hj).1
          rw [← hj]; exact encL_get ys k _ hyk j hj5
        clear S; intro a S
        refine te S ?_; refine tl ?_
        refine sr S (ih (nthL t.kids k) _ w (by have := LTerm.kid_lt (nth_mem hkl); omega) (hkc _ (nth_mem hkl)) (foots_lt S) (kid_st (S.t t) (nth_mem hkl))) ?_; clear S; rintro _ a w ⟨r, rfl, hr, hrf⟩ S
        replace S := S.add (Φ := LtF r) (hrf.imp fun _ h => h.1)
        refine te S ?_; refine tl ?_; refine sq S ?_; clear S; intro a S; refine te S ?_; refine tl ?_
        refine sws S t.kids.length (by omega) (by omega) ?_; clear S; intro a w S
        rw [encL_set ys k r (by omega)] at S
        refine te S ?_; refine tn ?_
        refine ⟨ys.set k r, S.uu, ⟨by simpa using hyl, set_map ys k r _ hym (by rw [List.getElem?_map, nth_get hkl, hr]; rfl), ?_⟩, ?_⟩
        · rw [List.drop_set_of_lt (by omega), ← List.drop_drop, hyd, List.drop_drop]
        · have h1 : Stable _ _ (AllL ys) := S.wd.facts (AllL ys) (by simp)
          have h2 := S.t r
          replace S := S.add (Φ := AllL (ys.set k r)) (fun w' hw' x hx => by
            rcases List.mem_or_eq_of_mem_set hx with h | rfl
            · exact h1 w' hw' x h
            · exact h2 w' hw')
          exact S.sub _ _
      clear S; rintro ys' uu a w ⟨hyl', hym', hyd'⟩ S
      refine xbn ?_; refine xtn ?_; refine c_region ?_; (iterate 2 (refine sq S ?_; clear S; intro a S)); refine wl_nil ?_; refine xtn ?_
      rw [w64 ((k : Int) + 1) (by omega) (by omega)] at S
      exact ⟨k + 1, ys', S.uu, ⟨hkl, hyl', hym', hyd'⟩, S.sub _ _, by omega⟩
    · refine c_exit ?_; (iterate 2 (refine xte ?_)); refine xbe ?_; refine xtn ?_; refine c_seq ?_; refine c_region ?_; refine sq S ?_; clear S; intro a S; refine sw S ?_; clear S; intro a w S; refine wl_nil ?_; refine xtn ?_; refine c_ret ?_
      have hrow := S.row p' t.kids.length
      have hnew := S.rowNew p' t.kids.length
      have hall := S.laterFact (Φ := AllL ys) (by simp)
      refine end1 S (fun _ => ?_)
      refine ⟨.mk t.kind t.user t.num t.text p' c' ys, by simp only [vL, LTerm.kind, LTerm.user, LTerm.num, LTerm.text, LTerm.p, LTerm.cap, LTerm.kids, hyl], ?_, fun w' hw' => ?_⟩
      · rw [t.t_eq, ← hym]; exact LTerm.t_eq _
      · have hls := ls_of_own hrow (fun x hx => AllL.get hall hx) (fun ad h hm => (hnew ad h).elim id (fun h2 => by have := hM _ hm; omega))
        refine ⟨⟨by rw [hyl]; exact own_le hrow, own_cap hrow, hls w' hw'⟩, ?_, fun ad h => (hnew ad h).elim (fun h => h.elim) id⟩
        have h3 : (Wk.row 37 5 p' t.kids.length c' (encL ys)).holds w' := row_loc _ _ _ _ _ _ w w' (fun k hk => hw'.blk (row_foot_lt hrow k hk) (fun hm => by obtain ⟨ad, h, rfl⟩ := hk; exact (hnew ad h).elim id (fun h2 => by have := hM _ hm; omega))) hrow
        have h4 : w'.ownsRow 0 37 5 (.slice p' ys.length c') ys.length (encL ys) := by rw [hyl]; exact h3
        exact h4
theorem copiedo_c (t : LTerm) (M : Nat → Prop) (w0 : World) (hc : cnt t.t ≤ 1200) (hM : ∀ k, M k → k < w0.heap.size) (hf : Stable M w0 (LtF t)) : Ret Try.prog 28 [vL t] w0 (fun _ => False) fun v w' => IsTo M w0.heap.size w' v t.t := copied_c0 _ t M w0 (Nat.lt_succ_self _) hc hM hf
theorem copied_c (t : LTerm) (M : Nat → Prop) (w0 : World) (hc : cnt t.t ≤ 1200) (hM : ∀ k, M k → k < w0.heap.size) (hf : Stable M w0 (LtF t)) : Ret Try.prog 28 [vL t] w0 (fun _ => False) fun v w' => IsT M w' v t.t := (copied_c0 _ t M w0 (Nat.lt_succ_self _) hc hM hf).mono fun _ _ h => h.t
theorem right1_c (t : LTerm) (w0 : World) (hf : Stable (fun _ => False) w0 (LtF t)) : Ret Try.prog 42 [vL t] w0 (fun _ => False) fun v _ => v = .bool (badF t.t) := by
  refine enter Try.func42 rfl rfl (Wd.begin (fs := [LtF t]) (by simpa using hf)) (fun a S => ?_)
  simp only [Try.ntmps42, List.length_cons, List.length_nil, Nat.reduceAdd, Nat.reduceSub, List.replicate_succ, List.replicate_zero, List.cons_append, List.nil_append] at S
  refine c_seq ?_; refine c_region ?_
  refine sa S ?_; clear S; intro b1 a w S
  refine sq S ?_; clear S; intro a S; refine wl_nil ?_; refine xtn ?_; refine c_seq ?_; refine c_region ?_; refine sq S ?_; clear S; intro a S; refine sc S ?_; clear S; intro a w S; (iterate 2 (refine sq S ?_; clear S; intro a S)); refine wl_nil ?_; refine xtn ?_; refine c_ret ?_
  refine end1 S (fun _ => rfl)
theorem aright_c (xs : List LTerm) (p : Option Addr) (c : Nat) (w0 : World) (hl : xs.length ≤ 10000000) (hx : Stable (fun _ => False) w0 (LsF p 0 xs)) :
    Ret Try.prog 25 [.slice p xs.length c] w0 (fun _ => False) fun v _ => v = .int .i64 (if (xs.map LTerm.t).any badF then 150 else 0) := by
  refine enter Try.func25 rfl rfl (Wd.begin (fs := [LsF p 0 xs]) (by simpa using hx)) (fun a S => ?_)
  simp only [Try.ntmps25, List.length_cons, List.length_nil, Nat.reduceAdd, Nat.reduceSub, List.replicate_succ, List.replicate_zero, List.cons_append, List.nil_append] at S
  refine c_seq ?_; refine c_region ?_; refine sq S ?_; clear S; intro a S; refine wl_nil ?_; refine xtn ?_; (iterate 2 (refine c_seq ?_)); refine c_region ?_; refine sq S ?_; clear S; intro a S
  have hls := S.mem.fact0 (LsF p 0 xs)
  have hcc := contains_c 42 [] (fun x => badF x.t) xs p xs.length c _ rfl (by omega) hls fun x hx w' hw' => right1_c x w' ((kids_st hls hx).later hw')
  refine sr S hcc ?_
  clear S hcc hls; rintro _ a w rfl S
  refine wl_nil ?_; refine xtn ?_
  refine c_cond S (fun h1 => ?_) (fun h1 => ?_)
  · refine c_seq ?_; refine c_region ?_; refine sq S ?_; clear S; intro a S; refine wl_nil ?_; refine xtn ?_; refine c_ret ?_; refine xtr ?_
    refine end1 S (fun _ => ?_)
    rw [if_pos (by rw [List.any_map]; exact h1)]
  · refine c_skip ?_; refine xtn ?_; refine c_seq ?_; refine c_region ?_; refine sq S ?_; clear S; intro a S; refine wl_nil ?_; refine xtn ?_; refine c_ret ?_
    refine end1 S (fun _ => ?_)
    rw [if_neg (by rw [List.any_map]; simpa using h1)]
def OkK (K : List Term) (n : Nat) : Prop := n ≤ 500 ∧ (∀ t ∈ K, Good t) ∧ K.Nodup
theorem OkK.snoc {K : List Term} {n : Nat} {t : Term} : OkK (K ++ [t]) n ↔ OkK K n ∧ Good t ∧ t ∉ K := by
  unfold OkK
  rw [List.nodup_append]
  constructor
  · rintro ⟨h1, h2, h3, -, h5⟩
    exact ⟨⟨h1, fun x hx => h2 x (by simp [hx]), h3⟩, h2 t (by simp), fun h => h5 t h t (by simp) rfl⟩
  · rintro ⟨⟨h1, h2, h3⟩, h4, h5⟩
    refine ⟨h1, fun x hx => ?_, h3, by simp, fun x hx y hy => ?_⟩
    · rcases List.mem_append.1 hx with hx | hx
      · exact h2 x hx
      · rw [List.mem_singleton.1 hx]; exact h4
    · rw [List.mem_singleton.1 hy]; rintro rfl; exact h5 hx
def lastU (us : List Int) : Nat → Int
  | 0 => 0
  | j + 1 => nthI us j
def UP (K : List Term) (us : List Int) (i : Nat) : Prop := (1 ≤ nthI us i ∧ nthI us i ≤ 6) ∧ lastU us i < nthI us i ∧ secretT (nthI us i) ∈ K
def RightA (K : List Term) (us : List Int) : Prop := OkK K K.length ∧ ∀ i < us.length, UP K us i
noncomputable def chkA (K : List Term) (us : List Int) : Int := @ite _ (RightA K us) (Classical.propDecidable _) 0 320
theorem chkA_zero {K : List Term} {us : List Int} : chkA K us = 0 ↔ RightA K us := by
  unfold chkA
  by_cases h : RightA K us
  · simp [h]
  · simp [h]
theorem chkA_pos {K : List Term} {us : List Int} (h : RightA K us) : chkA K us = 0 := chkA_zero.2 h
theorem chkA_neg {K : List Term} {us : List Int} (h : ¬ RightA K us) : chkA K us = 320 := by unfold chkA; rw [if_neg h]
theorem take_map_succ (ks : List LTerm) (k : Nat) (h : k < ks.length) : (ks.take (k + 1)).map LTerm.t = (ks.take k).map LTerm.t ++ [(nthL ks k).t] := by
  rw [List.take_add_one, nth_get h, List.map_append]; rfl
abbrev vA (pu : Option Addr) (nu cu : Nat) (pk : Option Addr) (nk ck : Nat) : Value := .agg #[.slice pu nu cu, .slice pk nk ck]
theorem mem_names {K : List LTerm} {t : Term} (hK : ∀ x ∈ K, Good x.t) (ht : Good t) : nameF t ∈ K.map (fun x => nameF x.t) ↔ t ∈ K.map LTerm.t := by
  constructor
  · intro h
    obtain ⟨x, hx, he⟩ := List.mem_map.1 h
    rw [← name_inj (hK x hx) ht he]
    exact List.mem_map.2 ⟨x, hx, rfl⟩
  · intro h
    obtain ⟨x, hx, rfl⟩ := List.mem_map.1 h
    exact List.mem_map.2 ⟨x, hx, rfl⟩
theorem acheck_c (us : List Int) (ks : List LTerm) (pu pk : Option Addr) (cu ck : Nat) (w0 : World) (hul : us.length ≤ 1000000) (hkl0 : ks.length ≤ 1000000) (hu : Stable (fun _ => False) w0 (SlF pu (encL us))) (hk : Stable (fun _ => False) w0 (LsF pk 0 ks)) :
    Ret Try.prog 24 [vA pu us.length cu pk ks.length ck] w0 (fun _ => False) fun v _ => v = .int .i64 (chkA (ks.map LTerm.t) us) := by
  refine enter Try.func24 rfl rfl (Wd.begin (fs := [SlF pu (encL us), LsF pk 0 ks]) (by simp; exact ⟨hu, hk⟩)) (fun a S => ?_)
  simp only [Try.ntmps24, List.length_cons, List.length_nil, Nat.reduceAdd, Nat.reduceSub, List.replicate_succ, List.replicate_zero, List.cons_append, List.nil_append] at S
  refine c_seq ?_; refine c_region ?_
  refine sa S ?_; clear S; intro b1 a w S
  refine sq S ?_; clear S; intro a S; refine wl_nil ?_; refine xtn ?_; refine c_seq ?_; refine c_region ?_; (iterate 5 (refine sq S ?_; clear S; intro a S)); refine wl_nil ?_; refine xtn ?_; refine c_seq ?_; refine c_region ?_
  refine smm S ?_; clear S; intro bm a w S
  refine sq S ?_; clear S; intro a S; refine wl_nil ?_; refine xtn ?_; (iterate 2 (refine c_seq ?_)); refine c_region ?_; (iterate 4 (refine sq S ?_; clear S; intro a S)); refine wl_nil ?_; refine xtn ?_; refine c_block ?_
  refine c_forf3 S (fun (k : Nat) (ok : Bool) (ns : List (List UInt8)) uu => [(3, .bool ok), (2, uu 6), (11, .int .i64 (k : Nat)), (0, uu 19), (0, uu 20), (0, uu 21), (0, uu 22), (0, uu 23), (0, uu 24), (0, uu 25), (0, uu 26), (0, uu 27), (0, uu 28), (0, uu 29), (0, uu 30), (0, uu 31), (0, uu 32), (0, uu 33)]) (fun (k : Nat) (ok : Bool) (ns : List (List UInt8)) => [mp bm (kvT ns), Wk.box b1 25 [.slice pu us.length cu, .slice pk ks.length ck]]) (fun (k : Nat) (ok : Bool) (ns : List (List UInt8)) => k ≤ ks.length ∧ (ok = true ↔ OkK ((ks.take k).map LTerm.t) ks.length) ∧ (ok = true → ∀ s, s ∈ ns ↔ s ∈ (ks.take k).map fun x => nameF x.t)) (fun (k : Nat) (ok : Bool) (ns : List (List UInt8)) => ks.length - k) (0) (decide ((ks.length : Int) ≤ 500)) ([]) ?_ S.uu ?_ ?_
  · refine ⟨Nat.zero_le _, ?_, ?_⟩
    · simp [OkK]; omega
    · simp
  · first | exact S | exact S.sub _ _
  · clear S; rintro k ok ns uu a w ⟨hkk, hok, hns⟩ S
    refine c_seq ?_; refine c_region ?_; refine sq S ?_; clear S; intro a S; refine wl_nil ?_; refine xtn ?_; refine c_seq ?_
    refine c_cond S (fun h4 => ?_) (fun h4 => ?_)
    · refine c_skip ?_; refine xtn ?_; refine c_seq ?_; refine c_block ?_; refine c_seq ?_
      have hkl : k < ks.length := by simp at h4; omega
      have hK : KLt k ks.length := ⟨hkl⟩
      have hstep := OkK.snoc (K := (ks.take k).map LTerm.t) (n := ks.length) (t := (nthL ks k).t)
      rw [← take_map_succ ks k hkl] at hstep
      refine c_region ?_; (iterate 2 (refine sq S ?_; clear S; intro a S))
      refine sa S ?_; clear S; intro b6 a w S
      refine sw S ?_; clear S; intro a w S; refine wl_nil ?_; refine xtn ?_; refine c_region ?_; (iterate 2 (refine sq S ?_; clear S; intro a S))
      refine gS S (fun hb1 S => ?_) (fun hb1 S => ?_)
      · refine gT S ?_; refine sq S ?_; clear S; intro a S; refine gT S ?_; refine sc S ?_; clear S; intro a w S; refine gT S ?_; (iterate 3 (refine sq S ?_; clear S; intro a S))
        refine gS S (fun hb2 S => ?_) (fun hb2 S => ?_)
        · refine gT S ?_; refine sq S ?_; clear S; intro a S; refine gT S ?_; refine sq S ?_; clear S; intro a S; refine gT S ?_
          have hG : Good (nthL ks k).t := good_check.1 (by simpa using hb2)
          refine sri (mp bm (kvT ns)) S (bput_c (nthL ks k) bm ns w (S.wd.held _ (by simp)) ((S.t (nthL ks k)).less (fun x _ hx => ⟨mp bm (kvT ns), by simp, hx⟩))) rfl ?_; clear S; rintro _ a w ⟨rfl, hm⟩ hS
          have S := hS (mp bm (kvT (addN ns (nameF (nthL ks k).t)))) _ inferInstance hm (fun k hk => .inl hk) (mp_lt hm) (mp_loc _ _)
          clear hS
          (iterate 2 (refine sq S ?_; clear S; intro a S)); refine wl_nil ?_; refine xbn ?_; refine xtn ?_; refine c_region ?_; (iterate 2 (refine sq S ?_; clear S; intro a S)); refine wl_nil ?_; refine xtn ?_
          rw [w64 ((k : Int) + 1) (by omega) (by omega)] at S
          have hO := hok.1 hb1
          have hG : Good (nthL ks k).t := good_check.1 (by simpa using hb2)
          have hm1 := mem_names (K := ks.take k) (fun x hx => hO.2.1 _ (List.mem_map.2 ⟨x, hx, rfl⟩)) hG
          have hm2 := hns hb1 (nameF (nthL ks k).t)
          refine ⟨k + 1, !decide (nameF (nthL ks k).t ∈ ns), addN ns (nameF (nthL ks k).t), S.uu, ⟨hkl, ?_, ?_⟩, S.sub _ _, by omega⟩
          · rw [hstep]; simp only [Bool.not_eq_true', decide_eq_false_iff_not, hm2, hm1]
            exact ⟨fun h => ⟨hO, hG, h⟩, fun h => h.2.2⟩
          · intro _ s
            rw [mem_addN, hns hb1 s, List.take_add_one, nth_get hkl, List.map_append]
            simp
        · refine gF S ?_; clear S; intro a S; (iterate 2 (refine gF S ?_; clear S; intro a S)); (iterate 2 (refine sq S ?_; clear S; intro a S)); refine wl_nil ?_; refine xbn ?_; refine xtn ?_; refine c_region ?_; (iterate 2 (refine sq S ?_; clear S; intro a S)); refine wl_nil ?_; refine xtn ?_
          rw [w64 ((k : Int) + 1) (by omega) (by omega)] at S
          have hG : ¬ Good (nthL ks k).t := fun h => by rw [good_check.2 h] at hb2; simp at hb2
          refine ⟨k + 1, false, ns, S.uu, ⟨hkl, ?_, ?_⟩, S.sub _ _, by omega⟩
          · rw [hstep]; exact ⟨nofun, fun h => absurd h.2.1 hG⟩
          · nofun
      · refine gF S ?_; clear S; intro a S; (iterate 2 (refine gF S ?_; clear S; intro a S)); (iterate 2 (refine sq S ?_; clear S; intro a S)); (iterate 3 (refine gF S ?_; clear S; intro a S)); (iterate 2 (refine sq S ?_; clear S; intro a S)); refine wl_nil ?_; refine xbn ?_; refine xtn ?_; refine c_region ?_; (iterate 2 (refine sq S ?_; clear S; intro a S)); refine wl_nil ?_; refine xtn ?_
        rw [w64 ((k : Int) + 1) (by omega) (by omega)] at S
        have hO : ¬ OkK ((ks.take k).map LTerm.t) ks.length := fun h => by rw [hok.2 h] at hb1; cases hb1
        refine ⟨k + 1, false, ns, S.uu, ⟨hkl, ?_, ?_⟩, S.sub _ _, by omega⟩
        · rw [hstep]; exact ⟨nofun, fun h => absurd h.1 hO⟩
        · nofun
    · refine c_exit ?_; (iterate 2 (refine xte ?_)); refine xbe ?_; refine xtn ?_; refine c_seq ?_; refine c_region ?_; refine sq S ?_; clear S; intro a S; refine wl_nil ?_; refine xtn ?_; (iterate 2 (refine c_seq ?_)); refine c_region ?_; (iterate 4 (refine sq S ?_; clear S; intro a S)); refine wl_nil ?_; refine xtn ?_; refine c_block ?_
      rw [List.take_of_length_le (by simp at h4; omega)] at hok hns
      refine c_forf3 S (fun (k : Nat) (ok : Bool) (ns : List (List UInt8)) uu => [(3, .bool ok), (3, .int .i64 (lastU us k)), (1, uu 9), (27, .int .i64 (k : Nat)), (0, uu 38), (0, uu 39), (0, uu 40), (0, uu 41), (0, uu 42), (0, uu 43), (0, uu 44), (0, uu 45), (0, uu 46), (0, uu 47), (0, uu 48), (0, uu 49), (0, uu 50), (0, uu 51), (0, uu 52), (0, uu 53), (0, uu 54), (0, uu 55), (0, uu 56), (0, uu 57), (0, uu 58), (0, uu 59)]) (fun (k : Nat) (ok : Bool) (ns : List (List UInt8)) => [mp bm (kvT ns), Wk.box b1 25 [.slice pu us.length cu, .slice pk ks.length ck]]) (fun (k : Nat) (ok : Bool) (ns : List (List UInt8)) => k ≤ us.length ∧ (ok = true ↔ OkK (ks.map LTerm.t) ks.length ∧ ∀ i < k, UP (ks.map LTerm.t) us i) ∧ (ok = true → ∀ s, s ∈ ns ↔ s ∈ ks.map fun x => nameF x.t)) (fun (k : Nat) (ok : Bool) (ns : List (List UInt8)) => us.length - k) (0) (ok) (ns) ?_ S.uu ?_ ?_
      · exact ⟨Nat.zero_le _, by simpa using hok, hns⟩
      · first | exact S | exact S.sub _ _
      · clear S; rintro k ok ns uu a w ⟨hkk2, hok2, hns2⟩ S
        refine c_seq ?_; refine c_region ?_; refine sq S ?_; clear S; intro a S; refine wl_nil ?_; refine xtn ?_; refine c_seq ?_
        refine c_cond S (fun h10 => ?_) (fun h10 => ?_)
        · refine c_skip ?_; refine xtn ?_; refine c_seq ?_; refine c_block ?_; refine c_seq ?_
          have hkl : k < us.length := by simp at h10; omega
          have hK : KLt k us.length := ⟨hkl⟩
          have hsp : ∀ p : Nat → Prop, (∀ i < k + 1, p i) ↔ (∀ i < k, p i) ∧ p k := fun p => ⟨fun h => ⟨fun i hi => h i (by omega), h k (by omega)⟩, fun h i hi => (Nat.lt_succ_iff_lt_or_eq.1 hi).elim (h.1 i) (fun e => by rw [e]; exact h.2)⟩
          refine c_region ?_; (iterate 3 (refine sq S ?_; clear S; intro a S)); refine wl_nil ?_; refine xtn ?_; refine c_seq ?_; refine c_region ?_; (iterate 2 (refine sq S ?_; clear S; intro a S))
          refine gS S (fun hc1 S => ?_) (fun hc1 S => ?_)
          · refine gT S ?_; refine sq S ?_; clear S; intro a S; refine gT S ?_; refine sc S ?_; clear S; intro a w S; (iterate 2 (refine sq S ?_; clear S; intro a S))
            refine gS S (fun hc2 S => ?_) (fun hc2 S => ?_)
            · refine gT S ?_; refine sq S ?_; clear S; intro a S; refine gT S ?_; refine sq S ?_; clear S; intro a S; refine gT S ?_; (iterate 3 (refine sq S ?_; clear S; intro a S))
              refine gS S (fun hc3 S => ?_) (fun hc3 S => ?_)
              · refine gT S ?_; refine sq S ?_; clear S; intro a S; refine gT S ?_; refine sq S ?_; clear S; intro a S; refine gT S ?_; refine sc S ?_; clear S; intro a w S; refine gT S ?_
                refine sri (mp bm (kvT ns)) S (bput_c (secretL (nthI us k)) bm ns w (S.wd.held _ (by simp)) ((S.t (secretL (nthI us k))).less (fun x _ hx => ⟨mp bm (kvT ns), by simp, hx⟩))) rfl ?_; clear S; rintro _ a w ⟨rfl, hm⟩ hS
                have S := hS (mp bm (kvT (addN ns (nameF (secretL (nthI us k)).t)))) _ inferInstance hm (fun k hk => .inl hk) (mp_lt hm) (mp_loc _ _)
                clear hS
                refine gT S ?_; (iterate 3 (refine sq S ?_; clear S; intro a S)); refine wl_nil ?_; refine xtn ?_; refine c_region ?_; (iterate 2 (refine sq S ?_; clear S; intro a S)); refine wl_nil ?_; refine xbn ?_; refine xtn ?_; refine c_region ?_; (iterate 2 (refine sq S ?_; clear S; intro a S)); refine wl_nil ?_; refine xtn ?_
                rw [w64 ((k : Int) + 1) (by omega) (by omega)] at S
                rw [secretL_t] at S
                obtain ⟨hO, hU⟩ := hok2.1 hc1
                have hu6 : 1 ≤ nthI us k ∧ nthI us k ≤ 6 := by simpa [isUser] using hc2
                have hlt : lastU us k < nthI us k := by simpa using hc3
                have hm1 := mem_names (K := ks) (t := secretT (nthI us k)) (fun x hx => hO.2.1 _ (List.mem_map.2 ⟨x, hx, rfl⟩)) (good_secret hu6)
                have hm2 := hns2 hc1 (nameF (secretT (nthI us k)))
                refine ⟨k + 1, !!decide (nameF (secretT (nthI us k)) ∈ ns), addN ns (nameF (secretT (nthI us k))), S.uu, ⟨hkl, ?_, ?_⟩, S.sub _ _, by omega⟩
                · rw [hsp]; simp only [Bool.not_not, decide_eq_true_eq, hm2, hm1]
                  exact ⟨fun h => ⟨hO, hU, hu6, hlt, h⟩, fun h => h.2.2.2.2⟩
                · intro hq s
                  have hin : nameF (secretT (nthI us k)) ∈ ns := by simpa using hq
                  rw [mem_addN, hns2 hc1 s]
                  exact ⟨fun h => h.elim id (fun e => by rw [e]; exact (hns2 hc1 _).1 hin), .inl⟩
              · refine gF S ?_; clear S; intro a S; (iterate 4 (refine gF S ?_; clear S; intro a S)); (iterate 2 (refine sq S ?_; clear S; intro a S)); refine wl_nil ?_; refine xtn ?_; refine c_region ?_; (iterate 2 (refine sq S ?_; clear S; intro a S)); refine wl_nil ?_; refine xbn ?_; refine xtn ?_; refine c_region ?_; (iterate 2 (refine sq S ?_; clear S; intro a S)); refine wl_nil ?_; refine xtn ?_
                rw [w64 ((k : Int) + 1) (by omega) (by omega)] at S
                have hlt : ¬ lastU us k < nthI us k := by simpa using hc3
                refine ⟨k + 1, false, ns, S.uu, ⟨hkl, ?_, nofun⟩, S.sub _ _, by omega⟩
                rw [hsp]; exact ⟨nofun, fun h => absurd h.2.2.2.1 hlt⟩
            · refine gF S ?_; clear S; intro a S; (iterate 2 (refine gF S ?_; clear S; intro a S)); (iterate 2 (refine sq S ?_; clear S; intro a S)); (iterate 5 (refine gF S ?_; clear S; intro a S)); (iterate 2 (refine sq S ?_; clear S; intro a S)); refine wl_nil ?_; refine xtn ?_; refine c_region ?_; (iterate 2 (refine sq S ?_; clear S; intro a S)); refine wl_nil ?_; refine xbn ?_; refine xtn ?_; refine c_region ?_
              (iterate 2 (refine sq S ?_; clear S; intro a S)); refine wl_nil ?_; refine xtn ?_
              rw [w64 ((k : Int) + 1) (by omega) (by omega)] at S
              have hu6 : ¬ (1 ≤ nthI us k ∧ nthI us k ≤ 6) := fun h => by simp [isUser, h] at hc2
              refine ⟨k + 1, false, ns, S.uu, ⟨hkl, ?_, nofun⟩, S.sub _ _, by omega⟩
              rw [hsp]; exact ⟨nofun, fun h => absurd h.2.2.1 hu6⟩
          · refine gF S ?_; clear S; intro a S; refine gF S ?_; clear S; intro a S; (iterate 2 (refine sq S ?_; clear S; intro a S)); (iterate 3 (refine gF S ?_; clear S; intro a S)); (iterate 2 (refine sq S ?_; clear S; intro a S)); (iterate 5 (refine gF S ?_; clear S; intro a S)); (iterate 2 (refine sq S ?_; clear S; intro a S)); refine wl_nil ?_; refine xtn ?_; refine c_region ?_; (iterate 2 (refine sq S ?_; clear S; intro a S))
            refine wl_nil ?_; refine xbn ?_; refine xtn ?_; refine c_region ?_; (iterate 2 (refine sq S ?_; clear S; intro a S)); refine wl_nil ?_; refine xtn ?_
            rw [w64 ((k : Int) + 1) (by omega) (by omega)] at S
            have hn : ¬ (OkK (ks.map LTerm.t) ks.length ∧ ∀ i < k, UP (ks.map LTerm.t) us i) := fun h => by rw [hok2.2 h] at hc1; cases hc1
            refine ⟨k + 1, false, ns, S.uu, ⟨hkl, ?_, nofun⟩, S.sub _ _, by omega⟩
            rw [hsp]; exact ⟨nofun, fun h => absurd ⟨h.1, h.2.1⟩ hn⟩
        · refine c_exit ?_; (iterate 2 (refine xte ?_)); refine xbe ?_; refine xtn ?_; (iterate 2 (refine c_seq ?_)); refine c_region ?_; (iterate 2 (refine sq S ?_; clear S; intro a S)); refine wl_nil ?_; refine xtn ?_
          refine c_cond S (fun h15 => ?_) (fun h15 => ?_)
          · refine c_seq ?_; refine c_region ?_; refine sq S ?_; clear S; intro a S; refine wl_nil ?_; refine xtn ?_; refine c_ret ?_; refine xtr ?_
            have hn : ¬ RightA (ks.map LTerm.t) us := fun h => by
              have hke : k = us.length := by simp at h10; omega
              have : ok = true := hok2.2 ⟨by simpa using h.1, fun i hi => h.2 i (by omega)⟩
              rw [this] at h15; simp at h15
            refine end1 S (fun _ => ?_)
            rw [chkA_neg hn]
          · refine c_skip ?_; refine xtn ?_; refine c_seq ?_; refine c_region ?_; refine sq S ?_; clear S; intro a S; refine wl_nil ?_; refine xtn ?_; refine c_ret ?_
            have hke : k = us.length := by simp at h10; omega
            have hk2 : ok = true := by simpa using h15
            have h := hok2.1 hk2
            refine end1 S (fun _ => ?_)
            rw [chkA_pos ⟨by simpa using h.1, fun i hi => h.2 i (by omega)⟩]
end Go.Proofs.Ytibkkbknnfehlaa