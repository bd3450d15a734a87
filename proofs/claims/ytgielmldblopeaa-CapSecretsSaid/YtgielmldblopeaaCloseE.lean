/- Package close: apart. -/
import Derived.Test.YtgielmldblopeaaCloseD
namespace Go.Proofs.Ytgielmldblopeaa
open Go Go.Wk
set_option synthInstance.maxSize 100000
set_option synthInstance.maxHeartbeats 400000
set_option maxRecDepth 100000

def UF (w0 : World) : World → Prop := fun w => ∀ x, Stable (fun _ => False) w0 (LtF x) → LtIn w x
theorem hasT_old {fs : List (World → Prop)} {w0 : World} {x : LTerm} [h : HasFact fs (UF w0)] (hx : Stable (fun _ => False) w0 (LtF x)) : HasT fs x := ⟨fun _ _ hf => (hf _ h.mem).imp fun _ hw => hw x hx⟩
theorem kvPut_new {k : List UInt8} {x : LTerm} {km : List (List UInt8 × LTerm)} (h : inM km k = false) : kvPut k (vL x) (kvM km) = kvM (km ++ [(k, x)]) := by
  have h1 : ∀ (km : List (List UInt8 × LTerm)) (i : Nat), inM km k = false → kvIdx k (kvM km) i = none := by
    intro km
    induction km with
    | nil => intro i _; rfl
    | cons e km ih =>
      intro i h
      obtain ⟨u, y⟩ := e
      have h2 : ¬ k = u := fun e => by
        rw [inM, tget, if_pos e] at h; cases h
      show kvIdx k ((u, vL y) :: kvM km) i = none
      rw [kvIdx, if_neg h2]
      refine ih _ ?_
      rw [inM, tget, if_neg h2] at h; exact h
  rw [kvPut_none (h1 km 0 h)]
  simp [kvM]
theorem encL_pop (st : List LTerm) (x : LTerm) : (encL (st ++ [x])).take (st.length * 5) = encL st := by
  have e : (encL (st ++ [x])).take (st.length * 5) = encL ((st ++ [x]).take st.length) := encL_take (st ++ [x]) st.length
  rw [e, List.take_left]
theorem encL_at {xs : List LTerm} {k : Nat} {x : LTerm} (h : xs[k]? = some x) {j : Nat} {v : Value} (hj : x.cells[j]? = some v) : (encL xs)[k * 5 + j]? = some v := by
  have hj5 : j < 5 := (List.getElem?_eq_some_iff.1 hj).1
  rw [← hj]; exact encL_get xs k x h j hj5
theorem kids6 {x : LTerm} (h : Good x.t) (hk : x.kind = 6) : 0 < x.kids.length := by
  rw [x.t_eq] at h
  cases ok_of_size h with
  | mk hp _ =>
    have := plain_shape hp
    rw [List.length_map] at this
    omega
structure AS where
  p : Option Addr
  c : Nat
  ps : Option Addr
  cs : Nat
  st : List LTerm
  sh : List LTerm
  km : List (List UInt8 × LTerm)
  Ds : List Nat
theorem apart_c (xs : List LTerm) (p : Option Addr) (c : Nat) (w0 : World) (hl : xs.length ≤ 500) (hx : Stable (fun _ => False) w0 (LsF p 0 xs)) (hg : ∀ x ∈ xs, Good x.t) :
    Ret Try.prog 79 [.slice p xs.length c] w0 (fun _ => False) fun v w' => ∃ b km, v = .map (some b) ∧ MpF b (kvM km) w' ∧ w0.heap.size ≤ b ∧ Apart (xs.map LTerm.t) km ∧ km.length ≤ 1200000 ∧ ∀ e ∈ km, Stable (fun k => k = b) w' (LtF e.2) ∧ SubT (xs.map LTerm.t) e.2.t := by
  obtain ⟨O, hOdef⟩ : ∃ O : LTerm → Prop, O = fun x => Stable (fun _ => False) w0 (LtF x) ∧ SubT (xs.map LTerm.t) x.t := ⟨_, rfl⟩
  have hO : ∀ x, O x → ∀ y ∈ x.kids, O y := fun x h y hy => by
    rw [hOdef] at h ⊢
    refine ⟨kid_st h.1 hy, ?_⟩
    have h2 := h.2
    rw [x.t_eq] at h2
    exact .kid h2 (List.mem_map.2 ⟨y, hy, rfl⟩)
  have hW : wS xs ≤ 1200000 := by
    have : ∀ l : List LTerm, (∀ x ∈ l, Good x.t) → wS l ≤ 2400 * l.length := by
      intro l
      induction l with
      | nil => intro _; simp [wS]
      | cons x l ih =>
        intro h
        have h1 := good_le (h x (by simp))
        have h2 := ih fun y hy => h y (by simp [hy])
        simp only [wS, List.map_cons, List.sum_cons, List.length_cons] at h2 ⊢
        omega
    have := this xs hg
    omega
  refine enterM Try.func79 rfl rfl (Wd.begin (fs := [LsF p 0 xs, UF w0]) (by simp; exact ⟨hx, fun w' hw' x hx' => hx' w' hw'⟩)) (fun a S => ?_)
  simp only [Try.ntmps79, List.length_cons, List.length_nil, Nat.reduceAdd, Nat.reduceSub, List.replicate_succ, List.replicate_zero, List.cons_append, List.nil_append] at S
  refine c_seq ?_
  refine c_region ?_
  refine sq S ?_; clear S; intro a S
  refine wl_nil ?_
  refine xtn ?_
  refine c_scope ?_
  refine c_seq ?_
  refine c_region ?_
  refine smm S ?_; clear S; intro b a w S
  refine sq S ?_; clear S; intro a S
  refine wl_nil ?_
  refine xtn ?_
  refine c_seq ?_
  refine c_region ?_
  refine sq S ?_; clear S; intro a S
  refine srn S (clone_c xs p _ c w rfl (by omega) (S.mem.fact0 (LsF p 0 xs))) ?_; clear S; rintro _ a w ⟨p2, c2, rfl, hown, hnew⟩ hS -
  have S := hS hown hnew
  clear hS hown hnew
  refine sa S ?_; clear S; intro b4 a w S
  refine sw S ?_; clear S; intro a w S
  refine wl_nil ?_
  refine xtn ?_
  refine c_seq ?_
  refine c_region ?_
  refine sq S ?_; clear S; intro a S
  refine wl_nil ?_
  refine xtn ?_
  refine c_seq ?_
  refine c_label ?_
  refine xtn ?_
  refine c_seq ?_
  refine c_block ?_
  replace S := S.addNil 35 5
  refine c_loop (ι := AS) (fun s a w => ∃ p2 c2 ps cs st sh km Ds, s = AS.mk p2 c2 ps cs st sh km Ds ∧ AInv (xs.map LTerm.t) O st sh km ∧ wS st + wH sh + km.length ≤ 1200000 ∧ ∃ uu : Nat → Value,  St w0 (fun _ => False) (dsOf Ds) a w ((.slice p xs.length c) :: uu 1 :: uu 2 :: (.map (some b)) :: (.pointer (some ⟨b4, 0, none⟩)) :: (.slice ps sh.length cs) :: uu 6 :: uu 7 :: uu 8 :: uu 9 :: uu 10 :: uu 11 :: uu 12 :: uu 13 :: uu 14 :: uu 15 :: uu 16 :: uu 17 :: uu 18 :: uu 19 :: uu 20 :: uu 21 :: uu 22 :: uu 23 :: uu 24 :: uu 25 :: uu 26 :: uu 27 :: uu 28 :: uu 29 :: uu 30 :: uu 31 :: uu 32 :: uu 33 :: uu 34 :: uu 35 :: uu 36 :: uu 37 :: uu 38 :: uu 39 :: uu 40 :: uu 41 :: uu 42 :: uu 43 :: uu 44 :: uu 45 :: uu 46 :: uu 47 :: uu 48 :: uu 49 :: uu 50 :: uu 51 :: uu 52 :: uu 53 :: uu 54 :: uu 55 :: uu 56 :: uu 57 :: uu 58 :: uu 59 :: uu 60 :: uu 61 :: uu 62 :: uu 63 :: uu 64 :: uu 65 :: uu 66 :: uu 67 :: uu 68 :: uu 69 :: uu 70 :: uu 71 :: uu 72 :: uu 73 :: uu 74 :: uu 75 :: uu 76 :: uu 77 :: uu 78 :: uu 79 :: uu 80 :: uu 81 :: uu 82 :: uu 83 :: uu 84 :: uu 85 :: []) [Wk.row 35 5 ps sh.length cs (encL sh), Wk.box b4 23 [.slice p2 st.length c2], Wk.row 35 5 p2 st.length c2 (encL st), mp b (kvM km), marks Ds] [LsF p 0 xs, UF w0]) (fun s => wS s.st + wH s.sh) ⟨p2, c2, none, 0, xs, [], [], []⟩ ?_ ?_
  · exact ⟨_, _, _, _, _, _, _, _, rfl, AInv.start xs rfl (fun x hx' => ⟨by rw [hOdef]; exact ⟨kids_st hx hx', .top (List.mem_map.2 ⟨x, hx', rfl⟩)⟩, hg x hx'⟩), by simpa [wH] using hW, S.uu, S⟩
  · clear S p2 c2
    rintro _ a w ⟨p20, c20, ps0, cs0, st0, sh0, km0, Ds0, rfl, hI, hw0, uu, S⟩
    refine c_block ?_
    refine c_seq ?_
    refine c_block ?_
    refine c_loop (ι := AS) (fun s a w => ∃ p2 c2 ps cs st sh km Ds, s = AS.mk p2 c2 ps cs st sh km Ds ∧ AInv (xs.map LTerm.t) O st sh km ∧ wS st + wH sh ≤ wS st0 + wH sh0 ∧ wS st + wH sh + km.length ≤ 1200000 ∧ ∃ uu : Nat → Value,  St w0 (fun _ => False) (dsOf Ds) a w ((.slice p xs.length c) :: uu 1 :: uu 2 :: (.map (some b)) :: (.pointer (some ⟨b4, 0, none⟩)) :: (.slice ps sh.length cs) :: uu 6 :: uu 7 :: uu 8 :: uu 9 :: uu 10 :: uu 11 :: uu 12 :: uu 13 :: uu 14 :: uu 15 :: uu 16 :: uu 17 :: uu 18 :: uu 19 :: uu 20 :: uu 21 :: uu 22 :: uu 23 :: uu 24 :: uu 25 :: uu 26 :: uu 27 :: uu 28 :: uu 29 :: uu 30 :: uu 31 :: uu 32 :: uu 33 :: uu 34 :: uu 35 :: uu 36 :: uu 37 :: uu 38 :: uu 39 :: uu 40 :: uu 41 :: uu 42 :: uu 43 :: uu 44 :: uu 45 :: uu 46 :: uu 47 :: uu 48 :: uu 49 :: uu 50 :: uu 51 :: uu 52 :: uu 53 :: uu 54 :: uu 55 :: uu 56 :: uu 57 :: uu 58 :: uu 59 :: uu 60 :: uu 61 :: uu 62 :: uu 63 :: uu 64 :: uu 65 :: uu 66 :: uu 67 :: uu 68 :: uu 69 :: uu 70 :: uu 71 :: uu 72 :: uu 73 :: uu 74 :: uu 75 :: uu 76 :: uu 77 :: uu 78 :: uu 79 :: uu 80 :: uu 81 :: uu 82 :: uu 83 :: uu 84 :: uu 85 :: []) [Wk.row 35 5 ps sh.length cs (encL sh), Wk.box b4 23 [.slice p2 st.length c2], Wk.row 35 5 p2 st.length c2 (encL st), mp b (kvM km), marks Ds] [LsF p 0 xs, UF w0]) (fun s => wS s.st + wH s.sh) ⟨p20, c20, ps0, cs0, st0, sh0, km0, Ds0⟩ ?_ ?_
    · exact ⟨_, _, _, _, _, _, _, _, rfl, hI, Nat.le_refl _, hw0, S.uu, S⟩
    · clear S hI
      rintro _ a w ⟨p2, c2, ps, cs, st, sh, km, Ds, rfl, hI, hwt, hkn, uu, S⟩
      have hls := wS_len st
      have hlh := wH_len sh
      iterate 2 (refine c_seq ?_)
      refine c_region ?_
      iterate 3 (refine sq S ?_; clear S; intro a S)
      refine wl_nil ?_
      refine xtn ?_
      refine c_cond S (fun h4 => ?_) (fun h4 => ?_)
      · refine c_skip ?_
        refine xtn ?_
        refine c_block ?_
        refine c_seq ?_
        obtain ⟨st', x, rfl⟩ : ∃ st' x, st = st' ++ [x] := by
          have hne : st ≠ [] := by rintro rfl; simp at h4
          exact ⟨st.dropLast, st.getLast hne, (List.dropLast_concat_getLast hne).symm⟩
        have hlen : (st' ++ [x]).length = st'.length + 1 := by simp
        rw [hlen] at S hls
        obtain ⟨hox, hgx, hdx⟩ := hI.old x (.inl (by simp))
        have hxo : Stable (fun _ => False) w0 (LtF x) := by rw [hOdef] at hox; exact hox.1
        have hT : HasT [LsF p 0 xs, UF w0] x := hasT_old hxo
        have hKL : KLt st'.length (st'.length + 1) := ⟨by omega⟩
        have hwx : wS (st' ++ [x]) = wS st' + 2 * cnt x.t := by rw [wS_append]; simp [wS]
        have hcx := cnt_pos x.t
        have hsub : IntKind.i64.wrap (((st'.length + 1 : Nat) : Int) - 1) = (st'.length : Int) := by rw [w64 _ (by omega) (by omega)]; omega
        refine c_region ?_
        iterate 4 (refine sq S ?_; clear S; intro a S)
        rw [hsub] at S
        refine sq S ?_; clear S; intro a S
        refine slrA x.cells S (st'.length + 1) (fun j v hj => encL_at (by simp) hj) ?_; clear S; intro a S
        refine sa S ?_; clear S; intro b6 a w S
        refine sw S ?_; clear S; intro a w S
        refine wl_nil ?_
        refine xtn ?_
        refine c_seq ?_
        refine c_region ?_
        iterate 4 (refine sq S ?_; clear S; intro a S)
        rw [hsub] at S
        refine scut S (by omega) ?_; clear S; intro a S
        rw [encL_pop] at S
        refine sw S ?_; clear S; intro a w S
        refine wl_nil ?_
        refine xtn ?_
        refine c_seq ?_
        refine c_region ?_
        refine sq S ?_; clear S; intro a S
        refine sc S ?_; clear S; intro a w S
        refine sq S ?_; clear S; intro a S
        refine wl_nil ?_
        refine xtn ?_
        iterate 2 (refine c_seq ?_)
        refine c_region ?_
        iterate 3 (refine sq S ?_; clear S; intro a S)
        rw [kvM_getD, kvM_some] at S
        iterate 3 (refine sq S ?_; clear S; intro a S)
        refine sa S ?_; clear S; intro b8 a w S
        refine sw S ?_; clear S; intro a w S
        refine sq S ?_; clear S; intro a S
        refine wl_nil ?_
        refine xtn ?_
        refine c_seq ?_
        refine c_region ?_
        refine sq S ?_; clear S; intro a S
        refine wl_nil ?_
        refine xtn ?_
        refine c_cond S (fun h9 => ?_) (fun h9 => ?_)
        · refine c_exit ?_
          refine xte ?_
          refine xbe ?_
          refine xtn ?_
          exact ⟨⟨p2, c2, ps, cs, st', sh, km, Ds⟩, ⟨_, _, _, _, _, _, _, _, rfl, hI.found h9, by omega, by omega, S.uu, S.sub _ _⟩, by simp only; omega⟩
        · refine c_skip ?_
          refine xtn ?_
          refine c_seq ?_
          refine c_region ?_
          iterate 3 (refine sq S ?_; clear S; intro a S)
          refine smu S ?_; clear S; intro a w S
          rw [show kvPut (nameF x.t) (.agg ⟨x.cells⟩) (kvM km) = kvM (km ++ [(nameF x.t, x)]) from kvPut_new h9] at S
          refine wl_nil ?_
          refine xtn ?_
          refine c_seq ?_
          refine c_region ?_
          iterate 2 (refine sq S ?_; clear S; intro a S)
          refine wl_nil ?_
          refine xtn ?_
          refine c_block ?_
          refine c_merge (fun a w => ∃ uu : Nat → Value,  St w0 (fun _ => False) (dsOf Ds) a w ((.slice p xs.length c) :: uu 1 :: uu 2 :: (.map (some b)) :: (.pointer (some ⟨b4, 0, none⟩)) :: (.slice ps sh.length cs) :: (.pointer (some ⟨b6, 0, none⟩)) :: uu 7 :: uu 8 :: uu 9 :: uu 10 :: uu 11 :: uu 12 :: uu 13 :: uu 14 :: uu 15 :: uu 16 :: uu 17 :: uu 18 :: uu 19 :: uu 20 :: uu 21 :: uu 22 :: uu 23 :: uu 24 :: uu 25 :: uu 26 :: uu 27 :: uu 28 :: uu 29 :: uu 30 :: uu 31 :: uu 32 :: uu 33 :: uu 34 :: uu 35 :: uu 36 :: uu 37 :: uu 38 :: uu 39 :: uu 40 :: uu 41 :: uu 42 :: (.int .i64 x.kind) :: (.bool (decide (x.kind = 4) || decide (x.kind = 8))) :: uu 45 :: uu 46 :: uu 47 :: uu 48 :: uu 49 :: uu 50 :: uu 51 :: uu 52 :: uu 53 :: uu 54 :: uu 55 :: uu 56 :: uu 57 :: uu 58 :: uu 59 :: uu 60 :: uu 61 :: uu 62 :: uu 63 :: uu 64 :: uu 65 :: uu 66 :: uu 67 :: uu 68 :: uu 69 :: uu 70 :: uu 71 :: uu 72 :: uu 73 :: uu 74 :: uu 75 :: uu 76 :: uu 77 :: uu 78 :: uu 79 :: uu 80 :: uu 81 :: uu 82 :: uu 83 :: uu 84 :: uu 85 :: []) [Wk.box b6 35 x.cells, Wk.row 35 5 ps sh.length cs (encL sh), Wk.box b4 23 [.slice p2 st'.length c2], Wk.row 35 5 p2 st'.length c2 (encL st'), mp b (kvM (km ++ [(nameF x.t, x)])), marks Ds] [LsF p 0 xs, UF w0]) ?_ ?_
          · refine c_seq ?_
            refine c_region ?_
            iterate 2 (refine sq S ?_; clear S; intro a S)
            refine wl_nil ?_
            refine xtn ?_
            refine c_cond S (fun h12 => ?_) (fun h12 => ?_)
            · refine c_skip ?_
              refine xtn ?_
              rw [show decide (x.kind = 4) = (decide (x.kind = 4) || decide (x.kind = 8)) from by rw [h12]; rfl] at S
              exact ⟨S.uu, S.sub _ _⟩
            · refine c_region ?_
              iterate 2 (refine sq S ?_; clear S; intro a S)
              refine wl_nil ?_
              refine xtn ?_
              rw [show decide (x.kind = 8) = (decide (x.kind = 4) || decide (x.kind = 8)) from by rw [h12]; rfl] at S
              exact ⟨S.uu, S.sub _ _⟩
          · clear S; rintro a w ⟨uu, S⟩
            refine c_cond S (fun h12 => ?_) (fun h12 => ?_)
            · refine c_seq ?_
              refine c_region ?_
              iterate 2 (refine sq S ?_; clear S; intro a S)
              have hlt := foots_lt S
              refine sr S (opens_c x b w) ?_; clear S; rintro _ a w ⟨b1, b2, rfl, n1, n2, f1, f2⟩ S
              replace S := S.add (Φ := BoxF b2 119 [.map (some b)]) (BoxF.stable f2 (fun hm => by have := hlt _ hm; omega))
              replace S := S.add (Φ := BoxF b1 35 x.cells) (BoxF.stable f1 (fun hm => by have := hlt _ hm; omega))
              clear hlt n1 n2 f1 f2
              refine wl_nil ?_
              refine xtn ?_
              refine c_block ?_
              obtain ⟨km', hkm'⟩ : ∃ km', km' = km ++ [(nameF x.t, x)] := ⟨_, rfl⟩
              rw [← hkm'] at S
              have hk48 : x.kind = 4 ∨ x.kind = 8 := by simpa using h12
              have hgv : givesF (inM km') x = x.kids := by unfold givesF; rw [if_pos hk48]
              have hown := S.wd.own (mp b (kvM km')) (by simp) rfl
              have hkl := wS_len x.kids
              have hwk := wS_kids x
              replace S := S.toRo (x := mp b (kvM km'))
              refine c_range (κ := Option Addr × Nat) (κx := Empty) (Ds := Ds) x.kids
                (fun i k => [Wk.box b6 35 x.cells, Wk.row 35 5 ps sh.length cs (encL sh), Wk.box b4 23 [.slice k.1 (st'.length + i) k.2], Wk.row 35 5 k.1 (st'.length + i) k.2 (encL (st' ++ x.kids.take i)), (mp b (kvM km')).ro, marks Ds]) (fun _ _ => [BoxF b1 35 x.cells, BoxF b2 119 [.map (some b)], LsF p 0 xs, UF w0]) (fun _ _ => True) (fun k => k.elim) (fun k => k.elim) (fun _ k => k.elim) (p2, c2) S
                (E := fun (y : LTerm) vs _ _ => vs = [vL y]) (gf := 147) (lb := [.pointer (some ⟨b1, 0, none⟩), .pointer (some ⟨b2, 0, none⟩)])
                (fun M w1 hM hF hR => by
                  have := opens_it b1 b2 b x km' w1 M hM (hF _ (by simp)) (hF _ (by simp)) (hR (mp b (kvM km')).ro (by simp) rfl) ((hF (UF w0) (by simp)).imp fun w h => h x hxo) (kids6 hgx)
                  rw [hgv] at this; exact this) ⟨trivial, by simp, rfl⟩ ?_ ?_ ?_ ?_
              · clear S
                rintro L D bL M w1 i y vs ⟨p3, c3⟩ W0 w hy - hW0 hgr rfl
                refine ⟨_, inferInstance, fun a S => ?_⟩
                have hil : i < x.kids.length := (List.getElem?_eq_some_iff.1 hy).1
                have hti : x.kids.take (i + 1) = x.kids.take i ++ [y] := by rw [List.take_add_one, hy]; rfl
                have hKL2 : KLt (st'.length + i) (st'.length + i + 1) := ⟨by omega⟩
                have hrl : (encL (st' ++ x.kids.take i)).length = (st'.length + i) * 5 := S.row p3 (st'.length + i) |>.1
                refine c_region ?_
                refine sa S ?_; clear S; intro b10 a w S
                refine sw S ?_; clear S; intro a w S
                refine wl_nil ?_
                refine xtn ?_
                refine rbegin (D := D) (b := bL) S ?_; clear S; intro a w S
                refine c_block ?_
                refine c_drawT (.q 1 (.b2 0 3 (.q 2 (.l 3 (.l 4 (.b2 5 7 (.b2 6 7 (.l 7 (.e)) (.l 6 (.e))) (.l 5 (.l 6 (.e))))))) (.l 0 (.q 2 (.l 4 (.b2 5 7 (.b2 6 7 (.l 7 (.e)) (.l 6 (.e))) (.l 5 (.l 6 (.e))))))))) [Wk.box b10 35 y.cells] S
                  (fun a w => ∃ (p' : Option Addr) (c' : Nat) (l' : List Value), St w1 M [] a w l' [lpI L D (lpR bL .busy none), Wk.box b6 35 x.cells, Wk.row 35 5 ps sh.length cs (encL sh), Wk.box b4 23 [.slice p' (st'.length + (i + 1)) c'], Wk.row 35 5 p' (st'.length + (i + 1)) c' (encL (st' ++ x.kids.take (i + 1))), (mp b (kvM km')).ro, marks Ds] [BoxF b1 35 x.cells, BoxF b2 119 [.map (some b)], LsF p 0 xs, UF w0]) ?_ ?_
                · intro w S
                  refine tq S ?_; clear S; intro a S
                  refine tb2 ?_ ?_
                  · refine sq S ?_; clear S; intro a S
                    refine te S ?_
                    refine tq S ?_; clear S; intro a S
                    refine tl ?_
                    refine sn S ?_; clear S; intro b54 a w S
                    refine te S ?_
                    refine tl ?_
                    refine sap S (by simp [maxLen]; omega) (by omega) ?_; clear S; rintro p4 c4 a w - S
                    refine te S ?_
                    refine tb2 ?_ ?_
                    · refine sq S ?_; clear S; intro a S
                      refine te S ?_
                      refine tb2 ?_ ?_
                      · refine sws S (st'.length + i + 1) (by omega) (by omega) ?_; clear S; intro a w S
                        refine te S ?_
                        refine tl ?_
                        refine sw S ?_; clear S; intro a w S
                        refine te S ?_
                        refine tn ?_
                        have e := own_put (A := encL (st' ++ x.kids.take i)) (Z := [.int .i64 0, .int .i64 0, .int .i64 0, .string ⟨#[]⟩, .slice none 0 0]) (vs := y.cells) _ _ hrl rfl rfl
                        rw [e, show encL (st' ++ x.kids.take i) ++ y.cells = encL (st' ++ x.kids.take (i + 1)) from by rw [hti, ← List.append_assoc, encL_append (st' ++ x.kids.take i) [y], encT_cells]] at S
                        exact ⟨p4, c4, _, S.sub _ _⟩
                      · refine sw S ?_; clear S; intro a w S
                        refine te S ?_
                        refine tl ?_
                        refine sws S (st'.length + i + 1) (by omega) (by omega) ?_; clear S; intro a w S
                        refine te S ?_
                        refine tn ?_
                        have e := own_put (A := encL (st' ++ x.kids.take i)) (Z := [.int .i64 0, .int .i64 0, .int .i64 0, .string ⟨#[]⟩, .slice none 0 0]) (vs := y.cells) _ _ hrl rfl rfl
                        rw [e, show encL (st' ++ x.kids.take i) ++ y.cells = encL (st' ++ x.kids.take (i + 1)) from by rw [hti, ← List.append_assoc, encL_append (st' ++ x.kids.take i) [y], encT_cells]] at S
                        exact ⟨p4, c4, _, S.sub _ _⟩
                    · refine sw S ?_; clear S; intro a w S
                      refine te S ?_
                      refine tl ?_
                      refine sq S ?_; clear S; intro a S
                      refine te S ?_
                      refine tl ?_
                      refine sws S (st'.length + i + 1) (by omega) (by omega) ?_; clear S; intro a w S
                      refine te S ?_
                      refine tn ?_
                      have e := own_put (A := encL (st' ++ x.kids.take i)) (Z := [.int .i64 0, .int .i64 0, .int .i64 0, .string ⟨#[]⟩, .slice none 0 0]) (vs := y.cells) _ _ hrl rfl rfl
                      rw [e, show encL (st' ++ x.kids.take i) ++ y.cells = encL (st' ++ x.kids.take (i + 1)) from by rw [hti, ← List.append_assoc, encL_append (st' ++ x.kids.take i) [y], encT_cells]] at S
                      exact ⟨p4, c4, _, S.sub _ _⟩
                  · refine sn S ?_; clear S; intro b54 a w S
                    refine te S ?_
                    refine tl ?_
                    refine sq S ?_; clear S; intro a S
                    refine te S ?_
                    refine tq S ?_; clear S; intro a S
                    refine tl ?_
                    refine sap S (by simp [maxLen]; omega) (by omega) ?_; clear S; rintro p4 c4 a w - S
                    refine te S ?_
                    refine tb2 ?_ ?_
                    · refine sq S ?_; clear S; intro a S
                      refine te S ?_
                      refine tb2 ?_ ?_
                      · refine sws S (st'.length + i + 1) (by omega) (by omega) ?_; clear S; intro a w S
                        refine te S ?_
                        refine tl ?_
                        refine sw S ?_; clear S; intro a w S
                        refine te S ?_
                        refine tn ?_
                        have e := own_put (A := encL (st' ++ x.kids.take i)) (Z := [.int .i64 0, .int .i64 0, .int .i64 0, .string ⟨#[]⟩, .slice none 0 0]) (vs := y.cells) _ _ hrl rfl rfl
                        rw [e, show encL (st' ++ x.kids.take i) ++ y.cells = encL (st' ++ x.kids.take (i + 1)) from by rw [hti, ← List.append_assoc, encL_append (st' ++ x.kids.take i) [y], encT_cells]] at S
                        exact ⟨p4, c4, _, S.sub _ _⟩
                      · refine sw S ?_; clear S; intro a w S
                        refine te S ?_
                        refine tl ?_
                        refine sws S (st'.length + i + 1) (by omega) (by omega) ?_; clear S; intro a w S
                        refine te S ?_
                        refine tn ?_
                        have e := own_put (A := encL (st' ++ x.kids.take i)) (Z := [.int .i64 0, .int .i64 0, .int .i64 0, .string ⟨#[]⟩, .slice none 0 0]) (vs := y.cells) _ _ hrl rfl rfl
                        rw [e, show encL (st' ++ x.kids.take i) ++ y.cells = encL (st' ++ x.kids.take (i + 1)) from by rw [hti, ← List.append_assoc, encL_append (st' ++ x.kids.take i) [y], encT_cells]] at S
                        exact ⟨p4, c4, _, S.sub _ _⟩
                    · refine sw S ?_; clear S; intro a w S
                      refine te S ?_
                      refine tl ?_
                      refine sq S ?_; clear S; intro a S
                      refine te S ?_
                      refine tl ?_
                      refine sws S (st'.length + i + 1) (by omega) (by omega) ?_; clear S; intro a w S
                      refine te S ?_
                      refine tn ?_
                      have e := own_put (A := encL (st' ++ x.kids.take i)) (Z := [.int .i64 0, .int .i64 0, .int .i64 0, .string ⟨#[]⟩, .slice none 0 0]) (vs := y.cells) _ _ hrl rfl rfl
                      rw [e, show encL (st' ++ x.kids.take i) ++ y.cells = encL (st' ++ x.kids.take (i + 1)) from by rw [hti, ← List.append_assoc, encL_append (st' ++ x.kids.take i) [y], encT_cells]] at S
                      exact ⟨p4, c4, _, S.sub _ _⟩
                rintro a w ⟨p4, c4, l4, S⟩
                refine xbn ?_
                exact rnext (D := D) (b := bL) S fun W hW => ⟨(p4, c4), trivial, hW⟩
              · clear S
                rintro D ⟨p3, c3⟩ a w - S
                replace S := S.join (Ds := Ds)
                replace S := S.unRo (x := mp b (kvM km')) hown
                rw [List.take_length, ← List.length_append] at S
                iterate 3 (refine xbn ?_)
                refine xtn ?_
                have hI2 := hI.open48 h9 hO hk48
                have hkml : km'.length = km.length + 1 := by rw [hkm']; simp
                rw [← hkm'] at hI2
                have hw2 : wS (st' ++ x.kids) = wS st' + wS x.kids := wS_append _ _
                exact ⟨⟨p3, c3, ps, cs, st' ++ x.kids, sh, km', [D] ++ Ds⟩, ⟨_, _, _, _, _, _, _, _, rfl, hI2, by omega, by omega, S.uu, S.sub _ _⟩, by simp only; omega⟩
              · intro D k; exact k.elim
              · intro id D k; exact k.elim
            · refine c_merge (fun a w => ∃ uu : Nat → Value,  St w0 (fun _ => False) (dsOf Ds) a w ((.slice p xs.length c) :: uu 1 :: uu 2 :: (.map (some b)) :: (.pointer (some ⟨b4, 0, none⟩)) :: (.slice ps sh.length cs) :: (.pointer (some ⟨b6, 0, none⟩)) :: uu 7 :: uu 8 :: uu 9 :: uu 10 :: uu 11 :: uu 12 :: uu 13 :: uu 14 :: uu 15 :: uu 16 :: uu 17 :: uu 18 :: uu 19 :: uu 20 :: uu 21 :: uu 22 :: uu 23 :: uu 24 :: uu 25 :: uu 26 :: uu 27 :: uu 28 :: uu 29 :: uu 30 :: uu 31 :: uu 32 :: uu 33 :: uu 34 :: uu 35 :: uu 36 :: uu 37 :: uu 38 :: uu 39 :: uu 40 :: uu 41 :: uu 42 :: (.int .i64 x.kind) :: uu 44 :: uu 45 :: uu 46 :: uu 47 :: uu 48 :: uu 49 :: uu 50 :: uu 51 :: uu 52 :: uu 53 :: uu 54 :: uu 55 :: uu 56 :: (.bool (decide (x.kind = 6) || decide (x.kind = 7))) :: uu 58 :: uu 59 :: uu 60 :: uu 61 :: uu 62 :: uu 63 :: uu 64 :: uu 65 :: uu 66 :: uu 67 :: uu 68 :: uu 69 :: uu 70 :: uu 71 :: uu 72 :: uu 73 :: uu 74 :: uu 75 :: uu 76 :: uu 77 :: uu 78 :: uu 79 :: uu 80 :: uu 81 :: uu 82 :: uu 83 :: uu 84 :: uu 85 :: []) [Wk.box b6 35 x.cells, Wk.row 35 5 ps sh.length cs (encL sh), Wk.box b4 23 [.slice p2 st'.length c2], Wk.row 35 5 p2 st'.length c2 (encL st'), mp b (kvM (km ++ [(nameF x.t, x)])), marks Ds] [LsF p 0 xs, UF w0]) ?_ ?_
              · refine c_seq ?_
                refine c_region ?_
                iterate 2 (refine sq S ?_; clear S; intro a S)
                refine wl_nil ?_
                refine xtn ?_
                refine c_cond S (fun h17 => ?_) (fun h17 => ?_)
                · refine c_skip ?_
                  refine xtn ?_
                  rw [show decide (x.kind = 6) = (decide (x.kind = 6) || decide (x.kind = 7)) from by rw [h17]; rfl] at S
                  exact ⟨S.uu, S.sub _ _⟩
                · refine c_region ?_
                  iterate 2 (refine sq S ?_; clear S; intro a S)
                  refine wl_nil ?_
                  refine xtn ?_
                  rw [show decide (x.kind = 7) = (decide (x.kind = 6) || decide (x.kind = 7)) from by rw [h17]; rfl] at S
                  exact ⟨S.uu, S.sub _ _⟩
              · clear S; rintro a w ⟨uu, S⟩
                refine c_cond S (fun h17 => ?_) (fun h17 => ?_)
                · refine c_region ?_
                  iterate 2 (refine sq S ?_; clear S; intro a S)
                  refine sn S ?_; clear S; intro b62 a w S
                  have e1 : encL sh ++ x.cells = encL (sh ++ [x]) := by rw [encL_append, encT_cells]
                  refine sap S (by simp [maxLen]; omega) (by omega) ?_; clear S; rintro ps2 cs2 a w - S
                  rw [show encL sh ++ [Value.int .i64 x.kind, Value.int .i64 x.user, Value.int .i64 x.num, str x.text, Value.slice x.p x.kids.length x.cap] = encL (sh ++ [x]) from e1, show sh.length + 1 = (sh ++ [x]).length from by simp] at S
                  refine sq S ?_; clear S; intro a S
                  refine wl_nil ?_
                  iterate 2 (refine xbn ?_)
                  refine xtn ?_
                  have hI2 := hI.shut h9
                  have hw2 : wH (sh ++ [x]) = wH sh + (2 * cnt x.t - 1) := by rw [wH_append]; simp [wH]
                  exact ⟨⟨p2, c2, ps2, cs2, st', sh ++ [x], km ++ [(nameF x.t, x)], Ds⟩, ⟨_, _, _, _, _, _, _, _, rfl, hI2, by omega, by (try simp only [List.length_append, List.length_singleton]); omega, S.uu, S.sub _ _⟩, by simp only; omega⟩
                · refine c_skip ?_
                  iterate 2 (refine xbn ?_)
                  refine xtn ?_
                  have hI2 := hI.other h9 (by rintro h; simp [h] at h12) (by rintro h; simp [h] at h12) (by rintro h; simp [h] at h17) (by rintro h; simp [h] at h17)
                  exact ⟨⟨p2, c2, ps, cs, st', sh, km ++ [(nameF x.t, x)], Ds⟩, ⟨_, _, _, _, _, _, _, _, rfl, hI2, by omega, by (try simp only [List.length_append, List.length_singleton]); omega, S.uu, S.sub _ _⟩, by simp only; omega⟩
      · refine c_exit ?_
        iterate 2 (refine xte ?_)
        refine xbe ?_
        refine xtn ?_
        iterate 2 (refine c_seq ?_)
        have hst0 : st = [] := by
          cases st with
          | nil => rfl
          | cons x st => simp at h4
        subst hst0
        rw [List.length_nil, encL_nil] at S
        refine c_region ?_
        iterate 3 (refine sq S ?_; clear S; intro a S)
        refine wl_nil ?_
        refine xtn ?_
        refine c_block ?_
        refine c_loop (ι := Nat × Option Addr × Nat) (fun q a w => ∃ i p3 c3, q = (i, p3, c3) ∧ i ≤ sh.length ∧ (∀ j, j < i → givesF (inM km) (nthL sh j) = []) ∧ ∃ uu : Nat → Value,  St w0 (fun _ => False) (dsOf Ds) a w ((.slice p xs.length c) :: uu 1 :: uu 2 :: (.map (some b)) :: (.pointer (some ⟨b4, 0, none⟩)) :: (.slice ps sh.length cs) :: uu 6 :: uu 7 :: uu 8 :: uu 9 :: uu 10 :: uu 11 :: uu 12 :: uu 13 :: uu 14 :: uu 15 :: uu 16 :: uu 17 :: uu 18 :: uu 19 :: uu 20 :: uu 21 :: uu 22 :: uu 23 :: uu 24 :: uu 25 :: uu 26 :: uu 27 :: uu 28 :: uu 29 :: uu 30 :: uu 31 :: uu 32 :: uu 33 :: uu 34 :: uu 35 :: uu 36 :: uu 37 :: uu 38 :: uu 39 :: uu 40 :: uu 41 :: uu 42 :: uu 43 :: uu 44 :: uu 45 :: uu 46 :: uu 47 :: uu 48 :: uu 49 :: uu 50 :: uu 51 :: uu 52 :: uu 53 :: uu 54 :: uu 55 :: uu 56 :: uu 57 :: uu 58 :: uu 59 :: uu 60 :: uu 61 :: uu 62 :: uu 63 :: (.slice ps sh.length cs) :: (.int .i64 sh.length) :: (.int .i64 (i : Nat)) :: uu 67 :: uu 68 :: uu 69 :: uu 70 :: uu 71 :: uu 72 :: uu 73 :: uu 74 :: uu 75 :: uu 76 :: uu 77 :: uu 78 :: uu 79 :: uu 80 :: uu 81 :: uu 82 :: uu 83 :: uu 84 :: uu 85 :: []) [Wk.row 35 5 ps sh.length cs (encL sh), Wk.box b4 23 [.slice p3 0 c3], Wk.row 35 5 p3 0 c3 [], mp b (kvM km), marks Ds] [LsF p 0 xs, UF w0]) (fun q => sh.length - q.1) (0, p2, c2) ?_ ?_
        · exact ⟨_, _, _, rfl, Nat.zero_le _, fun j hj => absurd hj (Nat.not_lt_zero _), S.uu, S⟩
        · clear S
          rintro _ a w ⟨i, p3, c3, rfl, hi, hno, uu, S⟩
          refine c_seq ?_
          refine c_region ?_
          refine sq S ?_; clear S; intro a S
          refine wl_nil ?_
          refine xtn ?_
          refine c_seq ?_
          refine c_cond S (fun h21 => ?_) (fun h21 => ?_)
          · refine c_skip ?_
            refine xtn ?_
            refine c_seq ?_
            refine c_block ?_
            refine c_seq ?_
            have hil : i < sh.length := by simp at h21; omega
            have hKL : KLt i sh.length := ⟨hil⟩
            obtain ⟨x, hxd⟩ : ∃ x, x = nthL sh i := ⟨_, rfl⟩
            have hxi : sh[i]? = some x := by rw [hxd]; exact nth_get hil
            obtain ⟨hox, hgx, hdx⟩ := hI.old x (.inr (.inl (List.mem_of_getElem? hxi)))
            have hxo : Stable (fun _ => False) w0 (LtF x) := by rw [hOdef] at hox; exact hox.1
            obtain ⟨g, hgd⟩ : ∃ g, g = givesF (inM km) x := ⟨_, rfl⟩
            have hwg := wS_gives (inM km) x
            rw [← hgd] at hwg
            have hwe := wH_erase sh i x hxi
            have hlg := wS_len g
            have hlh2 := wH_len sh
            have hw00 : wS [] = 0 := rfl
            refine c_region ?_
            iterate 2 (refine sq S ?_; clear S; intro a S)
            refine slrA x.cells S sh.length (fun j v hj => encL_at hxi hj) ?_; clear S; intro a S
            refine sa S ?_; clear S; intro b12 a w S
            refine sq S ?_; clear S; intro a S
            refine sw S ?_; clear S; intro a w S
            refine wl_nil ?_
            refine xtn ?_
            refine c_seq ?_
            refine c_drawT (.q 1 (.q 2 (.b2 0 3 (.l 3 (.l 4 (.l 5 (.e)))) (.l 0 (.l 4 (.l 5 (.e))))))) [Wk.box b12 35 x.cells, mp b (kvM km)] S
              (fun a w => ∃ (p' : Option Addr) (c' : Nat), ∃ uu : Nat → Value,  St w0 (fun _ => False) (dsOf Ds) a w ((.slice p xs.length c) :: uu 1 :: uu 2 :: (.map (some b)) :: (.pointer (some ⟨b4, 0, none⟩)) :: (.slice ps sh.length cs) :: uu 6 :: uu 7 :: uu 8 :: uu 9 :: uu 10 :: (.int .i64 (i : Nat)) :: uu 12 :: uu 13 :: uu 14 :: uu 15 :: uu 16 :: uu 17 :: uu 18 :: uu 19 :: uu 20 :: uu 21 :: uu 22 :: uu 23 :: uu 24 :: uu 25 :: uu 26 :: uu 27 :: uu 28 :: uu 29 :: uu 30 :: uu 31 :: uu 32 :: uu 33 :: uu 34 :: uu 35 :: uu 36 :: uu 37 :: uu 38 :: uu 39 :: uu 40 :: uu 41 :: uu 42 :: uu 43 :: uu 44 :: uu 45 :: uu 46 :: uu 47 :: uu 48 :: uu 49 :: uu 50 :: uu 51 :: uu 52 :: uu 53 :: uu 54 :: uu 55 :: uu 56 :: uu 57 :: uu 58 :: uu 59 :: uu 60 :: uu 61 :: uu 62 :: uu 63 :: (.slice ps sh.length cs) :: (.int .i64 sh.length) :: (.int .i64 (i : Nat)) :: uu 67 :: uu 68 :: uu 69 :: uu 70 :: uu 71 :: uu 72 :: uu 73 :: uu 74 :: uu 75 :: uu 76 :: uu 77 :: uu 78 :: uu 79 :: uu 80 :: uu 81 :: uu 82 :: uu 83 :: uu 84 :: uu 85 :: []) [Wk.row 35 5 ps sh.length cs (encL sh), Wk.box b4 23 [.slice p' g.length c'], Wk.row 35 5 p' g.length c' (encL g), mp b (kvM km), marks Ds] [LsF p 0 xs, UF w0]) ?_ ?_
            · intro w S
              iterate 2 (refine tq S ?_; clear S; intro a S)
              refine tb2 ?_ ?_
              · refine sq S ?_; clear S; intro a S
                refine te S ?_
                refine tl ?_
                have hlt := foots_lt S
                refine sr S (opens_c x b w) ?_; clear S; rintro _ a w ⟨b1, b2, rfl, n1, n2, f1, f2⟩ S
                replace S := S.add (Φ := BoxF b2 119 [.map (some b)]) (BoxF.stable f2 (fun hm => by have := hlt _ hm; omega))
                replace S := S.add (Φ := BoxF b1 35 x.cells) (BoxF.stable f1 (fun hm => by have := hlt _ hm; omega))
                clear hlt n1 n2 f1 f2
                refine te S ?_
                refine tl ?_
                have hfs : ∀ Φ ∈ [BoxF b1 35 x.cells, BoxF b2 119 [.map (some b)], MpF b (kvM km), LtF x], Stable (fun k => ∃ ad, p3 = some ad ∧ k = ad.block) w Φ := by
                  intro Φ hΦ
                  simp only [List.mem_cons, List.not_mem_nil, or_false] at hΦ
                  rcases hΦ with rfl | rfl | rfl | rfl
                  · exact S.rowFact p3 0 (by simp)
                  · exact S.rowFact p3 0 (by simp)
                  · exact MpF.stable (S.wd.held (mp b (kvM km)) (by simp)) (fun hm => S.apart2 (Wk.row 35 5 p3 0 c3 []) (mp b (kvM km)) b hm rfl)
                  · exact (S.rowFact (Φ := UF w0) p3 0 (by simp)).imp fun w h => h x hxo
                have hap := appendSeq_c 147 [.pointer (some ⟨b1, 0, none⟩), .pointer (some ⟨b2, 0, none⟩)] g [] [BoxF b1 35 x.cells, BoxF b2 119 [.map (some b)], MpF b (kvM km), LtF x] p3 0 c3 w (by omega) (S.row p3 0) hfs
                  (fun M w1 hM hF => by
                    have := opens_it b1 b2 b x km w1 M hM (hF _ (by simp)) (hF _ (by simp)) (hF _ (by simp)) (hF _ (by simp)) (kids6 hgx)
                    rw [← hgd] at this; exact this)
                refine srg p3 0 S hap ?_; clear S hfs hap; rintro _ a w ⟨p4, c4, rfl, hown4, hnew4⟩ hS
                have S := hS _ hown4 hnew4
                clear hS hown4 hnew4
                rw [Nat.zero_add, List.nil_append] at S
                refine te S ?_
                refine tl ?_
                refine sw S ?_; clear S; intro a w S
                refine te S ?_
                refine tn ?_
                exact ⟨p4, c4, S.uu, S.sub _ _⟩
              · have hlt := foots_lt S
                refine sr S (opens_c x b w) ?_; clear S; rintro _ a w ⟨b1, b2, rfl, n1, n2, f1, f2⟩ S
                replace S := S.add (Φ := BoxF b2 119 [.map (some b)]) (BoxF.stable f2 (fun hm => by have := hlt _ hm; omega))
                replace S := S.add (Φ := BoxF b1 35 x.cells) (BoxF.stable f1 (fun hm => by have := hlt _ hm; omega))
                clear hlt n1 n2 f1 f2
                refine te S ?_
                refine tl ?_
                refine sq S ?_; clear S; intro a S
                refine te S ?_
                refine tl ?_
                have hfs : ∀ Φ ∈ [BoxF b1 35 x.cells, BoxF b2 119 [.map (some b)], MpF b (kvM km), LtF x], Stable (fun k => ∃ ad, p3 = some ad ∧ k = ad.block) w Φ := by
                  intro Φ hΦ
                  simp only [List.mem_cons, List.not_mem_nil, or_false] at hΦ
                  rcases hΦ with rfl | rfl | rfl | rfl
                  · exact S.rowFact p3 0 (by simp)
                  · exact S.rowFact p3 0 (by simp)
                  · exact MpF.stable (S.wd.held (mp b (kvM km)) (by simp)) (fun hm => S.apart2 (Wk.row 35 5 p3 0 c3 []) (mp b (kvM km)) b hm rfl)
                  · exact (S.rowFact (Φ := UF w0) p3 0 (by simp)).imp fun w h => h x hxo
                have hap := appendSeq_c 147 [.pointer (some ⟨b1, 0, none⟩), .pointer (some ⟨b2, 0, none⟩)] g [] [BoxF b1 35 x.cells, BoxF b2 119 [.map (some b)], MpF b (kvM km), LtF x] p3 0 c3 w (by omega) (S.row p3 0) hfs
                  (fun M w1 hM hF => by
                    have := opens_it b1 b2 b x km w1 M hM (hF _ (by simp)) (hF _ (by simp)) (hF _ (by simp)) (hF _ (by simp)) (kids6 hgx)
                    rw [← hgd] at this; exact this)
                refine srg p3 0 S hap ?_; clear S hfs hap; rintro _ a w ⟨p4, c4, rfl, hown4, hnew4⟩ hS
                have S := hS _ hown4 hnew4
                clear hS hown4 hnew4
                rw [Nat.zero_add, List.nil_append] at S
                refine te S ?_
                refine tl ?_
                refine sw S ?_; clear S; intro a w S
                refine te S ?_
                refine tn ?_
                exact ⟨p4, c4, S.uu, S.sub _ _⟩
            rintro a w ⟨p4, c4, uu, S⟩
            refine xtn ?_
            refine c_seq ?_
            refine c_region ?_
            iterate 3 (refine sq S ?_; clear S; intro a S)
            refine wl_nil ?_
            refine xtn ?_
            refine c_cond S (fun h24 => ?_) (fun h24 => ?_)
            · refine c_seq ?_
              refine c_region ?_
              iterate 4 (refine sq S ?_; clear S; intro a S)
              rw [w64 _ (by omega) (by omega), show (i : Int) + 1 = ((i + 1 : Nat) : Int) from rfl] at S
              refine srg ps sh.length S (delete_c sh i ps sh.length cs w hil rfl (by omega) (S.row ps sh.length)) ?_; clear S; rintro _ a w ⟨rfl, hown5⟩ hS
              have S := hS _ hown5 (fun ad h => .inl ⟨ad, h, rfl⟩)
              clear hS hown5
              rw [show sh.length - 1 = (sh.eraseIdx i).length from by rw [List.length_eraseIdx_of_lt hil]] at S
              refine sq S ?_; clear S; intro a S
              refine wl_nil ?_
              refine xtn ?_
              refine c_exit ?_
              refine xbx ?_
              iterate 2 (refine xte ?_)
              refine xbx ?_
              refine xte ?_
              refine xbe ?_
              refine xtn ?_
              have hgne : givesF (inM km) x ≠ [] := by
                rw [← hgd]; rintro rfl; simp at h24
              have hI2 := hI.reopen hO hxi hgne
              rw [← hgd] at hI2
              exact ⟨⟨p4, c4, ps, cs, g, sh.eraseIdx i, km, Ds⟩, ⟨_, _, _, _, _, _, _, _, rfl, hI2, by omega, S.uu, S⟩, by simp only; omega⟩
            · refine c_skip ?_
              refine xbn ?_
              refine xtn ?_
              refine c_region ?_
              iterate 2 (refine sq S ?_; clear S; intro a S)
              refine wl_nil ?_
              refine xtn ?_
              have hg0 : g = [] := by
                cases hq : g with
                | nil => rfl
                | cons y g' => rw [hq] at h24; simp at h24
              rw [w64 ((i : Int) + 1) (by omega) (by omega), hg0, List.length_nil, encL_nil] at S
              refine ⟨(i + 1, p4, c4), ⟨_, _, _, rfl, hil, fun j hj => ?_, S.uu, S⟩, by simp only; omega⟩
              rcases Nat.lt_or_ge j i with h | h
              · exact hno j h
              · obtain rfl : j = i := by omega
                rw [← hxd, ← hgd, hg0]
          · refine c_exit ?_
            iterate 2 (refine xte ?_)
            refine xbe ?_
            refine xtn ?_
            refine c_exit ?_
            refine xbx ?_
            refine xte ?_
            refine xbe ?_
            refine xtn ?_
            refine c_seq ?_
            refine c_region ?_
            iterate 2 (refine sq S ?_; clear S; intro a S)
            refine wl_nil ?_
            refine xtn ?_
            refine c_ret ?_
            refine xsr ?_
            have hi2 : sh.length ≤ i := by simp at h21; omega
            have hA := hI.apart fun x hx' => by
              obtain ⟨j, hj, hjx⟩ := List.mem_iff_getElem.1 hx'
              have := hno j (by omega)
              rw [show nthL sh j = x from by rw [← hjx]; simp [nthL, hj]] at this
              exact this
            have hown := S.wd.own (mp b (kvM km)) (by simp) rfl b rfl
            refine endM1 S (fun w hw => ?_)
            exact ⟨b, km, rfl, hw.held (mp b (kvM km)) (by simp), hown.elim (fun h => h.elim) id, hA, by omega, fun e he => by
              have := (hI.old e.2 (.inr (.inr ⟨e, he, rfl⟩))).1
              rw [hOdef] at this
              exact ⟨fun w2 hw2 => this.1 w2 (hw.agree.trans' hw2 fun i hi hib => by
                subst hib
                exact hown.elim (fun h => h.elim) (fun h => absurd hi (by omega))), this.2⟩⟩
end Go.Proofs.Ytgielmldblopeaa
