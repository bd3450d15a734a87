/- Package attack: Own, Corrupt; and that layer 22 does something. -/
import Derived.Test.YtgielmldblopeaaAttackD
namespace Go.Proofs.Ytgielmldblopeaa
open Go Go.Wk
set_option synthInstance.maxSize 100000
set_option synthInstance.maxHeartbeats 400000
set_option maxRecDepth 100000

theorem collected_c (gf : Nat) [EntF Try.prog gf] (lb : List Value) (ys : List LTerm) (fs0 : List (World → Prop)) (w0 : World) (hl : ys.length ≤ 10000000) (hfs : ∀ Φ ∈ fs0, Stable (fun _ => False) w0 Φ)
    (hit : ∀ (M : Nat → Prop) (w1 : World), (∀ k, M k → k < w1.heap.size) → (∀ Φ ∈ fs0, Stable M w1 Φ) → IterRet Try.prog gf lb w1 M (fun (x : LTerm) vs _ _ => vs = [vL x]) ys) :
    Ret Try.prog 117 [.func (.func gf) #[] ⟨lb⟩] w0 (fun _ => False) fun v w' => ∃ p' c', v = .slice p' ys.length c' ∧ w'.ownsRow 0 35 5 (.slice p' ys.length c') ys.length (encL ys) ∧ ∀ ad, p' = some ad → w0.heap.size ≤ ad.block := by
  refine enterM Try.func117 rfl rfl (Wd.begin hfs) (fun a S => ?_)
  simp only [Try.ntmps117, List.length_cons, List.length_nil, Nat.reduceAdd, Nat.reduceSub, List.replicate_succ, List.replicate_zero, List.cons_append, List.nil_append] at S
  refine c_seq ?_
  refine c_region ?_
  refine sq S ?_; clear S; intro a S
  refine wl_nil ?_
  refine xtn ?_
  refine c_seq ?_
  refine c_region ?_
  refine sa S ?_; clear S; intro b3 a w S
  refine wl_nil ?_
  refine xtn ?_
  iterate 2 (refine c_seq ?_)
  refine c_region ?_
  refine sq S ?_; clear S; intro a S
  refine wl_nil ?_
  refine xtn ?_
  refine c_block ?_
  replace S := (S.addNil 35 5)
  refine c_range (κ := Option Addr × Nat) (κx := Empty) (Ds := []) ys
    (fun i k => [Wk.row 35 5 k.1 i k.2 (encL (ys.take i)), Wk.box b3 23 [.slice k.1 i k.2], marks []]) (fun _ _ => fs0) (fun _ _ => True) (fun k => k.elim) (fun k => k.elim) (fun _ k => k.elim) (none, 0) S (fun M w1 hM hF _ => hit M w1 hM hF) ⟨trivial, by simp [encL], rfl⟩ ?_ ?_ ?_ ?_
  · clear S
    rintro L D bL M w1 i x vs ⟨p, c⟩ W0 w hx - hW0 hgr rfl
    refine ⟨_, inferInstance, fun a S => ?_⟩
    have hil : i < ys.length := (List.getElem?_eq_some_iff.1 hx).1
    have hti : ys.take (i + 1) = ys.take i ++ [x] := by rw [List.take_add_one, hx]; rfl
    have hKL : KLt i (i + 1) := ⟨by omega⟩
    have hrl : (encL (ys.take i)).length = i * 5 := S.row p i |>.1
    refine c_region ?_
    refine sa S ?_; clear S; intro b4 a w S
    refine sw S ?_; clear S; intro a w S
    refine wl_nil ?_
    refine xtn ?_
    refine rbegin (D := D) (b := bL) S ?_; clear S; intro a w S
    refine c_block ?_
    refine c_drawT (.q 1 (.b2 0 3 (.q 2 (.l 3 (.l 4 (.b2 5 7 (.b2 6 7 (.l 7 (.e)) (.l 6 (.e))) (.l 5 (.l 6 (.e))))))) (.l 0 (.q 2 (.l 4 (.b2 5 7 (.b2 6 7 (.l 7 (.e)) (.l 6 (.e))) (.l 5 (.l 6 (.e))))))))) [Wk.box b4 35 x.cells] S
      (fun a w => ∃ (p' : Option Addr) (c' : Nat) (l' : List Value), St w1 M [] a w l' [lpI L D (lpR bL .busy none), Wk.row 35 5 p' (i + 1) c' (encL (ys.take (i + 1))), Wk.box b3 23 [.slice p' (i + 1) c'], marks []] fs0) ?_ ?_
    · intro w S
      refine tq S ?_; clear S; intro a S
      refine tb2 ?_ ?_
      · refine sq S ?_; clear S; intro a S
        refine te S ?_
        refine tq S ?_; clear S; intro a S
        refine tl ?_
        refine sn S ?_; clear S; intro b10 a w S
        refine te S ?_
        refine tl ?_
        refine sap S (by simp [maxLen]; omega) (by omega) ?_; clear S; rintro p3 c3 a w - S
        refine te S ?_
        refine tb2 ?_ ?_
        · refine sq S ?_; clear S; intro a S
          refine te S ?_
          refine tb2 ?_ ?_
          · refine sws S (i + 1) (by omega) (by omega) ?_; clear S; intro a w S
            refine te S ?_
            refine tl ?_
            refine sw S ?_; clear S; intro a w S
            refine te S ?_
            refine tn ?_
            have e := own_put (A := encL (ys.take i)) (Z := [.int .i64 0, .int .i64 0, .int .i64 0, .string ⟨#[]⟩, .slice none 0 0]) (vs := x.cells) _ _ hrl rfl rfl
            rw [e, show encL (ys.take i) ++ x.cells = encL (ys.take (i + 1)) from by rw [hti, encL_append]; simp [encL, Enc.cells]] at S
            exact ⟨p3, c3, _, S.sub _ _⟩
          · refine sw S ?_; clear S; intro a w S
            refine te S ?_
            refine tl ?_
            refine sws S (i + 1) (by omega) (by omega) ?_; clear S; intro a w S
            refine te S ?_
            refine tn ?_
            have e := own_put (A := encL (ys.take i)) (Z := [.int .i64 0, .int .i64 0, .int .i64 0, .string ⟨#[]⟩, .slice none 0 0]) (vs := x.cells) _ _ hrl rfl rfl
            rw [e, show encL (ys.take i) ++ x.cells = encL (ys.take (i + 1)) from by rw [hti, encL_append]; simp [encL, Enc.cells]] at S
            exact ⟨p3, c3, _, S.sub _ _⟩
        · refine sw S ?_; clear S; intro a w S
          refine te S ?_
          refine tl ?_
          refine sq S ?_; clear S; intro a S
          refine te S ?_
          refine tl ?_
          refine sws S (i + 1) (by omega) (by omega) ?_; clear S; intro a w S
          refine te S ?_
          refine tn ?_
          have e := own_put (A := encL (ys.take i)) (Z := [.int .i64 0, .int .i64 0, .int .i64 0, .string ⟨#[]⟩, .slice none 0 0]) (vs := x.cells) _ _ hrl rfl rfl
          rw [e, show encL (ys.take i) ++ x.cells = encL (ys.take (i + 1)) from by rw [hti, encL_append]; simp [encL, Enc.cells]] at S
          exact ⟨p3, c3, _, S.sub _ _⟩
      · refine sn S ?_; clear S; intro b10 a w S
        refine te S ?_
        refine tl ?_
        refine sq S ?_; clear S; intro a S
        refine te S ?_
        refine tq S ?_; clear S; intro a S
        refine tl ?_
        refine sap S (by simp [maxLen]; omega) (by omega) ?_; clear S; rintro p3 c3 a w - S
        refine te S ?_
        refine tb2 ?_ ?_
        · refine sq S ?_; clear S; intro a S
          refine te S ?_
          refine tb2 ?_ ?_
          · refine sws S (i + 1) (by omega) (by omega) ?_; clear S; intro a w S
            refine te S ?_
            refine tl ?_
            refine sw S ?_; clear S; intro a w S
            refine te S ?_
            refine tn ?_
            have e := own_put (A := encL (ys.take i)) (Z := [.int .i64 0, .int .i64 0, .int .i64 0, .string ⟨#[]⟩, .slice none 0 0]) (vs := x.cells) _ _ hrl rfl rfl
            rw [e, show encL (ys.take i) ++ x.cells = encL (ys.take (i + 1)) from by rw [hti, encL_append]; simp [encL, Enc.cells]] at S
            exact ⟨p3, c3, _, S.sub _ _⟩
          · refine sw S ?_; clear S; intro a w S
            refine te S ?_
            refine tl ?_
            refine sws S (i + 1) (by omega) (by omega) ?_; clear S; intro a w S
            refine te S ?_
            refine tn ?_
            have e := own_put (A := encL (ys.take i)) (Z := [.int .i64 0, .int .i64 0, .int .i64 0, .string ⟨#[]⟩, .slice none 0 0]) (vs := x.cells) _ _ hrl rfl rfl
            rw [e, show encL (ys.take i) ++ x.cells = encL (ys.take (i + 1)) from by rw [hti, encL_append]; simp [encL, Enc.cells]] at S
            exact ⟨p3, c3, _, S.sub _ _⟩
        · refine sw S ?_; clear S; intro a w S
          refine te S ?_
          refine tl ?_
          refine sq S ?_; clear S; intro a S
          refine te S ?_
          refine tl ?_
          refine sws S (i + 1) (by omega) (by omega) ?_; clear S; intro a w S
          refine te S ?_
          refine tn ?_
          have e := own_put (A := encL (ys.take i)) (Z := [.int .i64 0, .int .i64 0, .int .i64 0, .string ⟨#[]⟩, .slice none 0 0]) (vs := x.cells) _ _ hrl rfl rfl
          rw [e, show encL (ys.take i) ++ x.cells = encL (ys.take (i + 1)) from by rw [hti, encL_append]; simp [encL, Enc.cells]] at S
          exact ⟨p3, c3, _, S.sub _ _⟩
    rintro a w ⟨p2, c2, l2, S⟩
    refine xbn ?_
    exact rnext (D := D) (b := bL) S fun W hW => ⟨(p2, c2), trivial, hW⟩
  · clear S
    rintro D ⟨p2, c2⟩ a w - S
    refine xbn ?_
    refine xtn ?_
    refine c_seq ?_
    refine c_region ?_
    iterate 2 (refine sq S ?_; clear S; intro a S)
    refine wl_nil ?_
    refine xtn ?_
    refine c_ret ?_
    replace S := S.join (Ds := [])
    have hrow := S.row p2 ys.length
    have hnew := S.rowNew p2 ys.length
    refine endM1 S (fun w hw => ?_)
    have h1 := hw.held (Wk.row 35 5 p2 ys.length c2 (encL (ys.take ys.length))) (by simp)
    rw [List.take_length] at h1
    exact ⟨p2, c2, rfl, h1, fun ad h => (hnew ad h).elim (fun h => h.elim) id⟩
  · intro D k; exact k.elim
  · intro id D k; exact k.elim
theorem Own_c (u : Int) (m : Nat) (hu : 1 ≤ u ∧ u ≤ 6) (hm : m ≤ 200) (w0 : World) : Ret Try.prog 81 [.int .i64 u, .int .i64 (m : Int)] w0 (fun _ => False) fun v w' => ∃ p c, v = .slice p (ownL u m).length c ∧ w'.ownsRow 0 35 5 (.slice p (ownL u m).length c) (ownL u m).length (encL (ownL u m)) ∧ ∀ ad, p = some ad → w0.heap.size ≤ ad.block := by
  refine enter Try.func81 rfl rfl (Wd.start w0) (fun a S => ?_)
  simp only [Try.ntmps81, List.length_cons, List.length_nil, Nat.reduceAdd, Nat.reduceSub, List.replicate_succ, List.replicate_zero, List.cons_append, List.nil_append] at S
  refine c_seq ?_
  refine c_region ?_
  refine sq S ?_; clear S; intro a S
  refine wl_nil ?_
  refine xtn ?_
  refine c_seq ?_
  refine c_region ?_
  iterate 2 (refine sq S ?_; clear S; intro a S)
  refine sr S (own_f u m _) ?_; clear S; rintro _ a w ⟨b2, b3, rfl, -, -, f1, f2⟩ S
  replace S := (S.add (BoxF.stable f1 (fun ⟨it, hi, _⟩ => by cases hi))).add (BoxF.stable f2 (fun ⟨it, hi, _⟩ => by cases hi))
  refine srn S (collected_c 148 [.pointer (some ⟨b2, 0, none⟩), .pointer (some ⟨b3, 0, none⟩)] (ownL u m) [BoxF b2 3 [.int .i64 u], BoxF b3 3 [.int .i64 (m : Int)]] w (by simp [ownL]; omega) (by simp; exact ⟨S.mem.fact0 (BoxF b2 3 [.int .i64 u]), S.mem.fact0 (BoxF b3 3 [.int .i64 (m : Int)])⟩)
    (fun M w1 hM hF => own_it b2 b3 u m hu hm w1 M hM (hF _ (by simp)) (hF _ (by simp)))) ?_; clear S; rintro _ a w ⟨p, c, rfl, hown, hnew⟩ hS -
  have S := hS hown hnew
  clear hS
  refine sq S ?_; clear S; intro a S
  refine wl_nil ?_
  refine xtn ?_
  refine c_ret ?_
  have hrow := S.row p (ownL u m).length
  have hn2 := S.rowNew p (ownL u m).length
  refine end1 S (fun _ => ?_)
  exact ⟨p, c, rfl, hrow, fun ad h => (hn2 ad h).elim (fun h => h.elim) id⟩
theorem search_nil (x : Int) (p : Option Addr) (c : Nat) (w0 : World) : Ret Try.prog 82 [.slice p 0 c, .int .i64 x] w0 (fun _ => False) fun v _ => v = .tuple ⟨[.int .i64 0, .bool false]⟩ := by
  refine enter Try.func82 rfl rfl (Wd.start w0) (fun a S => ?_)
  simp only [Try.ntmps82, List.length_cons, List.length_nil, Nat.reduceAdd, Nat.reduceSub, List.replicate_succ, List.replicate_zero, List.cons_append, List.nil_append] at S
  refine c_seq ?_
  refine c_region ?_
  iterate 2 (refine sq S ?_; clear S; intro a S)
  refine wl_nil ?_
  refine xtn ?_
  refine c_seq ?_
  refine c_region ?_
  iterate 3 (refine sq S ?_; clear S; intro a S)
  refine wl_nil ?_
  refine xtn ?_
  refine c_seq ?_
  refine c_region ?_
  iterate 3 (refine sq S ?_; clear S; intro a S)
  refine wl_nil ?_
  refine xtn ?_
  refine c_seq ?_
  refine c_block ?_
  refine c_forb1 S (fun (k : Nat) uu => [(7, .int .i64 0), (0, .int .i64 ((0 : Nat) : Int)), (0, uu 9), (3, uu 13), (0, uu 14), (0, uu 15), (0, uu 16), (0, uu 17), (0, uu 18), (0, uu 19), (0, uu 20), (0, uu 21), (0, uu 22), (0, uu 23), (0, uu 24), (0, uu 25), (0, uu 26), (0, uu 27), (0, uu 28), (0, uu 29), (0, uu 30)]) (fun (k : Nat) => True) (fun (k : Nat) => 0) (0) ?_ S.uu ?_ ?_
  · trivial
  · first | exact S | exact S.sub _ _
  · clear S; rintro k uu a w hrel S
    iterate 2 (refine c_seq ?_)
    refine c_region ?_
    iterate 3 (refine sq S ?_; clear S; intro a S)
    rw [show decide ((0 : Int) < ((0 : Nat) : Int)) = false from rfl] at S
    refine wl_nil ?_
    refine xtn ?_
    refine c_condF S ?_
    refine c_exit ?_
    iterate 2 (refine xte ?_)
    refine xbe ?_
    refine xtn ?_
    refine c_seq ?_
    refine c_region ?_
    iterate 4 (refine sq S ?_; clear S; intro a S)
    rw [show decide ((0 : Int) < ((0 : Nat) : Int)) = false from rfl] at S
    refine sq S ?_; clear S; intro a S
    iterate 7 (refine gF S ?_; clear S; intro a S)
    iterate 9 (refine gU S ?_; clear S; intro a S)
    refine gF S ?_; clear S; intro a S
    iterate 3 (refine sq S ?_; clear S; intro a S)
    refine wl_nil ?_
    refine xtn ?_
    refine c_ret ?_
    refine end2 S (fun _ => ?_)
    rfl
theorem insert_end (xs : List Int) (v : Int) (p : Option Addr) (n c b : Nat) (w0 : World) (hn : n ≤ 1000) (hnc : n ≤ c) (hown : w0.ownsRow 0 3 1 (.slice p n c) n (encL xs)) (hx : xs.length = n) (hb : Stable (fun k => ∃ ad, p = some ad ∧ k = ad.block) w0 (BoxF b 3 [.int .i64 v])) :
    Ret Try.prog 83 [.slice p n c, .int .i64 (n : Int), .slice (some ⟨b, 0, none⟩) 1 1] w0 (fun k => ∃ ad, p = some ad ∧ k = ad.block) fun u w' => ∃ p' c', u = .slice p' (n + 1) c' ∧ w'.ownsRow 0 3 1 (.slice p' (n + 1) c') (n + 1) (encL (xs ++ [v])) ∧ ∀ ad, p' = some ad → (∃ ad', p = some ad' ∧ ad.block = ad'.block) ∨ w0.heap.size ≤ ad.block := by
  have hle : LeC n c := ⟨hnc⟩
  refine enter Try.func83 rfl rfl (Wd.rowLent (fs := [BoxF b 3 [.int .i64 v]]) hown (by simpa using hb)) (fun a S => ?_)
  simp only [Try.ntmps83, List.length_cons, List.length_nil, Nat.reduceAdd, Nat.reduceSub, List.replicate_succ, List.replicate_zero, List.cons_append, List.nil_append] at S
  refine c_seq ?_
  refine c_region ?_
  refine sq S ?_; clear S; intro a S
  refine wl_nil ?_
  refine xtn ?_
  refine c_seq ?_
  refine c_region ?_
  iterate 3 (refine sq S ?_; clear S; intro a S)
  refine wl_nil ?_
  refine xtn ?_
  refine c_seq ?_
  refine c_region ?_
  iterate 3 (refine sq S ?_; clear S; intro a S)
  refine wl_nil ?_
  refine xtn ?_
  iterate 2 (refine c_seq ?_)
  refine c_region ?_
  iterate 2 (refine sq S ?_; clear S; intro a S)
  rw [show decide (((1 : Nat) : Int) = 0) = false from rfl] at S
  refine wl_nil ?_
  refine xtn ?_
  refine c_condF S ?_
  refine c_skip ?_
  refine xtn ?_
  refine c_seq ?_
  refine c_region ?_
  iterate 3 (refine sq S ?_; clear S; intro a S)
  refine wl_nil ?_
  refine xtn ?_
  iterate 2 (refine c_seq ?_)
  refine c_region ?_
  iterate 3 (refine sq S ?_; clear S; intro a S)
  rw [show decide ((n : Int) = (n : Int)) = true from by simp] at S
  refine wl_nil ?_
  refine xtn ?_
  refine c_condT S ?_
  refine c_seq ?_
  refine c_region ?_
  iterate 2 (refine sq S ?_; clear S; intro a S)
  have hs : SrcV Try.prog 22 (.slice (some ⟨b, 0, none⟩) 1 1) [Wk.row 3 1 p n c (encL xs)] [BoxF b 3 [.int .i64 v]] 1 1 [.int .i64 v] := ⟨fun w mm => by
    have hbx : BoxF b 3 [.int .i64 v] w := (mm.fact0 (BoxF b 3 [.int .i64 v])).now
    refine Src.ofSlice w (Und.eq (P := Try.prog) (t := 22)) _ _ _ _ rfl (fun j u hj => ?_) (fun u hu => by obtain rfl := List.mem_singleton.1 hu; rfl)
    have e : (⟨b, 0, none⟩ : Addr).add j = ⟨b, j, none⟩ := by unfold Addr.add; split <;> simp_all
    rw [e, cell_of_row w b j #[.int .i64 v] 3 (0, 0) hbx]
    simpa using hj⟩
  refine sap S (by simp [maxLen]; omega) (by omega) ?_; clear S; rintro p7 c7 a w - S
  rw [show encL xs ++ [.int .i64 v] = encL (xs ++ [v]) from by rw [encL_append]; rfl] at S
  refine sq S ?_; clear S; intro a S
  refine wl_nil ?_
  refine xtn ?_
  refine c_ret ?_
  refine xtr ?_
  have hrow := S.row p7 (n + 1)
  have hnew := S.rowNew p7 (n + 1)
  refine end1 S (fun _ => ?_)
  exact ⟨p7, c7, rfl, hrow, hnew⟩
end Go.Proofs.Ytgielmldblopeaa
