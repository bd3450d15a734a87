/- Package cap: read. -/
import Derived.Test.YtgielmldblopeaaCapE
namespace Go.Proofs.Ytgielmldblopeaa
open Go Go.Wk
set_option synthInstance.maxSize 100000
set_option synthInstance.maxHeartbeats 400000
set_option maxRecDepth 100000

structure SBox where
  user : Int
  group : Int
  term : Term
def SBox.t (b : SBox) : Term := if 0 < b.user then rowT (rowS [117] b.user) b.term else rowT (rowS [103] b.group) b.term
def SBox.place (b : SBox) : Int := if 0 < b.user then b.user else 6 + b.group
def SBox.ok (b : SBox) : Prop := (1 ≤ b.user ∧ b.user ≤ 6 ∧ b.group = 0 ∧ ∃ s, b.term = sealT b.user s) ∨ (b.user = 0 ∧ 1 ≤ b.group ∧ b.group ≤ 3 ∧ ∃ k s, b.term = lockT k s)
def LBox.s (b : LBox) : SBox := ⟨b.user, b.group, b.term.t⟩
theorem place_s (b : LBox) : b.s.place = placeF b := rfl
theorem SBox.isBox {b : SBox} (h : b.ok) : IsBox b.t b.user b.group := by
  rcases h with ⟨h1, h2, h3, s, h4⟩ | ⟨h1, h2, h3, k, s, h4⟩
  · exact .inl ⟨h1, h2, h3, s, by rw [SBox.t, if_pos (by omega), h4]; rfl⟩
  · refine .inr ⟨h2, h3, h1, s, fun _ => k, by rw [SBox.t, if_neg (by omega), h4]; rfl⟩
theorem SBox.inner {b : SBox} {x : LTerm} (hx : x.t = b.t) : (nthL x.kids 1).t = b.term := by
  rw [SBox.t] at hx
  split at hx
  · exact (pair_shape hx).2.2.2
  · exact (pair_shape hx).2.2.2
def bxOf (sb : List SBox) (os : List LTerm) : List LBox := (sb.zip os).map fun q => ⟨q.1.user, q.1.group, nthL q.2.kids 1⟩
theorem bxOf_get {sb : List SBox} {os : List LTerm} {i : Nat} (h : i < sb.length) (h' : i < os.length) : (bxOf sb os)[i]? = some ⟨sb[i].user, sb[i].group, nthL (nthL os i).kids 1⟩ := by
  simp [bxOf, List.getElem?_zip_eq_some, h, h', nthL]
  exact ⟨_, _, ⟨rfl, rfl⟩, rfl, rfl, rfl⟩
theorem bxOf_s {sb : List SBox} {os : List LTerm} (h : os.map LTerm.t = sb.map SBox.t) : (bxOf sb os).map LBox.s = sb := by
  have hl : os.length = sb.length := by have := congrArg List.length h; simpa using this
  apply List.ext_getElem?
  intro i
  rcases Nat.lt_or_ge i sb.length with hi | hi
  · have hi' : i < os.length := by omega
    rw [List.getElem?_map, bxOf_get hi hi', List.getElem?_eq_getElem hi]
    have h2 : (nthL os i).t = sb[i].t := by
      have := congrArg (fun l => l[i]?) h
      simpa [nthL, hi, hi'] using this
    simp only [Option.map_some, LBox.s, SBox.inner h2]
  · rw [List.getElem?_eq_none (by simp [bxOf]; omega), List.getElem?_eq_none hi]
theorem bxOf_boxes {sb : List SBox} {os : List LTerm} (h : os.map LTerm.t = sb.map SBox.t) (hok : ∀ b ∈ sb, b.ok) : Boxes os (bxOf sb os) := by
  have hl : os.length = sb.length := by have := congrArg List.length h; simpa using this
  refine ⟨by simp [bxOf, hl], fun i hi => ?_, fun i hi => ?_⟩
  · have hi' : i < sb.length := by omega
    have h2 : (nthL os i).t = sb[i].t := by
      have := congrArg (fun l => l[i]?) h
      simpa [nthL, hi, hi'] using this
    rw [h2, nthG, List.getD_eq_getElem?_getD, bxOf_get hi' hi]
    exact SBox.isBox (hok _ (List.getElem_mem _))
  · rw [nthG, List.getD_eq_getElem?_getD, bxOf_get (by omega) hi]; rfl
theorem kid_in {w : World} {x : LTerm} (h : LtIn w x) {y : LTerm} (hy : y ∈ x.kids) : LtIn w y := by
  have h1 : Stable (fun _ => False) w (LtF x) := fun w' hw' => LtIn.mono (fun ad v hc => cell_agree hw' hc) x h
  exact (kid_st h1 hy).now
theorem gif_pred {c : Bool} {i : Nat} (h : c = true → 0 < i) (hi : i ≤ 1000000) : gif c (Value.int .i64 (IntKind.i64.wrap ((i : Nat) - 1))) = gif c (.int .i64 ((i - 1 : Nat) : Int)) := by
  cases c with
  | false => rfl
  | true => have := h rfl; rw [w64 _ (by omega) (by omega), show ((i : Nat) : Int) - 1 = ((i - 1 : Nat) : Int) from by omega]
theorem read_c (t : LTerm) (sb : List SBox) (ht : t.t = listT (sb.map SBox.t)) (hg : Good t.t) (hl : sb.length ≤ 100) (hok : ∀ b ∈ sb, b.ok) (hr : (sb.map SBox.place).Pairwise (· < ·)) (hne : sb ≠ []) (M : Nat → Prop) (w0 : World) (hM : ∀ k, M k → k < w0.heap.size) (hf : Stable M w0 (LtF t)) :
    Ret Try.prog 72 [vL t] w0 (fun _ => False) fun v w' => ∃ (p : Option Addr) (c : Nat) (bx : List LBox), v = .tuple ⟨[.slice p bx.length c, .bool true]⟩ ∧ bx.map LBox.s = sb ∧ Stable M w' (GlF p bx) := by
  refine enterM Try.func72 rfl rfl (Wd.beginM (M := M) (fs := [LtF t]) hM (by simpa using hf)) (fun a S => ?_)
  simp only [Try.ntmps72, List.length_cons, List.length_nil, Nat.reduceAdd, Nat.reduceSub, List.replicate_succ, List.replicate_zero, List.cons_append, List.nil_append] at S
  refine c_seq ?_
  refine c_region ?_
  refine sa S ?_; clear S; intro b1 a w S
  refine sa S ?_; clear S; intro b2 a w S
  refine sa S ?_; clear S; intro b3 a w S
  refine wl_nil ?_
  refine xtn ?_
  refine c_seq ?_
  refine c_region ?_
  refine sq S ?_; clear S; intro a S
  refine sr S (unlist_c t (sb.map SBox.t) ht hg (by simpa using (by omega : sb.length ≤ 1000)) _ w (foots_lt S) (S.t t)) ?_; clear S; rintro _ a w ⟨p, c, os, rfl, hos, hls⟩ S
  replace S := S.add hls
  have hol : os.length = sb.length := by have := congrArg List.length hos; simpa using this
  have hpos : 0 < os.length := by rw [hol]; exact List.length_pos_iff.2 hne
  iterate 5 (refine sq S ?_; clear S; intro a S)
  refine wl_nil ?_
  refine xtn ?_
  iterate 2 (refine c_seq ?_)
  refine c_region ?_
  iterate 2 (refine sq S ?_; clear S; intro a S)
  rw [show (!true) = false from rfl] at S
  refine sq S ?_; clear S; intro a S
  refine gT' S ?_
  refine sq S ?_; clear S; intro a S
  refine gT' S ?_
  refine sq S ?_; clear S; intro a S
  refine gT' S ?_
  refine sq S ?_; clear S; intro a S
  rw [show decide ((os.length : Int) = 0) = false from decide_eq_false (by omega)] at S
  refine sq S ?_; clear S; intro a S
  refine wl_nil ?_
  refine xtn ?_
  refine c_condF S ?_
  refine c_skip ?_
  refine xtn ?_
  refine c_seq ?_
  refine c_region ?_
  refine sa S ?_; clear S; intro b6 a w S
  refine wl_nil ?_
  refine xtn ?_
  iterate 2 (refine c_seq ?_)
  refine c_region ?_
  refine sq S ?_; clear S; intro a S
  have hlt := foots_lt S
  refine sr S (boxes_f p os.length c w) ?_; clear S; rintro _ a w ⟨g, rfl, n1, f1⟩ S
  replace S := S.add (Φ := BoxF g 23 [.slice p os.length c]) (BoxF.stable f1 (fun hm => by have := hlt _ hm; omega))
  clear hlt n1 f1
  refine wl_nil ?_
  refine xtn ?_
  refine c_block ?_
  obtain ⟨bx, hbx⟩ : ∃ bx, bx = bxOf sb os := ⟨_, rfl⟩
  have hbs : bx.map LBox.s = sb := by rw [hbx]; exact bxOf_s hos
  have hbB : Boxes os bx := by rw [hbx]; exact bxOf_boxes hos hok
  have hgrp : ∀ b ∈ bx, GrpOk b := fun b hb => by
    have h1 : b.s ∈ sb := by rw [← hbs]; exact List.mem_map.2 ⟨b, hb, rfl⟩
    rcases hok _ h1 with ⟨-, -, h, -⟩ | ⟨-, h, h', -⟩
    · exact ⟨by have : b.group = 0 := h; omega, by have : b.group = 0 := h; omega⟩
    · exact ⟨by have : 1 ≤ b.group := h; omega, by have : b.group ≤ 3 := h'; omega⟩
  have hpl : (bx.map placeF).Pairwise (· < ·) := by
    have : bx.map placeF = sb.map SBox.place := by rw [← hbs, List.map_map]; rfl
    rw [this]; exact hr
  have hbl : bx.length ≤ 100 := by rw [hbB.len, hol]; exact hl
  replace S := S.add (Φ := AllI bx) ((S.mem.fact (LsF p 0 os)).imp fun w' h b hb => by
    obtain ⟨i, hi⟩ := List.getElem?_of_mem hb
    have hib : i < bx.length := (List.getElem?_eq_some_iff.1 hi).1
    have hio : i < os.length := by rw [← hbB.len]; exact hib
    have e1 : nthG bx i = b := by rw [nthG_get hib] at hi; simpa using hi
    show LtIn w' b.term
    rw [← e1, hbB.term i hio]
    have h2 := (LsIn.get h (nth_get hio)).2
    refine kid_in h2 (nth_mem ?_)
    rcases hbB.box i hio with ⟨-, -, -, s, h⟩ | ⟨-, -, -, s, kt, h⟩ <;> rw [(pair_shape h).2.1] <;> omega)
  replace S := S.addNil 110 7
  replace S := S.sub [Wk.row 110 7 none 0 0 [], Wk.box b6 106 [.slice none 0 0], Wk.box b3 4 [.bool false], Wk.box b2 106 [.slice none 0 0], marks [], ext M] [AllI bx, BoxF g 23 [.slice p os.length c], LsF p 0 os]
  refine c_range (κ := Option Addr × Nat) (κx := Empty) (Ds := []) bx
    (fun i k => [Wk.row 110 7 k.1 i k.2 (encL (bx.take i)), Wk.box b6 106 [.slice k.1 i k.2], Wk.box b3 4 [.bool false], Wk.box b2 106 [.slice none 0 0], marks [], ext M]) (fun _ _ => [AllI bx, BoxF g 23 [.slice p os.length c], LsF p 0 os]) (fun _ _ => True) (fun k => k.elim) (fun k => k.elim) (fun _ k => k.elim) (none, 0) S
    (fun M w1 hM hF _ => boxes_it g os bx hbB p c (by omega) w1 M hM (hF _ (by simp)) (hF _ (by simp))) ⟨trivial, rfl, rfl⟩ ?_ ?_ ?_ ?_
  · clear S
    rintro L D bL M' w1 i y vs q W0 w hx - hW0 hgr rfl
    have hi : i < bx.length := (List.getElem?_eq_some_iff.1 hx).1
    have hy : y ∈ bx := List.mem_of_getElem? hx
    have hti : bx.take (i + 1) = bx.take i ++ [y] := by rw [List.take_add_one, hx]; rfl
    refine ⟨_, inferInstance, fun a S => ?_⟩
    refine c_seq ?_
    refine c_region ?_
    refine sa S ?_; clear S; intro b7 a w S
    refine sw S ?_; clear S; intro a w S
    refine wl_nil ?_
    refine xtn ?_
    refine c_region ?_
    refine sq S ?_; clear S; intro a S
    refine wl_nil ?_
    refine xtn ?_
    refine rbegin (D := D) (b := bL) S ?_; clear S; intro a w S
    refine c_block ?_
    iterate 2 (refine c_seq ?_)
    obtain ⟨S1, hback⟩ := S.borrow (e := 110) (sz := 7) (n := i) (c := q.2) q.1 (bx.take i) ((S.wd.facts (AllI bx) (by simp)).imp fun _ h b hb => h b (List.take_subset _ _ hb))
    have S := S1
    clear S1
    have hlt : (bx.take i).length = i := by rw [List.length_take]; omega
    have hC1 : CLt [decide (0 < (i : Int))] (i - 1) i := ⟨fun h => by have := h (decide (0 < (i : Int))) (by simp); simp at this; omega⟩
    have hC2 : CLt [decide (0 < (i : Int))] (i - 1) (bx.take i).length := ⟨fun h => by have := h (decide (0 < (i : Int))) (by simp); simp at this; omega⟩
    have hG1 : GrpOk y := hgrp y hy
    have hG2 : GrpOk (nthG (bx.take i) (i - 1)) := by
      by_cases h0 : i = 0
      · subst h0; exact ⟨by simp [nthG, Lay.dflt], by simp [nthG, Lay.dflt]⟩
      · exact hgrp _ (List.take_subset _ _ (nthG_mem (by omega)))
    refine c_drawD [(0, true), (1, true), (2, true), (3, true), (4, true), (5, true), (6, true), (7, true), (8, true), (9, true), (10, true), (11, true), (12, true), (14, true), (13, false), (15, false), (16, true), (17, true), (18, true)] [] S ?_; clear S; intro w S
    iterate 2 (refine dq S ?_; clear S; intro a S)
    rw [show (!true) = false from rfl] at S
    refine dq S ?_; clear S; intro a S
    iterate 8 (refine dqG S ?_; clear S; intro a S)
    rw [gif_pred (fun h => by simp at h; omega) (by omega)] at S
    iterate 3 (refine dqG S ?_; clear S; intro a S)
    refine dl ?_
    refine gC S ?_; clear S; intro a w S
    refine de S ?_
    refine dl ?_
    refine gC S ?_; clear S; intro a w S
    refine de S ?_
    iterate 2 (refine dqG S ?_; clear S; intro a S)
    refine dq S ?_; clear S; intro a S
    refine dn ?_
    refine xtn ?_
    refine c_cond S (fun h8 => ?_) (fun h8 => ?_)
    · refine c_seq ?_
      refine c_region ?_
      iterate 2 (refine sw S ?_; clear S; intro a w S)
      refine wl_nil ?_
      refine xtn ?_
      refine c_ret ?_
      refine xtr ?_
      refine xbr ?_
      exfalso
      have h8' : 0 < i ∧ placeF y ≤ placeF (nthG (bx.take i) (i - 1)) := by simpa using h8
      have e1 : (bx.map placeF)[i]? = some (placeF y) := by rw [List.getElem?_map, hx]; rfl
      have e2 : (bx.map placeF)[i - 1]? = some (placeF (nthG (bx.take i) (i - 1))) := by
        have h9 : i - 1 < (bx.take i).length := by omega
        have h10 := nthG_get h9
        rw [List.getElem?_take, if_pos (by omega)] at h10
        rw [List.getElem?_map, h10]; rfl
      obtain ⟨q1, q2⟩ := List.getElem?_eq_some_iff.1 e1
      obtain ⟨q3, q4⟩ := List.getElem?_eq_some_iff.1 e2
      have := List.pairwise_iff_getElem.1 hpl (i - 1) i q3 q1 (by omega)
      rw [q2, q4] at this
      omega
    · refine c_skip ?_
      refine xtn ?_
      replace S := hback _ _ _ _ S (by simp)
      clear hback
      refine c_region ?_
      iterate 2 (refine sq S ?_; clear S; intro a S)
      refine sn S ?_; clear S; intro b46 a w S
      refine sap S (by simp [maxLen]; omega) (by omega) ?_; clear S; rintro p10 c10 a w - S
      refine sw S ?_; clear S; intro a w S
      refine wl_nil ?_
      refine xbn ?_
      rw [show encL (bx.take i) ++ [Value.int .i64 y.user, .int .i64 y.group, .int .i64 y.term.kind, .int .i64 y.term.user, .int .i64 y.term.num, str y.term.text, .slice y.term.p y.term.kids.length y.term.cap] = encL (bx.take (i + 1)) from by rw [hti, encL_append]; simp [encL, Enc.cells]] at S
      replace S := S.sub [lpI L D (lpR bL .busy none), Wk.row 110 7 p10 (i + 1) c10 (encL (bx.take (i + 1))), Wk.box b6 106 [.slice p10 (i + 1) c10], Wk.box b3 4 [.bool false], Wk.box b2 106 [.slice none 0 0], marks [], ext M] [AllI bx, BoxF g 23 [.slice p os.length c], LsF p 0 os]
      exact rnext (D := D) (b := bL) S fun W hW => ⟨(p10, c10), trivial, hW⟩
  · clear S
    rintro D q a w - S
    refine xbn ?_
    refine xtn ?_
    refine c_seq ?_
    refine c_region ?_
    refine sq S ?_; clear S; intro a S
    iterate 2 (refine sw S ?_; clear S; intro a w S)
    refine wl_nil ?_
    refine xtn ?_
    refine c_ret ?_
    rw [List.take_length] at S
    have hrow := S.row q.1 bx.length
    have hnew := S.rowNew q.1 bx.length
    replace S := S.join (Ds := [])
    refine endM2 S (fun w hw => ?_)
    refine ⟨q.1, q.2, bx, rfl, hbs, ?_⟩
    have h1 := hw.held (Wk.row 110 7 q.1 bx.length q.2 (encL bx)) (by simp)
    have h2 : Stable M w (AllI bx) := (hw.facts (AllI bx) (by simp)).less fun k _ hk => ⟨ext M, by simp, hk⟩
    exact gl_own h1 h2 (fun ad h hm => (hnew ad h).elim (fun h => h.elim) (fun h2 => by have := hM _ hm; omega))
  · intro D k; exact k.elim
  · intro id D k; exact k.elim
end Go.Proofs.Ytgielmldblopeaa
