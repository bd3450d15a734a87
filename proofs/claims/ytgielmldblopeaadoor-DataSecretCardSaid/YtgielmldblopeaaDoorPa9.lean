/- 9: a part of this claim's texts, joined: DataG DataH RowData. -/
import Derived.Test.YtgielmldblopeaaDoorPa8
import Derived.Test.YtgielmldblopeaaDoorTie
import Derived.Test.YtgielmldblopeaaDoorCards
import Derived.SevenTiedAt
/- Layer 17: what is locked and signed, plain; the layer does something. -/
namespace Go.Proofs.YtgielmldblopeaaDoor
open Go Go.Wk
set_option synthInstance.maxSize 100000
set_option synthInstance.maxHeartbeats 400000
set_option maxRecDepth 100000

theorem dataT_inj {d e : Dat} {l m : Int} (hd : datB d = true) (he : datB e = true) (h : dataT d l = dataT e m) : d = e ∧ l = m := by
  obtain ⟨-, a2, a3, a4, a5, -, -, -, -⟩ := datB_iff.1 hd
  obtain ⟨-, c2, c3, c4, c5, -, -, -, -⟩ := datB_iff.1 he
  simp only [dataT, signT, Term.mk.injEq, List.cons.injEq, and_true] at h
  have h5 := listT_inj h.2.2.2.2
  simp only [List.cons.injEq, and_true] at h5
  obtain ⟨-, f1, f2, f3, f4⟩ := h5
  have g1 : d.name = e.name := by simp only [textT, Term.mk.injEq] at f1; exact f1.2.2.2.1
  have g2 := itoa_eq (n := d.ver) (m := e.ver) ⟨by omega, by omega⟩ ⟨by omega, by omega⟩ f2
  have g3 := itoa_eq (n := d.epoch) (m := e.epoch) ⟨by omega, by omega⟩ ⟨by omega, by omega⟩ f3
  have g4 := h.2.1
  obtain ⟨x1, x2, x3, x4, x5⟩ := d
  obtain ⟨y1, y2, y3, y4, y5⟩ := e
  simp only at g1 g2 g3 g4 f4
  subst g1 g2 g3 g4 f4
  exact ⟨rfl, h.2.2.1⟩
theorem DReadR.yes {M : Nat → Prop} {d : Dat} {l : Int} {v : Value} {w : World} (h : DReadR M (dataT d l) v w) (hd : datB d = true) (hg : Good (dataT d l)) : ∃ x : LDat, v = .tuple ⟨[vDat x, .int .i64 l, .int .i64 0]⟩ ∧ Stable M w (LtF x.locked) ∧ x.name.length ≤ 64 ∧ x.d = d := by
  obtain ⟨x, leaf, e, rfl, h1, h2, h3, h4⟩ := h
  have he : e = 0 := Classical.byContradiction fun he => (h4 he).2.2.2 d l hd rfl hg
  obtain ⟨k1, k2, -⟩ := h3 he
  obtain ⟨k3, rfl⟩ := dataT_inj hd k1 k2
  subst he
  exact ⟨x, rfl, h1, h2, k3.symm⟩
theorem cnt_iter (a c : Int) (j : Nat) : cnt (iter stepF j (freshT a c)) = 1 + 3 * j ∧ dpt (iter stepF j (freshT a c)) = 1 + 2 * j := by
  induction j with
  | zero => exact ⟨rfl, rfl⟩
  | succ j ih =>
    have e1 : ∀ t, cnt (stepF t) = cnt t + 3 := fun t => by simp [stepF, Term.hash, Term.pair, Term.text, cnt, cntL]; omega
    have e2 : ∀ t, 1 ≤ dpt t → dpt (stepF t) = dpt t + 2 := fun t h => by simp [stepF, Term.hash, Term.pair, Term.text, dpt, dptL]; omega
    rw [iter, e1, e2 _ (by omega)]
    omega
def lkT (a c : Int) (j : Nat) (b : Term) : Term := .mk 6 0 0 [] [lastF (iter stepF j (freshT a c)), b]
theorem cnt_lk (a c b m : Int) {j : Nat} : cnt (lkT a c j (freshT b m)) = 6 + 3 * j ∧ dpt (lkT a c j (freshT b m)) = 4 + 2 * j := by
  obtain ⟨h1, h2⟩ := cnt_iter a c j
  have e1 : ∀ t, cnt (lastF t) = cnt t + 3 := fun t => by simp [lastF, Term.hash, Term.pair, Term.text, cnt, cntL]; omega
  have e2 : ∀ t, 1 ≤ dpt t → dpt (lastF t) = dpt t + 2 := fun t h => by simp [lastF, Term.hash, Term.pair, Term.text, dpt, dptL]; omega
  have e3 := e2 (iter stepF j (freshT a c)) (by omega)
  have c1 : cnt (freshT b m) = 1 ∧ dpt (freshT b m) = 1 := ⟨rfl, rfl⟩
  simp only [lkT, cnt, cntL, dpt, dptL, e1, e3, c1.1, c1.2]
  omega
theorem good_lk {a c b m : Int} (ha : 1 ≤ a ∧ a ≤ 6) (hc : 0 ≤ c ∧ c ≤ 65535) (hb : 1 ≤ b ∧ b ≤ 6) (hm : 0 ≤ m ∧ m ≤ 65535) {j : Nat} (hj : j ≤ 8) : Good (lkT a c j (freshT b m)) := by
  obtain ⟨h1, h2⟩ := cnt_lk a c b m (j := j)
  have e : cnt (lkT a c j (freshT b m)) = 1 + (cnt (lastF (iter stepF j (freshT a c))) + cnt (freshT b m)) := by simp [lkT, cnt, cntL]
  have e2 : dpt (lkT a c j (freshT b m)) = 1 + max (dpt (lastF (iter stepF j (freshT a c)))) (dpt (freshT b m)) := by simp [lkT, dpt, dptL]
  exact good_lock (good_last ha hc hj) (good_fresh hb hm) (by omega) (by omega) (by omega)
theorem lock_fresh {a c b m : Int} (ha : 1 ≤ a ∧ a ≤ 6) (hc : 0 ≤ c ∧ c ≤ 65535) (hb : 1 ≤ b ∧ b ≤ 6) (hm : 0 ≤ m ∧ m ≤ 65535) {j : Nat} (hj : j ≤ 8) : lockF (iter stepF j (freshT a c)) (freshT b m) = (lkT a c j (freshT b m), 0) := by
  unfold lockF
  rw [key_fresh ha hc hj, if_neg (by simp), if_neg (by
    have := good_check.2 (good_lk ha hc hb hm hj)
    intro h
    exact h this)]
  rfl
theorem dat_f {v n r : Int} (hv : 1 ≤ v ∧ v ≤ 9999) (hn : 1 ≤ n ∧ n ≤ 8) (hr : 1 ≤ r ∧ r ≤ 6) {a c b m : Int} (ha : 1 ≤ a ∧ a ≤ 6) (hc : 0 ≤ c ∧ c ≤ 65535) (hb : 1 ≤ b ∧ b ≤ 6) (hm : 0 ≤ m ∧ m ≤ 65535) {j : Nat} (hj : j ≤ 8) : datB ⟨[102], v, n, r, lkT a c j (freshT b m)⟩ = true :=
  datB_iff.2 ⟨(by decide : nameB [102] = true), hv.1, hv.2, hn.1, hn.2, hr.1, hr.2, good_check.2 (good_lk ha hc hb hm hj), rfl⟩
theorem good_data {d : Dat} {leaf : Int} (hd : datB d = true) (hl : 0 ≤ leaf ∧ leaf ≤ 65535) (hc : cnt d.locked ≤ 100) (hp : dpt d.locked ≤ 40) : Good (dataT d leaf) := by
  obtain ⟨a1, a2, a3, a4, a5, a6, a7, a8, a9⟩ := datB_iff.1 hd
  have et : ∀ x, cnt (textT x) = 1 := fun x => by simp [textT, cnt, cntL]
  have ed : ∀ x, dpt (textT x) = 1 := fun x => by simp [textT, dpt, dptL]
  have hnm : d.name.length ≤ 64 := by
    simp only [nameB, Bool.and_eq_true, decide_eq_true_eq] at a1; omega
  have p1 : Good (.pair d.locked (textT [])) := good_pair (good_check.1 a8) (good_text (by simp)) (by rw [et]; omega) (by omega) (by rw [ed]; omega)
  have c1 : cnt (.pair d.locked (textT [])) ≤ 102 ∧ dpt (.pair d.locked (textT [])) ≤ 41 := by rw [cnt_pair, dpt_pair, et, ed]; omega
  have st : ∀ (s : List UInt8) (t : Term), s.length ≤ 64 → Good t → cnt t ≤ 200 → dpt t ≤ 50 → Good (.pair (textT s) t) ∧ cnt (.pair (textT s) t) ≤ cnt t + 2 ∧ dpt (.pair (textT s) t) ≤ dpt t + 1 ∨ dpt t = 0 := fun s t hs hg h1 h2 => by
    by_cases h0 : dpt t = 0
    · exact .inr h0
    · refine .inl ⟨good_pair (good_text hs) hg (by rw [et]; omega) (by rw [ed]; omega) (by omega), ?_, ?_⟩
      · rw [cnt_pair, et]; omega
      · rw [dpt_pair, ed]; omega
  have np : ∀ x y, dpt (.pair x y) ≠ 0 := fun x y => by rw [dpt_pair]; omega
  obtain ⟨p2, c2⟩ := (st (Lib.itoa d.epoch) _ (itoa_len ⟨by omega, by omega⟩) p1 (by omega) (by omega)).resolve_right (np _ _)
  obtain ⟨p3, c3⟩ := (st (Lib.itoa d.ver) _ (itoa_len ⟨by omega, by omega⟩) p2 (by omega) (by omega)).resolve_right (np _ _)
  obtain ⟨p4, c4⟩ := (st d.name _ hnm p3 (by omega) (by omega)).resolve_right (np _ _)
  obtain ⟨p5, c5⟩ := (st dataS _ (by decide) p4 (by omega) (by omega)).resolve_right (np _ _)
  exact good_sign (a := .pair (textT dataS) (.pair (textT d.name) (.pair (textT (Lib.itoa d.ver)) (.pair (textT (Lib.itoa d.epoch)) (.pair d.locked (textT [])))))) ⟨a6, a7⟩ hl p5 (by omega) (by omega)
theorem good_dataF {v n r leaf : Int} (hv : 1 ≤ v ∧ v ≤ 9999) (hn : 1 ≤ n ∧ n ≤ 8) (hr : 1 ≤ r ∧ r ≤ 6) (hl : 0 ≤ leaf ∧ leaf ≤ 65535) {a c b m : Int} (ha : 1 ≤ a ∧ a ≤ 6) (hc : 0 ≤ c ∧ c ≤ 65535) (hb : 1 ≤ b ∧ b ≤ 6) (hm : 0 ≤ m ∧ m ≤ 65535) {j : Nat} (hj : j ≤ 8) : Good (dataT ⟨[102], v, n, r, lkT a c j (freshT b m)⟩ leaf) := by
  obtain ⟨h1, h2⟩ := cnt_lk a c b m (j := j)
  exact good_data (dat_f hv hn hr ha hc hb hm hj) hl (by show cnt (lkT a c j (freshT b m)) ≤ 100; omega) (by show dpt (lkT a c j (freshT b m)) ≤ 40; omega)
theorem kid_lk (a c : Int) (j : Nat) (b : Term) : kid (lkT a c j b) 0 = lastF (iter stepF j (freshT a c)) ∧ kid (lkT a c j b) 1 = b := ⟨rfl, rfl⟩
/-- who has the state of an epoch opens what was locked in it, and ahead. -/
theorem open_fresh {v n r k : Int} (hv : 1 ≤ v ∧ v ≤ 9999) (hn : 1 ≤ n ∧ n ≤ 8) (hr : 1 ≤ r ∧ r ≤ 6) (hk : 1 ≤ k ∧ k ≤ 8) {a c b m : Int} (ha : 1 ≤ a ∧ a ≤ 6) (hc : 0 ≤ c ∧ c ≤ 65535) (hb : 1 ≤ b ∧ b ≤ 6) (hm : 0 ≤ m ∧ m ≤ 65535) :
    openF ⟨[102], v, n, r, lkT a c (8 - n).toNat (freshT b m)⟩ (iter stepF (8 - k).toNat (freshT a c)) k = if n ≤ k then (freshT b m, 0) else (zeroT, 2) := by
  have hd := dat_f (v := v) (n := n) (r := r) hv hn hr ha hc hb hm (j := (8 - n).toNat) (by omega)
  have hg : checkF (iter stepF (8 - k).toNat (freshT a c)) = 0 := good_check.2 (good_iter ha hc (by omega))
  unfold openF
  rw [if_neg (by rw [hd]; simp)]
  by_cases h : n ≤ k
  · have e : backF (iter stepF (8 - k).toNat (freshT a c)) k n = (iter stepF (8 - n).toNat (freshT a c), 0) := by
      rw [back_val hg hn.1 h hk.2, iter_add, show (k - n).toNat + (8 - k).toNat = (8 - n).toNat from by omega, if_pos (good_check.2 (good_iter ha hc (by omega)))]
    rw [if_pos h]
    show (if (backF (iter stepF (8 - k).toNat (freshT a c)) k n).2 ≠ 0 then (zeroT, (backF (iter stepF (8 - k).toNat (freshT a c)) k n).2) else if (keyF (backF (iter stepF (8 - k).toNat (freshT a c)) k n).1).2 = 0 ∧ sameF (keyF (backF (iter stepF (8 - k).toNat (freshT a c)) k n).1).1 (kid (lkT a c (8 - n).toNat (freshT b m)) 0) = true then (kid (lkT a c (8 - n).toNat (freshT b m)) 1, 0) else (zeroT, 271)) = _
    rw [e, if_neg (by simp), key_fresh ha hc (by omega), if_pos ⟨rfl, (sameF_iff _ _).2 rfl⟩]
    rfl
  · have e : backF (iter stepF (8 - k).toNat (freshT a c)) k n = (zeroT, 2) := by
      unfold backF
      rw [if_neg (by rw [hg]; simp), if_pos (.inr (.inr (by omega)))]
    rw [if_neg h]
    show (if (backF (iter stepF (8 - k).toNat (freshT a c)) k n).2 ≠ 0 then (zeroT, (backF (iter stepF (8 - k).toNat (freshT a c)) k n).2) else _) = _
    rw [e, if_pos (by simp)]
end Go.Proofs.YtgielmldblopeaaDoor

/- Layer 17: what its laws ask first; DataBack. -/
namespace Go.Proofs.YtgielmldblopeaaDoor
open Go Go.Wk
set_option synthInstance.maxSize 100000
set_option synthInstance.maxHeartbeats 400000
set_option maxRecDepth 100000

theorem x17large_c (N : Nat) : ∀ (t : LTerm) (deep left : Int) (b : Nat) (w0 : World), SizeOf.sizeOf t ≤ N → 0 ≤ deep → deep ≤ 81 → 0 ≤ left → left ≤ 1500 → Stable (fun k => k = b) w0 (LtF t) → w0.heap[b]? = some (.cells #[.int .i64 left] 3 (0, 0)) →
    Ret Tryd.prog 46 [vL t, .int .i64 deep, .pointer (some ⟨b, 0, none⟩)] w0 (fun k => k = b) fun v w' => v = .bool (largeF t.t deep left).1 ∧ w'.heap[b]? = some (.cells #[.int .i64 (largeF t.t deep left).2] 3 (0, 0)) := by
  induction N with
  | zero => intro t _ _ _ _ h; cases t; simp at h
  | succ N ih =>
  intro t deep left b w0 hN hd hd' hl hl' hf hb
  have e0 := t.t_eq
  refine enter Tryd.func46 rfl rfl (Wd.lent (fs := [LtF t]) hb (by simpa using hf)) (fun a S => ?_)
  simp only [Tryd.ntmps46, List.length_cons, List.length_nil, Nat.reduceAdd, Nat.reduceSub, List.replicate_succ, List.replicate_zero, List.cons_append, List.nil_append] at S
  refine c_seq ?_
  refine c_region ?_
  refine sa S ?_; clear S; intro b3 a w S
  refine sq S ?_; clear S; intro a S
  refine wl_nil ?_
  refine xtn ?_
  iterate 2 (refine c_seq ?_)
  refine c_region ?_
  iterate 4 (refine sq S ?_; clear S; intro a S)
  rw [w64 (left - 1) (by omega) (by omega)] at S
  refine sq S ?_; clear S; intro a S
  refine sw S ?_; clear S; intro a w S
  refine wl_nil ?_
  refine xtn ?_
  refine c_seq ?_
  refine c_region ?_
  iterate 5 (refine sq S ?_; clear S; intro a S)
  iterate 2 (refine gQ S ?_; clear S; intro a S)
  iterate 2 (refine sq S ?_; clear S; intro a S)
  iterate 4 (refine gQ S ?_; clear S; intro a S)
  iterate 2 (refine sq S ?_; clear S; intro a S)
  iterate 4 (refine gQ S ?_; clear S; intro a S)
  refine sq S ?_; clear S; intro a S
  refine wl_nil ?_
  refine xtn ?_
  refine c_cond S (fun h2 => ?_) (fun h2 => ?_)
  · refine c_seq ?_
    refine c_region ?_
    refine sq S ?_; clear S; intro a S
    refine wl_nil ?_
    refine xtn ?_
    refine c_ret ?_
    refine xtr ?_
    have hbx := S.box b
    refine end1 S (fun _ => ?_)
    have h3 : left - 1 < 0 ∨ 80 < deep ∨ 1000 < (t.text.length : Int) ∨ 10 < ((t.kids.map LTerm.t).length : Int) := by simpa [or_assoc] using h2
    rw [e0, largeF, if_pos h3]
    exact ⟨rfl, hbx⟩
  · refine c_skip ?_
    refine xtn ?_
    iterate 2 (refine c_seq ?_)
    refine c_region ?_
    iterate 4 (refine sq S ?_; clear S; intro a S)
    refine wl_nil ?_
    refine xtn ?_
    refine c_block ?_
    have h3 : ¬ (left - 1 < 0 ∨ 80 < deep ∨ 1000 < (t.text.length : Int) ∨ 10 < ((t.kids.map LTerm.t).length : Int)) := by simpa [and_assoc] using h2
    have hlen := LTerm.len_le hf
    refine c_loop (ι := Nat) (fun k a w => k ≤ t.kids.length ∧ ∃ lf, 0 ≤ lf ∧ lf ≤ 1500 ∧ largeLF ((t.kids.drop k).map LTerm.t) (deep + 1) lf = largeF t.t deep left ∧ ∃ uu : Nat → Value,  St w0 (fun k => k = b) [] a w ((vL t) :: (.int .i64 deep) :: (.pointer (some ⟨b, 0, none⟩)) :: (.pointer (some ⟨b3, 0, none⟩)) :: uu 4 :: uu 5 :: (.bool false) :: uu 7 :: uu 8 :: uu 9 :: uu 10 :: uu 11 :: uu 12 :: uu 13 :: uu 14 :: uu 15 :: uu 16 :: uu 17 :: uu 18 :: uu 19 :: uu 20 :: uu 21 :: uu 22 :: uu 23 :: uu 24 :: uu 25 :: uu 26 :: uu 27 :: uu 28 :: uu 29 :: uu 30 :: uu 31 :: uu 32 :: uu 33 :: uu 34 :: (.slice t.p t.kids.length t.cap) :: (.int .i64 t.kids.length) :: (.int .i64 (k : Nat)) :: uu 38 :: uu 39 :: uu 40 :: uu 41 :: uu 42 :: uu 43 :: uu 44 :: uu 45 :: uu 46 :: []) [box b3 24 t.cells, box b 3 [.int .i64 lf]] [LtF t]) (fun k => t.kids.length - k) 0 ?_ ?_
    · refine ⟨Nat.zero_le _, left - 1, by omega, by omega, ?_, S.uu, S⟩
      rw [e0, largeF, if_neg h3]; rfl
    · clear S
      rintro k a w ⟨hk, lf, hlf, hlf', hrel, uu, S⟩
      refine c_seq ?_
      refine c_region ?_
      refine sq S ?_; clear S; intro a S
      refine wl_nil ?_
      refine xtn ?_
      refine c_seq ?_
      refine c_cond S (fun h5 => ?_) (fun h5 => ?_)
      · refine c_skip ?_
        refine xtn ?_
        refine c_seq ?_
        refine c_block ?_
        refine c_seq ?_
        refine c_region ?_
        have hkl : k < t.kids.length := by simpa using h5
        have hK : KLt k t.kids.length := ⟨hkl⟩
        iterate 2 (refine sq S ?_; clear S; intro a S)
        refine sa S ?_; clear S; intro b8 a w S
        refine sw S ?_; clear S; intro a w S
        refine wl_nil ?_
        refine xtn ?_
        refine c_seq ?_
        refine c_region ?_
        iterate 3 (refine sq S ?_; clear S; intro a S)
        rw [w64 (deep + 1) (by omega) (by omega)] at S
        refine sq S ?_; clear S; intro a S
        rw [nth_drop hkl, List.map_cons, largeLF] at hrel
        have hb1 := largeF_le (nthL t.kids k).t (deep + 1) lf
        refine sb S (b := b) (ih (nthL t.kids k) (deep + 1) lf b w (by have := LTerm.kid_lt (nth_mem hkl); omega) (by omega) (by have : ¬ 80 < deep := fun h => h3 (.inr (.inl h)); omega) hlf hlf' ((S.t _).less fun _ _ hk => ⟨_, HasBox.mem (b := b), hk⟩) (S.box b)) ?_; clear S
        rintro v a w ⟨rfl, hcb⟩ hS
        have S := hS [.int .i64 _] _ inferInstance hcb
        clear hS
        refine wl_nil ?_
        refine xtn ?_
        refine c_cond S (fun h7 => ?_) (fun h7 => ?_)
        · refine c_seq ?_
          refine c_region ?_
          refine sq S ?_; clear S; intro a S
          refine wl_nil ?_
          refine xtn ?_
          refine c_ret ?_
          refine xbr ?_
          iterate 2 (refine xtr ?_)
          refine xbr ?_
          refine xtr ?_
          have hbx := S.box b
          refine end1 S (fun _ => ?_)
          have h8 : (largeF (nthL t.kids k).t (deep + 1) lf).1 = true := by simpa using h7
          rw [if_pos h8] at hrel
          rw [← hrel]
          exact ⟨rfl, hbx⟩
        · refine c_skip ?_
          refine xbn ?_
          refine xtn ?_
          refine c_region ?_
          iterate 2 (refine sq S ?_; clear S; intro a S)
          refine wl_nil ?_
          refine xtn ?_
          have h8 : (largeF (nthL t.kids k).t (deep + 1) lf).1 = false := by simpa using h7
          rw [if_neg (by simp [h8])] at hrel
          replace S := S.sub [box b3 24 t.cells, box b 3 [.int .i64 (largeF (nthL t.kids k).t (deep + 1) lf).2]] [LtF t]
          rw [w64 ((k : Int) + 1) (by omega) (by omega)] at S
          exact ⟨k + 1, ⟨hkl, _, largeF_ge _ (deep + 1) lf hlf h8, by omega, hrel, S.uu, S⟩, by omega⟩
      · refine c_exit ?_
        iterate 2 (refine xte ?_)
        refine xbe ?_
        refine xtn ?_
        refine c_seq ?_
        refine c_region ?_
        refine sq S ?_; clear S; intro a S
        refine wl_nil ?_
        refine xtn ?_
        refine c_ret ?_
        have hbx := S.box b
        refine end1 S (fun _ => ?_)
        have h6 : t.kids.length ≤ k := by simpa using h5
        rw [List.drop_of_length_le h6, List.map_nil, largeLF] at hrel
        rw [← hrel]
        exact ⟨rfl, hbx⟩
theorem x17over_c (t : LTerm) (w0 : World) (hf : Stable (fun _ => False) w0 (LtF t)) : Ret Tryd.prog 12 [vL t] w0 (fun _ => False) fun v _ => v = .bool (overF t.t) := by
  refine enter Tryd.func12 rfl rfl (Wd.begin (fs := [LtF t]) (by simpa using hf)) (fun a S => ?_)
  simp only [Tryd.ntmps12, List.length_cons, List.length_nil, Nat.reduceAdd, Nat.reduceSub, List.replicate_succ, List.replicate_zero, List.cons_append, List.nil_append] at S
  refine c_seq ?_
  refine c_region ?_
  refine sa S ?_; clear S; intro b1 a w S
  refine sq S ?_; clear S; intro a S
  refine wl_nil ?_
  refine xtn ?_
  refine c_seq ?_
  refine c_region ?_
  refine sa S ?_; clear S; intro b3 a w S
  refine sw S ?_; clear S; intro a w S
  refine wl_nil ?_
  refine xtn ?_
  refine c_seq ?_
  refine c_region ?_
  refine sq S ?_; clear S; intro a S
  refine sb S (b := b3) (x17large_c _ t 1 1500 b3 w (Nat.le_refl _) (by omega) (by omega) (by omega) (by omega) (S.fb b3 (by simp)) (S.box b3)) ?_; clear S
  rintro v a w ⟨rfl, hcb⟩ hS
  have S := hS [.int .i64 _] _ inferInstance hcb
  clear hS
  refine sq S ?_; clear S; intro a S
  refine wl_nil ?_
  refine xtn ?_
  refine c_ret ?_
  refine end1 S (fun _ => ?_)
  rfl
instance {t : LTerm} {bs fs} [HasT fs t] : CallV Tryd.prog 12 [vL t] bs fs (.bool (overF t.t)) := ⟨fun w m => x17over_c t w (m.t0 _)⟩
def overD (d : LDat) : Bool := decide ((1000 : Int) < d.name.length) || overF d.locked.t
theorem overd_c (d : LDat) (w0 : World) (hf : Stable (fun _ => False) w0 (LtF d.locked)) : Ret Tryd.prog 16 [vDat d] w0 (fun _ => False) fun v _ => v = .bool (overD d) := by
  refine enter Tryd.func16 rfl rfl (Wd.begin (fs := [LtF d.locked]) (by simpa using hf)) (fun a S => ?_)
  simp only [Tryd.ntmps16, List.length_cons, List.length_nil, Nat.reduceAdd, Nat.reduceSub, List.replicate_succ, List.replicate_zero, List.cons_append, List.nil_append] at S
  refine c_seq ?_
  refine c_region ?_
  refine sa S ?_; clear S; intro b1 a w S
  refine sq S ?_; clear S; intro a S
  refine wl_nil ?_
  refine xtn ?_
  refine c_seq ?_
  refine c_region ?_
  iterate 5 (refine sq S ?_; clear S; intro a S)
  iterate 2 (refine gQ S ?_; clear S; intro a S)
  refine gC S ?_; clear S; intro a w S
  iterate 2 (refine sq S ?_; clear S; intro a S)
  refine wl_nil ?_
  refine xtn ?_
  refine c_ret ?_
  refine end1 S (fun _ => rfl)
instance {d : LDat} {bs fs} [h : HasT fs d.locked] : CallV Tryd.prog 16 [vDat d] bs fs (.bool (overD d)) := ⟨fun w m => overd_c d w (m.t0 _)⟩
instance {d e : LDat} {bs fs} [h : HasT fs d.locked] [h2 : HasT fs e.locked] : CallV Tryd.prog 18 [vDat d, vDat e] bs fs (.bool (dsameB d.d e.d)) := ⟨fun w m => dsame_c d e w (m.t0 _) (m.t0 _)⟩
theorem fresh_dat {v n r : Int} {a c b m : Int} {j : Nat} {x : LTerm} (h : x.t = lkT a c j (freshT b m)) : (⟨[102], v, n, r, x⟩ : LDat).d = ⟨[102], v, n, r, lkT a c j (freshT b m)⟩ := by
  rw [LDat.d, h]
theorem wakes17_c (w0 : World) (ht : Stable (fun _ => False) w0 LibF) : Ret Tryd.prog 11 [] w0 (fun _ => False) fun v _ => v = .bool true := by
  refine enter Tryd.func11 rfl rfl (Wd.begin (fs := [TabF, LibF]) (by simp; exact ⟨ht.imp fun _ h => h.1, ht⟩)) (fun a S => ?_)
  simp only [Tryd.ntmps11, List.length_cons, List.length_nil, Nat.reduceAdd, Nat.reduceSub, List.replicate_succ, List.replicate_zero, List.cons_append, List.nil_append] at S
  refine c_seq ?_
  refine c_region ?_
  refine sq S ?_; clear S; intro a S
  refine wl_nil ?_
  refine xtn ?_
  refine c_seq ?_
  refine c_region ?_
  iterate 2 (refine sc S ?_; clear S; intro a w S)
  refine sa S ?_; clear S; intro b1 a w S
  refine sa S ?_; clear S; intro b2 a w S
  iterate 2 (refine sw S ?_; clear S; intro a w S)
  refine wl_nil ?_
  refine xtn ?_
  refine c_seq ?_
  refine c_region ?_
  iterate 2 (refine sq S ?_; clear S; intro a S)
  refine sr S (dlock_c (freshL 1 1) (freshL 2 2) _ w (foots_lt S) (S.t _) (S.t _)) ?_; clear S; rintro _ a w ⟨x, rfl, hx, hxf⟩ S
  have hlk := lock_fresh (a := 1) (c := 1) (b := 2) (m := 2) (by omega) (by omega) (by omega) (by omega) (j := 0) (by omega)
  rw [show iter stepF 0 (freshT 1 1) = (freshL 1 1).t from rfl, show freshT 2 2 = (freshL 2 2).t from rfl] at hlk
  rw [hlk] at hx S
  replace S := S.add hxf
  iterate 3 (refine sq S ?_; clear S; intro a S)
  refine sa S ?_; clear S; intro b3 a w S
  refine sw S ?_; clear S; intro a w S
  refine sq S ?_; clear S; intro a S
  refine wl_nil ?_
  refine xtn ?_
  refine c_seq ?_
  refine c_region ?_
  iterate 2 (refine sq S ?_; clear S; intro a S)
  refine sa S ?_; clear S; intro b5 a w S
  refine sw S ?_; clear S; intro a w S
  refine wl_nil ?_
  refine xtn ?_
  refine c_seq ?_
  refine c_region ?_
  refine sq S ?_; clear S; intro a S
  have hdx := fresh_dat (v := 1) (n := 8) (r := 2) hx
  have hdb := dat_f (v := 1) (n := 8) (r := 2) (by omega) (by omega) (by omega) (a := 1) (c := 1) (b := 2) (m := 2) (by omega) (by omega) (by omega) (by omega) (j := 0) (by omega)
  have hgd := good_dataF (v := 1) (n := 8) (r := 2) (leaf := 3) (by omega) (by omega) (by omega) (by omega) (a := 1) (c := 1) (b := 2) (m := 2) (by omega) (by omega) (by omega) (by omega) (j := 0) (by omega)
  refine sr S (dmake_c ⟨[102], 1, 8, 2, x⟩ 3 (by simp) _ w (foots_lt S) (S.mem.fact TabF) (S.t x)) ?_; clear S; rintro _ a w ⟨t, e, rfl, htf, he0, he1⟩ S
  rw [hdx] at he0 he1
  have he : e = 0 := Classical.byContradiction fun h => by
    rcases (he1 h).2 with q | q | q
    · rw [hdb] at q; exact absurd q.2 (by simp)
    · exact q.2.2 ⟨by omega, by omega⟩
    · exact q.2.2.2 hgd
  subst he
  have htt := (he0 rfl).2.2.2
  replace S := S.add htf
  iterate 3 (refine sq S ?_; clear S; intro a S)
  refine sa S ?_; clear S; intro b6 a w S
  refine sw S ?_; clear S; intro a w S
  refine sq S ?_; clear S; intro a S
  refine wl_nil ?_
  refine xtn ?_
  refine c_seq ?_
  refine c_region ?_
  refine sq S ?_; clear S; intro a S
  refine sr S (dread_c t _ w (foots_lt S) (S.mem.fact LibF) (S.t t)) ?_; clear S; rintro _ a w hR S
  rw [htt] at hR
  obtain ⟨y, rfl, hyf, hyl, hyd⟩ := hR.yes hdb hgd
  replace S := S.add hyf
  iterate 4 (refine sq S ?_; clear S; intro a S)
  refine sa S ?_; clear S; intro b8 a w S
  refine sw S ?_; clear S; intro a w S
  iterate 2 (refine sq S ?_; clear S; intro a S)
  refine wl_nil ?_
  refine xtn ?_
  refine c_seq ?_
  refine c_region ?_
  iterate 2 (refine sq S ?_; clear S; intro a S)
  refine sr S (dopen_c y (freshL 1 1) 8 (by omega) _ w (foots_lt S) (S.t y.locked) (S.t _)) ?_; clear S; rintro _ a w ⟨z, rfl, hz, hzf⟩ S
  have hop := open_fresh (v := 1) (n := 8) (r := 2) (k := 8) (by omega) (by omega) (by omega) (by omega) (a := 1) (c := 1) (b := 2) (m := 2) (by omega) (by omega) (by omega) (by omega)
  rw [show (8 - (8 : Int)).toNat = 0 from rfl, ← hyd, show iter stepF 0 (freshT 1 1) = (freshL 1 1).t from rfl, if_pos (by omega)] at hop
  rw [hop] at hz S
  replace S := S.add hzf
  iterate 3 (refine sq S ?_; clear S; intro a S)
  refine sa S ?_; clear S; intro b11 a w S
  refine sw S ?_; clear S; intro a w S
  refine sq S ?_; clear S; intro a S
  refine wl_nil ?_
  refine xtn ?_
  refine c_seq ?_
  refine c_region ?_
  iterate 3 (refine sq S ?_; clear S; intro a S)
  iterate 2 (refine gQ S ?_; clear S; intro a S)
  iterate 2 (refine sq S ?_; clear S; intro a S)
  iterate 2 (refine gQ S ?_; clear S; intro a S)
  iterate 2 (refine sq S ?_; clear S; intro a S)
  iterate 2 (refine gQ S ?_; clear S; intro a S)
  iterate 2 (refine sq S ?_; clear S; intro a S)
  iterate 2 (refine gQ S ?_; clear S; intro a S)
  iterate 2 (refine sq S ?_; clear S; intro a S)
  iterate 2 (refine gQ S ?_; clear S; intro a S)
  refine gC S ?_; clear S; intro a w S
  iterate 2 (refine sq S ?_; clear S; intro a S)
  refine wl_nil ?_
  refine xtn ?_
  refine c_ret ?_
  refine end1 S (fun _ => ?_)
  have h1 : sameF z.t (freshL 2 2).t = true := (sameF_iff _ _).2 (by rw [hz]; rfl)
  simp [h1]
theorem databack_c (d : LDat) (leaf known0 : Int) (w0 : World) (ht : Stable (fun _ => False) w0 LibF) (hf : Stable (fun _ => False) w0 (LtF d.locked)) : Ret Tryd.prog 5 [vDat d, .int .i64 leaf, .int .i64 known0] w0 (fun _ => False) fun v _ => v = .bool true := by
  refine enter Tryd.func5 rfl rfl (Wd.begin (fs := [TabF, LibF, LtF d.locked]) (by simp; exact ⟨ht.imp fun _ h => h.1, ht, hf⟩)) (fun a S => ?_)
  simp only [Tryd.ntmps5, List.length_cons, List.length_nil, Nat.reduceAdd, Nat.reduceSub, List.replicate_succ, List.replicate_zero, List.cons_append, List.nil_append] at S
  refine c_seq ?_
  refine c_region ?_
  refine sa S ?_; clear S; intro b3 a w S
  refine sq S ?_; clear S; intro a S
  refine wl_nil ?_
  refine xtn ?_
  iterate 2 (refine c_seq ?_)
  refine c_region ?_
  refine sr S (wakes17_c _ (S.mem.fact0 LibF)) ?_; clear S; rintro _ a w rfl S
  refine sq S ?_; clear S; intro a S
  rw [show (!true) = false from rfl] at S
  refine wl_nil ?_
  refine xtn ?_
  refine c_condF S ?_
  refine c_skip ?_
  refine xtn ?_
  iterate 2 (refine c_seq ?_)
  refine c_region ?_
  refine sq S ?_; clear S; intro a S
  refine sc S ?_; clear S; intro a w S
  refine wl_nil ?_
  refine xtn ?_
  refine c_cond S (fun h3 => ?_) (fun h3 => ?_)
  · refine c_seq ?_
    refine c_region ?_
    refine sq S ?_; clear S; intro a S
    refine wl_nil ?_
    refine xtn ?_
    refine c_ret ?_
    refine xtr ?_
    refine end1 S (fun _ => rfl)
  · refine c_skip ?_
    refine xtn ?_
    refine c_mrge0 S (fun  uu => [(6, uu 6), (0, uu 7), (0, uu 8), (0, uu 9), (0, uu 10), (0, uu 11), (14, uu 26), (0, uu 27), (0, uu 28), (0, uu 29), (0, uu 30), (0, uu 31), (0, uu 32), (0, uu 33), (0, uu 34), (0, uu 35), (0, uu 36), (0, uu 37), (0, uu 38), (0, uu 39), (0, uu 40), (0, uu 41), (0, uu 42), (0, uu 43), (0, uu 44), (0, uu 45), (0, uu 46), (0, uu 47), (0, uu 48), (0, uu 49), (0, uu 50), (0, uu 51), (0, uu 52)]) ([Wk.box b3 28 (cDat d)]) ([TabF, LibF]) (True) ?_ ?_
    · refine c_seq ?_
      refine c_region ?_
      iterate 2 (refine sq S ?_; clear S; intro a S)
      have hn : d.name.length ≤ 1000000 := by
        simp only [overD, Bool.or_eq_false_iff, decide_eq_false_iff_not] at h3; omega
      refine sr S (dmake_c d leaf hn _ w (foots_lt S) (S.mem.fact TabF) (S.t d.locked)) ?_; clear S; rintro _ a w ⟨t, e, rfl, htf, he0, -⟩ S
      replace S := S.add htf
      iterate 3 (refine sq S ?_; clear S; intro a S)
      refine sa S ?_; clear S; intro b7 a w S
      refine sw S ?_; clear S; intro a w S
      refine sq S ?_; clear S; intro a S
      refine wl_nil ?_
      refine xtn ?_
      refine c_seq ?_
      refine c_region ?_
      iterate 2 (refine sq S ?_; clear S; intro a S)
      refine wl_nil ?_
      refine xtn ?_
      refine c_cond S (fun h6 => ?_) (fun h6 => ?_)
      · refine c_seq ?_
        refine c_region ?_
        refine sq S ?_; clear S; intro a S
        refine sr S (dread_c t _ w (foots_lt S) (S.mem.fact LibF) (S.t t)) ?_; clear S; rintro _ a w hR S
        obtain ⟨hdb, -, hgd, htt⟩ := he0 (by simpa using h6)
        rw [htt] at hR
        obtain ⟨y, rfl, hyf, hyl, hyd⟩ := hR.yes hdb hgd
        replace S := S.add hyf
        iterate 4 (refine sq S ?_; clear S; intro a S)
        refine sa S ?_; clear S; intro b9 a w S
        refine sw S ?_; clear S; intro a w S
        iterate 2 (refine sq S ?_; clear S; intro a S)
        refine wl_nil ?_
        refine xtn ?_
        refine c_seq ?_
        refine c_region ?_
        iterate 3 (refine sq S ?_; clear S; intro a S)
        iterate 3 (refine gQ S ?_; clear S; intro a S)
        iterate 2 (refine sq S ?_; clear S; intro a S)
        iterate 2 (refine gQ S ?_; clear S; intro a S)
        refine gC S ?_; clear S; intro a w S
        refine gQ S ?_; clear S; intro a S
        refine sq S ?_; clear S; intro a S
        refine wl_nil ?_
        refine xtn ?_
        refine c_cond S (fun h8 => ?_) (fun h8 => ?_)
        · refine c_seq ?_
          refine c_region ?_
          refine sq S ?_; clear S; intro a S
          refine wl_nil ?_
          refine xtn ?_
          refine c_ret ?_
          refine xtr ?_
          exfalso
          have hk : leaf = leaf := rfl
          have hs : dsameB y.d d.d = true := dsameB_iff.2 hyd
          simp [hs] at h8
        · refine c_skip ?_
          refine xtn ?_
          exact ⟨S.uu, trivial, S.sub _ _⟩
      · refine c_skip ?_
        refine xtn ?_
        exact ⟨S.uu, trivial, S.sub _ _⟩
    · clear S; rintro  uu a w - S
      refine c_seq ?_
      refine c_region ?_
      refine sc S ?_; clear S; intro a w S
      refine sa S ?_; clear S; intro b12 a w S
      refine sw S ?_; clear S; intro a w S
      refine wl_nil ?_
      refine xtn ?_
      refine c_seq ?_
      refine c_region ?_
      iterate 4 (refine sq S ?_; clear S; intro a S)
      have hkn := mod8 known0
      rw [w64 ((max known0 0).tmod 8 + 1) (by omega) (by omega)] at S
      generalize (max known0 0).tmod 8 + 1 = known at S hkn
      refine sq S ?_; clear S; intro a S
      refine wl_nil ?_
      refine xtn ?_
      refine c_seq ?_
      refine c_region ?_
      iterate 2 (refine sq S ?_; clear S; intro a S)
      refine sr S (state_c (freshL 1 1) known _ w (foots_lt S) (S.t _)) ?_; clear S; rintro _ a w ⟨h, rfl, hh, hhf⟩ S
      have hbf := back_fresh (a := 1) (c := 1) (by omega) (by omega) hkn.1 hkn.2
      rw [show (freshL 1 1).t = freshT 1 1 from rfl, hbf] at hh S
      replace S := S.add hhf
      iterate 3 (refine sq S ?_; clear S; intro a S)
      refine sa S ?_; clear S; intro b13 a w S
      refine sw S ?_; clear S; intro a w S
      refine sq S ?_; clear S; intro a S
      refine wl_nil ?_
      refine xtn ?_
      iterate 2 (refine c_seq ?_)
      refine c_region ?_
      iterate 2 (refine sq S ?_; clear S; intro a S)
      rw [show (!decide ((0 : Int) = 0)) = false from rfl] at S
      refine wl_nil ?_
      refine xtn ?_
      refine c_condF S ?_
      refine c_skip ?_
      refine xtn ?_
      iterate 2 (refine c_seq ?_)
      refine c_region ?_
      refine sq S ?_; clear S; intro a S
      refine wl_nil ?_
      refine xtn ?_
      refine c_block ?_
      refine c_fore1 S (fun (k : Nat) uu => [(6, uu 6), (8, .int .i64 ((k : Int) + 1)), (0, uu 16), (0, uu 17), (0, uu 18), (0, uu 19), (0, uu 20), (0, uu 21), (44, uu 66), (0, uu 67), (0, uu 68), (0, uu 69), (0, uu 70), (0, uu 71), (0, uu 72), (0, uu 73), (0, uu 74), (0, uu 75), (0, uu 76), (0, uu 77), (0, uu 78), (0, uu 79), (0, uu 80), (0, uu 81), (0, uu 82), (0, uu 83), (0, uu 84), (0, uu 85), (0, uu 86), (0, uu 87), (0, uu 88), (0, uu 89), (0, uu 90), (0, uu 91), (0, uu 92), (0, uu 93), (0, uu 94), (0, uu 95), (0, uu 96), (0, uu 97), (0, uu 98), (0, uu 99), (0, uu 100), (0, uu 101), (0, uu 102), (0, uu 103), (0, uu 104), (0, uu 105), (0, uu 106), (0, uu 107), (0, uu 108), (0, uu 109), (0, uu 110), (0, uu 111), (0, uu 112), (0, uu 113), (0, uu 114), (0, uu 115), (0, uu 116), (0, uu 117), (0, uu 118)]) (fun (k : Nat) => [Wk.box b13 24 h.cells, Wk.box b12 24 (freshL 1 1).cells]) (fun (k : Nat) => [LtF h, TabF, LibF]) (fun (k : Nat) => k ≤ 8) (fun (k : Nat) => 8 - k) (0) ?_ S.uu ?_ ?_
      · exact Nat.zero_le _
      · first | exact S | exact S.sub _ _
      · clear S; rintro k uu a w hk8 S
        iterate 2 (refine c_seq ?_)
        refine c_region ?_
        iterate 2 (refine sq S ?_; clear S; intro a S)
        refine wl_nil ?_
        refine xtn ?_
        refine c_cond S (fun h16 => ?_) (fun h16 => ?_)
        · refine c_skip ?_
          refine xtn ?_
          refine c_seq ?_
          refine c_block ?_
          refine c_seq ?_
          have hkk : k < 8 := by simp at h16; omega
          refine c_region ?_
          iterate 2 (refine sq S ?_; clear S; intro a S)
          refine sr S (state_c (freshL 1 1) ((k : Int) + 1) _ w (foots_lt S) (S.t _)) ?_; clear S; rintro _ a w ⟨s, rfl, hs, hsf⟩ S
          have hbf := back_fresh (a := 1) (c := 1) (by omega) (by omega) (m := (k : Int) + 1) (by omega) (by omega)
          rw [show (freshL 1 1).t = freshT 1 1 from rfl, hbf] at hs S
          replace S := S.add hsf
          iterate 3 (refine sq S ?_; clear S; intro a S)
          refine sa S ?_; clear S; intro b16 a w S
          refine sw S ?_; clear S; intro a w S
          refine sq S ?_; clear S; intro a S
          refine wl_nil ?_
          refine xtn ?_
          refine c_seq ?_
          refine c_drwe2 (.q 0 (.b2 1 6 (.b2 2 6 (.q 3 (.q 4 (.q 5 (.l 6 (.l 7 (.q 8 (.e))))))) (.l 2 (.q 3 (.q 4 (.q 5 (.l 7 (.q 8 (.e)))))))) (.l 1 (.l 2 (.q 3 (.q 4 (.q 5 (.l 7 (.q 8 (.e)))))))))) S (fun (b : Nat) (x : LTerm) uu => [(18, .pointer (some ⟨b, 0, none⟩)), (0, .int .i64 0), (56, uu 76), (0, uu 77), (0, uu 78), (0, uu 79), (0, uu 80), (0, uu 81)]) [Wk.box b16 24 s.cells, Wk.box b13 24 h.cells, Wk.box b12 24 (freshL 1 1).cells] (fun (b : Nat) (x : LTerm) => [Wk.box b 24 x.cells, Wk.box b16 24 s.cells, Wk.box b13 24 h.cells, Wk.box b12 24 (freshL 1 1).cells]) (fun (b : Nat) (x : LTerm) => [LtF x, LtF h, TabF, LibF]) (fun (b : Nat) (x : LTerm) => x.t = lkT 1 1 (8 - ((k : Int) + 1)).toNat (freshT 2 9)) ?_ ?_
          · intro w S
            refine tq S ?_; clear S; intro a S
            refine tb2 ?_ ?_
            · refine sc S ?_; clear S; intro a w S
              refine te S ?_
              refine tb2 ?_ ?_
              · refine sr S (dlock_c s (freshL 2 9) _ w (foots_lt S) (S.t s) (S.t _)) ?_; clear S; rintro _ a w ⟨x, rfl, hx, hxf⟩ S
                have hlk := lock_fresh (a := 1) (c := 1) (b := 2) (m := 9) (by omega) (by omega) (by omega) (by omega) (j := (8 - ((k : Int) + 1)).toNat) (by omega)
                have hs' : iter stepF (8 - ((k : Int) + 1)).toNat (freshT 1 1) = s.t := hs.symm
                rw [hs', show freshT 2 9 = (freshL 2 9).t from rfl] at hlk
                rw [hlk] at hx S
                replace S := S.add hxf
                refine te S ?_
                iterate 3 (refine tq S ?_; clear S; intro a S)
                refine tl ?_
                refine sa S ?_; clear S; intro b18 a w S
                refine te S ?_
                refine tl ?_
                refine sw S ?_; clear S; intro a w S
                refine te S ?_
                refine tq S ?_; clear S; intro a S
                refine tn ?_
                exact ⟨b18, x, S.uu, hx, S.sub _ _⟩
              · refine sa S ?_; clear S; intro b18 a w S
                refine te S ?_
                refine tl ?_
                refine sr S (dlock_c s (freshL 2 9) _ w (foots_lt S) (S.t s) (S.t _)) ?_; clear S; rintro _ a w ⟨x, rfl, hx, hxf⟩ S
                have hlk := lock_fresh (a := 1) (c := 1) (b := 2) (m := 9) (by omega) (by omega) (by omega) (by omega) (j := (8 - ((k : Int) + 1)).toNat) (by omega)
                have hs' : iter stepF (8 - ((k : Int) + 1)).toNat (freshT 1 1) = s.t := hs.symm
                rw [hs', show freshT 2 9 = (freshL 2 9).t from rfl] at hlk
                rw [hlk] at hx S
                replace S := S.add hxf
                refine te S ?_
                iterate 3 (refine tq S ?_; clear S; intro a S)
                refine tl ?_
                refine sw S ?_; clear S; intro a w S
                refine te S ?_
                refine tq S ?_; clear S; intro a S
                refine tn ?_
                exact ⟨b18, x, S.uu, hx, S.sub _ _⟩
            · refine sa S ?_; clear S; intro b18 a w S
              refine te S ?_
              refine tl ?_
              refine sc S ?_; clear S; intro a w S
              refine te S ?_
              refine tl ?_
              refine sr S (dlock_c s (freshL 2 9) _ w (foots_lt S) (S.t s) (S.t _)) ?_; clear S; rintro _ a w ⟨x, rfl, hx, hxf⟩ S
              have hlk := lock_fresh (a := 1) (c := 1) (b := 2) (m := 9) (by omega) (by omega) (by omega) (by omega) (j := (8 - ((k : Int) + 1)).toNat) (by omega)
              have hs' : iter stepF (8 - ((k : Int) + 1)).toNat (freshT 1 1) = s.t := hs.symm
              rw [hs', show freshT 2 9 = (freshL 2 9).t from rfl] at hlk
              rw [hlk] at hx S
              replace S := S.add hxf
              refine te S ?_
              iterate 3 (refine tq S ?_; clear S; intro a S)
              refine tl ?_
              refine sw S ?_; clear S; intro a w S
              refine te S ?_
              refine tq S ?_; clear S; intro a S
              refine tn ?_
              exact ⟨b18, x, S.uu, hx, S.sub _ _⟩
          clear S; rintro b x uu a w hx S
          refine xtn ?_
          iterate 2 (refine c_seq ?_)
          refine c_region ?_
          iterate 2 (refine sq S ?_; clear S; intro a S)
          rw [show (!decide ((0 : Int) = 0)) = false from rfl] at S
          refine sq S ?_; clear S; intro a S
          iterate 2 (refine gQ S ?_; clear S; intro a S)
          refine sq S ?_; clear S; intro a S
          refine wl_nil ?_
          refine xtn ?_
          refine c_cond S (fun h20 => ?_) (fun h20 => ?_)
          · refine c_seq ?_
            refine c_region ?_
            refine sq S ?_; clear S; intro a S
            refine wl_nil ?_
            refine xtn ?_
            refine c_ret ?_
            refine xtr ?_
            refine xbr ?_
            iterate 2 (refine xtr ?_)
            refine xbr ?_
            refine xtr ?_
            exfalso
            simp at h20
          · refine c_skip ?_
            refine xtn ?_
            refine c_seq ?_
            refine c_region ?_
            iterate 5 (refine sq S ?_; clear S; intro a S)
            refine sr S (dopen_c ⟨[102], 1, (k : Int) + 1, 2, x⟩ h known (by simp) _ w (foots_lt S) (S.t x) (S.t h)) ?_; clear S; rintro _ a w ⟨z, rfl, hz, hzf⟩ S
            have hop := open_fresh (v := 1) (n := (k : Int) + 1) (r := 2) (k := known) (by omega) (by omega) (by omega) (by omega) (a := 1) (c := 1) (b := 2) (m := 9) (by omega) (by omega) (by omega) (by omega)
            have hh' : iter stepF (8 - known).toNat (freshT 1 1) = h.t := hh.symm
            rw [← fresh_dat (v := 1) (n := (k : Int) + 1) (r := 2) hx, hh'] at hop
            rw [hop] at hz S
            replace S := S.add hzf
            iterate 3 (refine sq S ?_; clear S; intro a S)
            refine sa S ?_; clear S; intro b20 a w S
            refine sw S ?_; clear S; intro a w S
            refine sq S ?_; clear S; intro a S
            refine wl_nil ?_
            refine xtn ?_
            refine c_seq ?_
            refine c_drawD [(0, true), (1, true), (2, true), (3, true), (4, true), (5, true), (6, true), (7, true), (8, false), (9, false), (10, true), (11, true), (12, true), (13, true), (14, true), (15, true), (16, true), (17, true), (18, true), (19, true), (20, true), (21, true)] [] S ?_; clear S; intro w S
            iterate 4 (refine dq S ?_; clear S; intro a S)
            iterate 4 (refine dqG S ?_; clear S; intro a S)
            refine dl ?_
            refine gC S ?_; clear S; intro a w S
            refine de S ?_
            refine dl ?_
            refine gC S ?_; clear S; intro a w S
            refine de S ?_
            iterate 2 (refine dqG S ?_; clear S; intro a S)
            iterate 2 (refine dq S ?_; clear S; intro a S)
            iterate 7 (refine dqG S ?_; clear S; intro a S)
            refine dq S ?_; clear S; intro a S
            refine dn ?_
            refine xtn ?_
            refine c_cond S (fun h23 => ?_) (fun h23 => ?_)
            · refine c_seq ?_
              refine c_region ?_
              refine sq S ?_; clear S; intro a S
              refine wl_nil ?_
              refine xtn ?_
              refine c_ret ?_
              refine xbr ?_
              iterate 2 (refine xtr ?_)
              refine xbr ?_
              refine xtr ?_
              exfalso
              by_cases hc : (k : Int) + 1 ≤ known
              · rw [if_pos hc] at hz
                have h1 : sameF z.t (freshL 2 9).t = true := (sameF_iff _ _).2 (by rw [hz]; rfl)
                simp [hc, h1] at h23
                omega
              · simp [hc] at h23
            · refine c_skip ?_
              refine xbn ?_
              refine xtn ?_
              refine c_region ?_
              iterate 3 (refine sq S ?_; clear S; intro a S)
              refine wl_nil ?_
              refine xtn ?_
              rw [w64 ((k : Int) + 1 + 1) (by omega) (by omega), show (k : Int) + 1 + 1 = ((k + 1 : Nat) : Int) + 1 from by omega] at S
              exact ⟨k + 1, S.uu, hkk, S.sub _ _, by omega⟩
        · refine c_exit ?_
          iterate 2 (refine xte ?_)
          refine xbe ?_
          refine xtn ?_
          refine c_seq ?_
          refine c_region ?_
          refine sq S ?_; clear S; intro a S
          refine wl_nil ?_
          refine xtn ?_
          refine c_ret ?_
          refine end1 S (fun _ => rfl)
end Go.Proofs.YtgielmldblopeaaDoor

/- What writings are that come in; the tied card of DataBack. -/
namespace Go.Proofs.YtgielmldblopeaaDoor
open Go Go.Wk
open Go.ChangeShapes Go.WideShapes Go.ChangeAt Go.RowKit
set_option maxRecDepth 100000

instance troDat : Tro Tryd.prog 28 LDat := ⟨fun enc w base spare held fuel cs x h => by
  obtain ⟨hlen, hf⟩ := trod_flds Tryd.underlying28 h
  rw [show Tryd.prog.cellsOf 28 = 9 from by kernel_rfl] at hlen
  obtain ⟨n0, y0, g0⟩ := hf 0 9 0 rfl
  obtain ⟨n1, y1, g1⟩ := hf 1 3 1 rfl
  obtain ⟨n2, y2, g2⟩ := hf 2 3 2 rfl
  obtain ⟨n3, y3, g3⟩ := hf 3 3 3 rfl
  obtain ⟨n4, y4, g4⟩ := hf 4 24 4 rfl
  have hS : Tro Tryd.prog 9 (List UInt8) := troS Tryd.underlying9 (by kernel_rfl)
  obtain ⟨u0, e0, i0⟩ := trod_fld (α := List UInt8) g0 rfl
  obtain ⟨u1, e1, i1⟩ := trod_fld (α := Int) g1 rfl
  obtain ⟨u2, e2, i2⟩ := trod_fld (α := Int) g2 rfl
  obtain ⟨u3, e3, i3⟩ := trod_fld (α := Int) g3 rfl
  obtain ⟨t, e4, i4⟩ := trod_fld (α := LTerm) g4 rfl
  refine ⟨⟨u0, u1, u2, u3, t⟩, ?_, i4⟩
  match cs, hlen with
  | [c0, c1, c2, c3, d1, d2, d3, d4, d5], _ =>
    have q0 : [c0] = [str u0] := e0
    have q1 : [c1] = [.int .i64 u1] := e1
    have q2 : [c2] = [.int .i64 u2] := e2
    have q3 : [c3] = [.int .i64 u3] := e3
    have q4 : [d1, d2, d3, d4, d5] = t.cells := e4
    simp only [List.cons.injEq, and_true] at q0 q1 q2 q3
    show [c0, c1, c2, c3] ++ [d1, d2, d3, d4, d5] = [str u0, .int .i64 u1, .int .i64 u2, .int .i64 u3] ++ t.cells
    rw [q0, q1, q2, q3, q4], by kernel_rfl⟩
theorem databack_lifted (os : Os) (started : os.Started) (H : Type) (enc : TypeId × Value → H) :
    ReturnsInHanded {} Tryd.checked os 5 .any (fun w args => (Rows.dataBackSpec.pre enc Tryd.prog Tryd.f5 Rows.dataBackRow.domain false w args ∧ laidMet Tryd.prog laidL w) ∧ sizedMet enc Tryd.prog Tryd.f5 (OpenSpec.ofChange Rows.dataBackSpec) false w args)
      (Rows.dataBackSpec.post enc Tryd.prog Tryd.f5 false true false false) := by
  refine returnsInHanded_of_change_and (C := Tryd.checked) (X := fun w _ => laidMet Tryd.prog laidL w) (fun _ _ _ hh h => h.of_heap hh) own started (by kernel_rfl) Tryd.func5
    (ChangeSpec.witness_at (enc := enc) (C := Tryd.checked) (os := os) (X := fun w _ => laidMet Tryd.prog laidL w) false (laidWorld os) #[.agg #[.string .empty, .int .i64 0, .int .i64 0, .int .i64 0, .int .i64 0, .int .i64 0, .int .i64 0, .string .empty, .slice none 0 0], .int .i64 0, .int .i64 0] 8 rfl (by kernel_rfl) (by kernel_rfl) (by kernel_rfl) (by kernel_rfl) (by kernel_rfl) (laidWorld_met os _)) ?_
  intro W base args ds gs before hval0 hW _ _ hL _
  have hval : ∀ (j : Nat) t v, Tryd.f5.params[j]? = some t → args[j]? = some v → Value.okWide Tryd.prog W .any base t v := hval0
  have hW2 := hW
  obtain ⟨p, q, hA0, hV, rfl, _, _⟩ := hW
  have hA : DataW.TrodAll enc Tryd.prog W 0 (fun _ => true) true Tryd.f5.params.toList args.toList ds p := hA0
  rw [Tryd.params5] at hA hval
  obtain ⟨v0, v1, v2, d0, d1, d2, p0, p1, p2, rfl, rfl, rfl, h0, h1, h2⟩ := trodAll_three hA
  obtain ⟨rfl, rfl⟩ := trodVars_none hV
  obtain ⟨d, rfl, h_d⟩ := struct_of_Trod (α := LDat) Tryd.underlying28 h0 (hval 0 28 v0 rfl rfl)
  obtain ⟨leaf, rfl, rfl, rfl, wleaf⟩ := open_int Tryd.underlying3 (hval 1 3 v1 rfl rfl) h1
  obtain ⟨known, rfl, rfl, rfl, wknown⟩ := open_int Tryd.underlying3 (hval 2 3 v2 rfl rfl) h2
  refine Ret.law (databack_c d leaf known W (lib_of_laid hL).stable h_d.stable) fun W1 hag => ?_
  exact ⟨_, rfl, law_post (B := 4) laidOut (by kernel_rfl) rfl rfl rfl hW2 rfl rfl rfl hag⟩
theorem databack_row : Rows.DataBackSaid :=
  OpenClaim.holds_of_wide 5 Tryd.f5 rfl rfl rfl rfl rfl rfl rfl ⟨rfl, rfl, rfl, rfl, rfl⟩ rfl rfl rfl rfl rfl (by kernel_rfl) Tryd.func5 (by kernel_rfl)
    (of_decide_eq_true (by kernel_rfl)) (by unfold Func.isWrapper; rw [if_neg (of_decide_eq_false (by kernel_rfl))]; exact ⟨rfl, rfl⟩)
    (fun os started H enc _ => databack_lifted os started H enc)
theorem databack_holds : Rows.DataBackCardSaid :=
  Claim7.holds_tied_plain_at .later [] [.data, .data, .data, .sentinel, .sentinel] true (true, "ffa992c3ea0898cc87c9e270811ba28030a1923f6bb03dd9bf75b2254005cd8f") true
    databack_row (fun _ h => by cases h) (by kernel_rfl) (fun _ h => by cases h) dataBack_row_tie rfl ⟨rfl, rfl⟩ (by kernel_rfl) rfl
    (fun f fn hf hfn => by
      obtain rfl : f = 5 := Option.some.inj ((show Tryd.prog.funcNamed "safehouse/safehouselaw17.DataBack" = some 5 by kernel_rfl).symm.trans hf) |>.symm
      obtain rfl : fn = Tryd.f5 := (Option.some.inj (Tryd.func5.symm.trans hfn)).symm
      exact ⟨by kernel_rfl, fun j t ht => by
        rw [Tryd.params5] at ht
        have h3 : t = 3 ∨ t = 28 := by
          rcases j with _ | _ | _ | j
          · exact .inr ((by simpa using ht.symm))
          · exact .inl (by simpa using ht.symm)
          · exact .inl (by simpa using ht.symm)
          · simp at ht
        rcases h3 with rfl | rfl
        · exact (show Tryd.prog.wantsStandIn 3 = false by kernel_rfl)
        · exact (show Tryd.prog.wantsStandIn 28 = false by kernel_rfl)⟩)
    (by kernel_rfl)
end Go.Proofs.YtgielmldblopeaaDoor
