/- 8: a part of this claim's texts, joined: TermJ TermK TermL VaultK VaultL VaultN PlainVaultE PlainVaultF PlainVaultG PlainVaultH VaultO VaultP. -/
import Derived.Test.YtdakncgafdnjfaaGreatPe7
namespace Go.Proofs.YtdakncgafdnjfaaGreat
open Go Go.Wk
set_option synthInstance.maxSize 100000
set_option synthInstance.maxHeartbeats 400000
set_option maxRecDepth 100000
theorem own_capT {w : World} {e : TypeId} {sz : Nat} {p : Option Addr} {n c : Nat} {xs : List Value} (h : w.ownsRow 0 e sz (.slice p n c) n xs) : c ≤ maxLen := by
  rcases h.2 with ⟨hv, h0⟩ | ⟨g, cap, cur, hv, hb, hg, hnc, hcm, hcs, ht⟩
  · cases hv; exact Nat.zero_le _
  · cases hv; exact hcm
def DecR (Mr : Nat → Prop) (h rd m left : Nat) (r : RS) (v : Value) (w : World) : Prop := ∃ (z : LTerm) (left' : Nat) (r' : RS), v = vL z ∧ decT m left r.bs = .ok (z.t, left', r'.bs) ∧ left' ≤ left ∧ r'.why = 0 ∧ SubR r r' ∧
  (rtI h rd (left' : Nat) r').holds w ∧ Stable (fun k => (rtI h rd (left' : Nat) r').foot k ∨ Mr k) w (LtF z)
def DecX (m left : Nat) (r : RS) (ch : List PanicEntry) : Prop := ∃ e, ch = pch (wrongE e) ∧ decT m left r.bs = .error e
theorem rterm_c0 (N : Nat) : ∀ (m h rd left : Nat) (r : RS) (Mr : Nat → Prop) (w0 : World), m < N → m ≤ 60 → left ≤ 1200 → r.why = 0 → r.bs.length ≤ r.c → r.bs.length ≤ 10000000 → (∀ k, Mr k → k < w0.heap.size ∧ ¬ (rtI h rd (left : Nat) r).foot k) → (rtI h rd (left : Nat) r).holds w0 → Stable (fun k => (rtI h rd (left : Nat) r).foot k ∨ Mr k) w0 (GlF r.p r.bs) →
    RetP Tryz.prog 169 [.pointer (some ⟨h, 0, none⟩), .int .i64 (61 - (m : Nat) : Int)] w0 (rtI h rd (left : Nat) r).foot (fun v w' => DecR Mr h rd m left r v w') (fun ch _ => DecX m left r ch) := by
  induction N with
  | zero => intro m _ _ _ _ _ _ h; exact absurd h (Nat.not_lt_zero _)
  | succ N ih =>
  intro m h rd left r Mr w0 hmN hm hleft hw hc hl hMr hd hf
  refine enter Tryz.func169 rfl rfl (Wd.it2LentM (x := tmI h rd (left : Nat)) (y := rdI rd r) (Mr := Mr) (fs := [GlF r.p r.bs]) hd rfl rfl hMr (by simpa using hf)) (fun a S => ?_)
  simp only [Tryz.ntmps169, List.length_cons, List.length_nil, Nat.reduceAdd, Nat.reduceSub, List.replicate_succ, List.replicate_zero, List.cons_append, List.nil_append] at S
  refine c_seq ?_
  refine c_region ?_
  refine sa S ?_; clear S; intro b4 a w S
  refine wl_nil ?_
  refine xtn ?_
  refine c_seq ?_
  refine c_region ?_
  iterate 4 (refine sq S ?_; clear S; intro a S)
  refine sit (rdI rd r) S (u8R_c rd r _ hc hl (S.it (rdI rd r)) (S.lend (rdI rd r) (S.mem.fact (GlF r.p r.bs)))) rfl ?_; clear S; rintro _ a w ⟨rfl, hh⟩ hS
  have S := hS (rdI rd (takeR r 1)) hh (fun k h => .inl h)
  clear hS
  obtain ⟨kd, hkd⟩ : ∃ kd, kd = numN (tookR r 1) 0 := ⟨_, rfl⟩
  rw [← hkd] at S
  have hkl : kd < 256 := by rw [hkd]; exact (took_num r 1 (by decide)).2
  refine sq S ?_; clear S; intro a S
  rw [w64 (kd : Int) (by omega) (by omega)] at S
  refine sq S ?_; clear S; intro a S
  refine sa S ?_; clear S; intro b5 a w S
  refine sw S ?_; clear S; intro a w S
  refine wl_nil ?_
  refine xtn ?_
  refine c_seq ?_
  refine c_region ?_
  iterate 2 (refine sq S ?_; clear S; intro a S)
  refine sc S ?_; clear S; intro a w S
  refine sq S ?_; clear S; intro a S
  refine wl_nil ?_
  refine xtn ?_
  refine c_seq ?_
  refine c_region ?_
  iterate 5 (refine sq S ?_; clear S; intro a S)
  rw [w64 ((left : Int) - 1) (by omega) (by omega)] at S
  replace S := S.add (Φ := GlF (takeR r 1).p (takeR r 1).bs) (takeR_gl hc (S.mem.fact (GlF r.p r.bs)))
  have hsub1 : SubR r (takeR r 1) := SubR.take r 1
  iterate 2 (refine sq S ?_; clear S; intro a S)
  refine sw S ?_; clear S; intro a w S
  refine wl_nil ?_
  refine xtn ?_
  refine c_seq ?_
  refine c_region ?_
  iterate 4 (refine sq S ?_; clear S; intro a S)
  iterate 5 (refine gQ S ?_; clear S; intro a S)
  iterate 2 (refine sq S ?_; clear S; intro a S)
  iterate 2 (refine gQ S ?_; clear S; intro a S)
  refine sq S ?_; clear S; intro a S
  refine srP S (needR_c h rd ((left : Int) - 1) (takeR r 1) _ w (BoxF.stable (S.box h) (fun h => h)) (BoxF.stable (S.box rd) (fun h => h))) (fun ch w' hx S => ?_) ?_
  · repeat (first | refine xtp ?_ | refine xbp ?_)
    refine endX S ?_
    obtain ⟨e, rfl, (⟨h1, rfl⟩ | ⟨h1, h2, rfl⟩)⟩ := hx
    · exact ⟨7, rfl, by rw [take1_bad hw h1, decT_nil]⟩
    · obtain ⟨c, t, hbs, hnum, hr1⟩ := take1_ok hw h1
      refine ⟨150, rfl, ?_⟩
      rw [hbs, decT_cons, if_pos]
      rw [hkd, hnum] at h2
      simp only [Bool.and_eq_false_iff, Bool.not_eq_false', decide_eq_true_eq, decide_eq_false_iff_not] at h2
      omega
  clear S; rintro _ a w ⟨hw1, hb⟩ S
  obtain ⟨c, t, hbs, hnum, hr1⟩ := take1_ok hw hw1
  rw [← hkd] at hnum
  simp only [Bool.and_eq_true, Bool.not_eq_true', decide_eq_true_eq, decide_eq_false_iff_not] at hb
  have hdec : decT m left r.bs = decB (decT (m - 1)) left (kd : Int) t := by
    rw [hbs, decT_cons, if_neg (by rw [← hnum]; omega), ← hnum]
  obtain ⟨r1, hr1e⟩ : ∃ r1, r1 = takeR r 1 := ⟨_, rfl⟩
  rw [← hr1e] at S hw1 hr1 hsub1
  have hc1 := hsub1.cap hc
  have hl1 := hsub1.len
  refine wl_nil ?_
  refine xtn ?_
  refine c_mrge2 S (fun (r2 : RS) (s : List UInt8) uu => [(7, uu 7), (32, uu 40), (0, uu 41), (0, uu 42), (0, uu 43), (0, uu 44), (0, uu 45), (0, uu 46), (0, uu 47), (0, uu 48), (0, uu 49), (0, uu 50), (0, uu 51), (0, uu 52), (0, uu 53), (0, uu 54), (0, uu 55), (0, uu 56), (0, uu 57), (0, uu 58), (0, uu 59), (0, uu 60), (0, uu 61)]) (fun (r2 : RS) (s : List UInt8) => [Wk.box b5 43 [.int .i64 kd, .int .i64 0, .int .i64 0, str s, .slice none 0 0], tmI h rd ((left : Int) - 1), rdI rd r2, Wk.box b4 43 [.int .i64 0, .int .i64 0, .int .i64 0, .string ⟨#[]⟩, .slice none 0 0], ext Mr]) (fun (r2 : RS) (s : List UInt8) => [GlF r2.p r2.bs]) (fun (r2 : RS) (s : List UInt8) => textD (kd : Int) t = .ok (s, r2.bs) ∧ r2.why = 0 ∧ SubR r1 r2) ?_ ?_
  · refine c_seq ?_
    refine c_region ?_
    refine sq S ?_; clear S; intro a S
    refine sc S ?_; clear S; intro a w S
    refine wl_nil ?_
    refine xtn ?_
    refine c_cond S (fun h5 => ?_) (fun h5 => ?_)
    · refine c_seq ?_
      refine c_region ?_
      iterate 4 (refine sq S ?_; clear S; intro a S)
      refine sit (rdI rd r1) S (u8R_c rd r1 _ hc1 (by omega) (S.it (rdI rd r1)) (S.lend (rdI rd r1) (S.mem.fact (GlF r1.p r1.bs)))) rfl ?_; clear S; rintro _ a w ⟨rfl, hh⟩ hS
      have S := hS (rdI rd (takeR r1 1)) hh (fun k h => .inl h)
      clear hS
      obtain ⟨nn, hnn⟩ : ∃ nn, nn = numN (tookR r1 1) 0 := ⟨_, rfl⟩
      rw [← hnn] at S
      have hnl : nn < 256 := by rw [hnn]; exact (took_num r1 1 (by decide)).2
      replace S := S.add (Φ := GlF (takeR r1 1).p (takeR r1 1).bs) (takeR_gl hc1 (S.mem.fact (GlF r1.p r1.bs)))
      refine sq S ?_; clear S; intro a S
      rw [w64 (nn : Int) (by omega) (by omega)] at S
      refine sq S ?_; clear S; intro a S
      refine wl_nil ?_
      refine xtn ?_
      refine c_seq ?_
      refine c_region ?_
      iterate 3 (refine sq S ?_; clear S; intro a S)
      refine srP S (needR_c h rd ((left : Int) - 1) (takeR r1 1) _ w (BoxF.stable (S.box h) (fun h => h)) (BoxF.stable (S.box rd) (fun h => h))) (fun ch w' hx S => ?_) ?_
      · repeat (first | refine xtp ?_ | refine xbp ?_)
        refine endX S ?_
        obtain ⟨e, rfl, (⟨h1, rfl⟩ | ⟨h1, h2, rfl⟩)⟩ := hx
        · refine ⟨7, rfl, ?_⟩
          rw [hdec, ← hr1, take1_bad hw1 h1]; exact decB_text (textD_nil h5)
        · obtain ⟨c2, t2, hb2, hn2, -⟩ := take1_ok hw1 h1
          refine ⟨150, rfl, ?_⟩
          rw [hdec, ← hr1, hb2]
          refine decB_text (textD_long h5 ?_)
          have := of_decide_eq_false h2
          omega
      clear S; rintro _ a w ⟨hw1b, hb1⟩ S
      obtain ⟨c2, t2, hb2, hn2, hr2⟩ := take1_ok hw1 hw1b
      rw [← hnn] at hn2
      have hb1 := of_decide_eq_true hb1
      obtain ⟨r1b, hr1b⟩ : ∃ r1b, r1b = takeR r1 1 := ⟨_, rfl⟩
      have hsub1b : SubR r1 r1b := hr1b ▸ SubR.take r1 1
      rw [← hr1b] at S hw1b hr2
      have hc1b := hsub1b.cap hc1
      have hl1b := hsub1b.len
      refine wl_nil ?_
      refine xtn ?_
      refine c_seq ?_
      refine c_region ?_
      iterate 5 (refine sq S ?_; clear S; intro a S)
      refine sit (rdI rd r1b) S (rawR_c rd r1b nn _ (by omega) hc1b (by omega) (S.it (rdI rd r1b)) (S.lend (rdI rd r1b) (S.mem.fact (GlF r1b.p r1b.bs)))) rfl ?_; clear S; rintro _ a w ⟨p8, c8, rfl, hh, hf8⟩ hS
      have S := hS (both (Wk.row 5 1 p8 (tookR r1b nn).length c8 (encL (tookR r1b nn))) (rdI rd (takeR r1b nn))) hh hf8
      clear hS
      replace S := S.front (both (Wk.row 5 1 p8 (tookR r1b nn).length c8 (encL (tookR r1b nn))) (rdI rd (takeR r1b nn)))
      replace S := S.ofBoth
      replace S := S.add (Φ := GlF (takeR r1b nn).p (takeR r1b nn).bs) (takeR_gl hc1b (S.mem.fact (GlF r1b.p r1b.bs)))
      iterate 2 (refine sq S ?_; clear S; intro a S)
      refine sw S ?_; clear S; intro a w S
      refine wl_nil ?_
      refine xtn ?_
      refine c_region ?_
      refine sq S ?_; clear S; intro a S
      refine srP S (needR_c h rd ((left : Int) - 1) (takeR r1b nn) _ w (BoxF.stable (S.box h) (fun h => h)) (BoxF.stable (S.box rd) (fun h => h))) (fun ch w' hx S => ?_) ?_
      · repeat (first | refine xtp ?_ | refine xbp ?_)
        refine endX S ?_
        obtain ⟨e, rfl, (⟨h1, rfl⟩ | ⟨h1, h2, rfl⟩)⟩ := hx
        · refine ⟨7, rfl, ?_⟩
          have hsh := take_bad hw1b h1
          rw [hdec, ← hr1, hb2]
          refine decB_text (textD_short h5 (by omega) ?_)
          rw [← hr2, ← hn2]; exact hsh
        · cases h2
      clear S; rintro _ a w ⟨hw1c, -⟩ S
      obtain ⟨q1, q2, q3⟩ := take_ok hw1b hw1c
      refine wl_nil ?_
      refine xtn ?_
      replace S := ((((S.front (ext Mr)).front (Wk.box b4 43 [.int .i64 0, .int .i64 0, .int .i64 0, .string ⟨#[]⟩, .slice none 0 0])).front (rdI rd (takeR r1b nn))).front (tmI h rd ((left : Int) - 1))).front (Wk.box b5 43 [.int .i64 kd, .int .i64 0, .int .i64 0, str (tookR r1b nn), .slice none 0 0])
      refine ⟨takeR r1b nn, tookR r1b nn, S.uu, ⟨?_, hw1c, hsub1b.trans (SubR.take r1b nn)⟩, S.sub _ _⟩
      rw [← hr1, hb2, textD_ok h5 (by omega) (by rw [← hr2, ← hn2]; omega), q2, q3, ← hr2, ← hn2]
    · refine c_skip ?_
      refine xtn ?_
      rw [show (Value.string ⟨#[]⟩) = str [] from rfl] at S
      replace S := ((((S.front (ext Mr)).front (Wk.box b4 43 [.int .i64 0, .int .i64 0, .int .i64 0, str [], .slice none 0 0])).front (rdI rd r1)).front (tmI h rd ((left : Int) - 1))).front (Wk.box b5 43 [.int .i64 kd, .int .i64 0, .int .i64 0, str [], .slice none 0 0])
      exact ⟨r1, [], S.uu, ⟨by rw [← hr1]; exact textD_none h5, hw1, SubR.refl r1⟩, S.sub _ _⟩
  · clear S; rintro r2 s uu a w ⟨htx, hw2, hsub2⟩ S
    have hc2 := hsub2.cap hc1
    have hl2 := hsub2.len
    refine c_mrge2 S (fun (r3 : RS) (u : Int) uu => [(62, uu 62), (0, uu 63), (0, uu 64), (0, uu 65), (0, uu 66), (0, uu 67), (0, uu 68), (0, uu 69), (0, uu 70), (0, uu 71), (0, uu 72), (0, uu 73), (0, uu 74), (0, uu 75)]) (fun (r3 : RS) (u : Int) => [Wk.box b5 43 [.int .i64 kd, .int .i64 u, .int .i64 0, str s, .slice none 0 0], tmI h rd ((left : Int) - 1), rdI rd r3, Wk.box b4 43 [.int .i64 0, .int .i64 0, .int .i64 0, .string ⟨#[]⟩, .slice none 0 0], ext Mr]) (fun (r3 : RS) (u : Int) => [GlF r3.p r3.bs]) (fun (r3 : RS) (u : Int) => userD (kd : Int) r2.bs = .ok (u, r3.bs) ∧ r3.why = 0 ∧ SubR r2 r3) ?_ ?_
    · refine c_seq ?_
      refine c_region ?_
      refine sq S ?_; clear S; intro a S
      refine sc S ?_; clear S; intro a w S
      refine wl_nil ?_
      refine xtn ?_
      refine c_cond S (fun h10 => ?_) (fun h10 => ?_)
      · refine c_seq ?_
        refine c_region ?_
        iterate 4 (refine sq S ?_; clear S; intro a S)
        refine sit (rdI rd r2) S (u8R_c rd r2 _ hc2 (by omega) (S.it (rdI rd r2)) (S.lend (rdI rd r2) (S.mem.fact (GlF r2.p r2.bs)))) rfl ?_; clear S; rintro _ a w ⟨rfl, hh⟩ hS
        have S := hS (rdI rd (takeR r2 1)) hh (fun k h => .inl h)
        clear hS
        obtain ⟨uu', huu⟩ : ∃ uu', uu' = numN (tookR r2 1) 0 := ⟨_, rfl⟩
        rw [← huu] at S
        have hul : uu' < 256 := by rw [huu]; exact (took_num r2 1 (by decide)).2
        replace S := S.add (Φ := GlF (takeR r2 1).p (takeR r2 1).bs) (takeR_gl hc2 (S.mem.fact (GlF r2.p r2.bs)))
        refine sq S ?_; clear S; intro a S
        rw [w64 (uu' : Int) (by omega) (by omega)] at S
        refine sq S ?_; clear S; intro a S
        refine sw S ?_; clear S; intro a w S
        refine wl_nil ?_
        refine xtn ?_
        refine c_region ?_
        iterate 3 (refine sq S ?_; clear S; intro a S)
        refine sc S ?_; clear S; intro a w S
        refine srP S (needR_c h rd ((left : Int) - 1) (takeR r2 1) _ w (BoxF.stable (S.box h) (fun h => h)) (BoxF.stable (S.box rd) (fun h => h))) (fun ch w' hx S => ?_) ?_
        · repeat (first | refine xtp ?_ | refine xbp ?_)
          refine endX S ?_
          obtain ⟨e, rfl, (⟨h1, rfl⟩ | ⟨h1, h2, rfl⟩)⟩ := hx
          · refine ⟨7, rfl, ?_⟩
            rw [hdec]; refine decB_user htx ?_
            rw [take1_bad hw2 h1]; exact userD_nil h10
          · obtain ⟨c3, t3, hb3, hn3, -⟩ := take1_ok hw2 h1
            refine ⟨150, rfl, ?_⟩
            rw [hdec]; refine decB_user htx ?_
            rw [hb3]
            refine userD_bad h10 ?_
            simp only [knownF, Bool.and_eq_false_iff, decide_eq_false_iff_not] at h2
            omega
        clear S; rintro _ a w ⟨hw2b, hb3⟩ S
        obtain ⟨c3, t3, hbb3, hn3, hr3⟩ := take1_ok hw2 hw2b
        rw [← huu] at hn3
        simp only [knownF, Bool.and_eq_true, decide_eq_true_eq] at hb3
        refine wl_nil ?_
        refine xtn ?_
        replace S := ((((S.front (ext Mr)).front (Wk.box b4 43 [.int .i64 0, .int .i64 0, .int .i64 0, .string ⟨#[]⟩, .slice none 0 0])).front (rdI rd (takeR r2 1))).front (tmI h rd ((left : Int) - 1))).front (Wk.box b5 43 [.int .i64 kd, .int .i64 (uu' : Int), .int .i64 0, str s, .slice none 0 0])
        refine ⟨takeR r2 1, (uu' : Int), S.uu, ⟨?_, hw2b, SubR.take r2 1⟩, S.sub _ _⟩
        rw [hbb3, userD_ok h10 (by omega), hr3, hn3]
      · refine c_skip ?_
        refine xtn ?_
        exact ⟨r2, 0, S.uu, ⟨userD_none h10, hw2, SubR.refl r2⟩, S.sub _ _⟩
    · clear S; rintro r3 u uu a w ⟨hus, hw3, hsub3⟩ S
      have hc3 := hsub3.cap hc2
      have hl3 := hsub3.len
      refine c_mrge2 S (fun (r4 : RS) (n : Int) uu => [(76, uu 76), (0, uu 77), (0, uu 78), (0, uu 79), (0, uu 80), (0, uu 81), (0, uu 82), (0, uu 83), (0, uu 84), (0, uu 85), (0, uu 86)]) (fun (r4 : RS) (n : Int) => [Wk.box b5 43 [.int .i64 kd, .int .i64 u, .int .i64 n, str s, .slice none 0 0], tmI h rd ((left : Int) - 1), rdI rd r4, Wk.box b4 43 [.int .i64 0, .int .i64 0, .int .i64 0, .string ⟨#[]⟩, .slice none 0 0], ext Mr]) (fun (r4 : RS) (n : Int) => [GlF r4.p r4.bs]) (fun (r4 : RS) (n : Int) => numD (kd : Int) r3.bs = .ok (n, r4.bs) ∧ r4.why = 0 ∧ SubR r3 r4) ?_ ?_
      · refine c_seq ?_
        refine c_region ?_
        refine sq S ?_; clear S; intro a S
        refine sc S ?_; clear S; intro a w S
        refine wl_nil ?_
        refine xtn ?_
        refine c_cond S (fun h13 => ?_) (fun h13 => ?_)
        · refine c_seq ?_
          refine c_region ?_
          iterate 4 (refine sq S ?_; clear S; intro a S)
          refine sit (rdI rd r3) S (u16R_c rd r3 _ hc3 (by omega) (S.it (rdI rd r3)) (S.lend (rdI rd r3) (S.mem.fact (GlF r3.p r3.bs)))) rfl ?_; clear S; rintro _ a w ⟨rfl, hh⟩ hS
          have S := hS (rdI rd (takeR r3 2)) hh (fun k h => .inl h)
          clear hS
          obtain ⟨n2, hn2⟩ : ∃ n2, n2 = numN (tookR r3 2) 0 := ⟨_, rfl⟩
          rw [← hn2] at S
          have hn2l : n2 < 65536 := by rw [hn2]; exact (took_num r3 2 (by decide)).2
          replace S := S.add (Φ := GlF (takeR r3 2).p (takeR r3 2).bs) (takeR_gl hc3 (S.mem.fact (GlF r3.p r3.bs)))
          refine sq S ?_; clear S; intro a S
          rw [w64 (n2 : Int) (by omega) (by omega)] at S
          refine sq S ?_; clear S; intro a S
          refine sw S ?_; clear S; intro a w S
          refine wl_nil ?_
          refine xtn ?_
          refine c_region ?_
          refine sq S ?_; clear S; intro a S
          refine srP S (needR_c h rd ((left : Int) - 1) (takeR r3 2) _ w (BoxF.stable (S.box h) (fun h => h)) (BoxF.stable (S.box rd) (fun h => h))) (fun ch w' hx S => ?_) ?_
          · repeat (first | refine xtp ?_ | refine xbp ?_)
            refine endX S ?_
            obtain ⟨e, rfl, (⟨h1, rfl⟩ | ⟨h1, h2, rfl⟩)⟩ := hx
            · refine ⟨7, rfl, ?_⟩
              rw [hdec]; refine decB_num htx hus ?_
              exact numD_bad h13 (take_bad hw3 h1)
            · cases h2
          clear S; rintro _ a w ⟨hw3b, -⟩ S
          obtain ⟨q1, q2, q3⟩ := take_ok hw3 hw3b
          refine wl_nil ?_
          refine xtn ?_
          replace S := ((((S.front (ext Mr)).front (Wk.box b4 43 [.int .i64 0, .int .i64 0, .int .i64 0, .string ⟨#[]⟩, .slice none 0 0])).front (rdI rd (takeR r3 2))).front (tmI h rd ((left : Int) - 1))).front (Wk.box b5 43 [.int .i64 kd, .int .i64 u, .int .i64 (n2 : Int), str s, .slice none 0 0])
          refine ⟨takeR r3 2, (n2 : Int), S.uu, ⟨?_, hw3b, SubR.take r3 2⟩, S.sub _ _⟩
          rw [numD_ok h13 (by omega), q3, hn2, q2]
        · refine c_skip ?_
          refine xtn ?_
          exact ⟨r3, 0, S.uu, ⟨numD_none h13, hw3, SubR.refl r3⟩, S.sub _ _⟩
      · clear S; rintro r4 n uu a w ⟨hnu, hw4, hsub4⟩ S
        iterate 2 (refine c_seq ?_)
        refine c_region ?_
        refine sq S ?_; clear S; intro a S
        have hc4 := hsub4.cap hc3
        have hl4 := hsub4.len
        obtain ⟨hkn, hkn2⟩ := kidsN_int (kd : Int)
        refine sr S (kids_c (fieldsOf (kd : Int)) _) ?_; clear S; rintro _ a w rfl S
        rw [hkn, show (left : Int) - 1 = ((left - 1 : Nat) : Int) from by omega] at S
        refine sq S ?_; clear S; intro a S
        refine wl_nil ?_
        refine xtn ?_
        refine c_block ?_
        refine c_fore6 S (fun (k : Nat) (zs : List LTerm) (r5 : RS) (lf : Nat) (p5 : Option Addr) (c5 : Nat) uu => [(89, .int .i64 (k : Nat)), (0, uu 90), (0, uu 91), (0, uu 92), (0, uu 93), (0, uu 94), (0, uu 95), (0, uu 96), (0, uu 97), (0, uu 98), (0, uu 99), (0, uu 100)]) (fun (k : Nat) (zs : List LTerm) (r5 : RS) (lf : Nat) (p5 : Option Addr) (c5 : Nat) => [Wk.box b5 43 [.int .i64 kd, .int .i64 u, .int .i64 n, str s, .slice p5 k c5], Wk.row 43 5 p5 k c5 (encL zs), tmI h rd (lf : Nat), rdI rd r5, Wk.box b4 43 [.int .i64 0, .int .i64 0, .int .i64 0, .string ⟨#[]⟩, .slice none 0 0], ext Mr]) (fun (k : Nat) (zs : List LTerm) (r5 : RS) (lf : Nat) (p5 : Option Addr) (c5 : Nat) => [AllL zs, GlF r5.p r5.bs]) (fun (k : Nat) (zs : List LTerm) (r5 : RS) (lf : Nat) (p5 : Option Addr) (c5 : Nat) => k = zs.length ∧ k ≤ kidsN (kd : Int) ∧ lf ≤ left - 1 ∧ r5.why = 0 ∧ SubR r4 r5 ∧ kidsD (decT (m - 1)) (kidsN (kd : Int)) (left - 1) r4.bs = preD (zs.map LTerm.t) (kidsD (decT (m - 1)) (kidsN (kd : Int) - k) lf r5.bs)) (fun (k : Nat) (zs : List LTerm) (r5 : RS) (lf : Nat) (p5 : Option Addr) (c5 : Nat) => kidsN (kd : Int) - k) (0) ([]) (r4) (left - 1) (none) (0) ?_ S.uu ?_ ?_
        · exact ⟨rfl, Nat.zero_le _, Nat.le_refl _, hw4, SubR.refl r4, (preD_nil _).symm⟩
        · replace S := S.addNil 43 5
          replace S := S.add (Φ := AllL []) (fun _ _ _ hx => by cases hx)
          rw [show Wk.row 43 5 none 0 0 [] = Wk.row 43 5 none 0 0 (encL ([] : List LTerm)) from rfl] at S
          exact S.front (Wk.box b5 43 [.int .i64 kd, .int .i64 u, .int .i64 n, str s, .slice none 0 0])
        · clear S; rintro k zs r5 lf p5 c5 uu a w ⟨hkz, hk, hlf, hw5, hsub5, hkd5⟩ S
          refine c_seq ?_
          refine c_region ?_
          refine sq S ?_; clear S; intro a S
          refine wl_nil ?_
          refine xtn ?_
          refine c_seq ?_
          refine c_cond S (fun h17 => ?_) (fun h17 => ?_)
          · refine c_skip ?_
            refine xtn ?_
            refine c_seq ?_
            refine c_block ?_
            have hkl : k < kidsN (kd : Int) := by simp at h17; omega
            have hc5 := hsub5.cap hc4
            have hl5 := hsub5.len
            have hkk : kidsN (kd : Int) - k = (kidsN (kd : Int) - (k + 1)) + 1 := by omega
            refine c_drawXL 9 [(0, true), (1, true), (2, true), (3, true), (4, true), (5, false), (6, false), (7, false), (8, true), (9, false)] [Wk.box b5 43 [.int .i64 kd, .int .i64 u, .int .i64 n, str s, .slice p5 k c5]] (⟨[], [], fun ch w => Agree (rtI h rd (left : Nat) r).foot w0 w ∧ DecX m left r ch⟩) S (fun ch a w ⟨_, hd, ha, hx⟩ => by repeat (first | refine xtp ?_ | refine xbp ?_); exact ⟨hd, .inr ⟨ch, rfl, ha, hx⟩⟩) ?_; clear S; intro w S
            iterate 5 (refine dqXL S ?_; clear S; intro a S)
            rw [w64 ((61 : Int) - (m : Nat) + 1) (by omega) (by omega), show (61 : Int) - (m : Nat) + 1 = 61 - ((m - 1 : Nat) : Int) from by omega] at S
            refine dlXL ?_
            replace S := ((S.front (rdI rd r5)).front (tmI h rd (lf : Nat))).toBoth
            refine sitMP (rtI h rd (lf : Nat) r5) S (ih (m - 1) h rd lf r5 (restOf _ (rtI h rd (lf : Nat) r5)) w (by omega) (by omega) (by omega) hw5 hc5 (by omega) (S.restOk _) (S.it (rtI h rd (lf : Nat) r5)) ((S.mem.fact (GlF r5.p r5.bs)).split (rtI h rd (lf : Nat) r5))) rfl (fun ch w' hx hS => ?_) ?_
            · obtain ⟨e, rfl, he⟩ := hx
              have S := hS (bs' := _)
              refine XP.of S (by simp) rfl ⟨S.wd.agree, e, rfl, ?_⟩
              rw [hdec]
              refine decB_kids htx hus hnu ?_
              rw [hkd5, hkk]
              exact kidsD_bad _ _ _ _ _ _ he
            clear S; rintro _ a w ⟨z, lf', r6, rfl, hde, hlf', hw6, hsub6, hh6, hz⟩ hS
            have S := hS (rtI h rd (lf' : Nat) r6) [LtF z] hh6 (fun k h => .inl h) (by simp only [List.mem_cons, List.not_mem_nil, or_false]; rintro Φ rfl; exact hz)
            clear hS
            replace S := S.ofBoth
            replace S := S.add (Φ := GlF r6.p r6.bs) ((S.mem.fact (GlF r5.p r5.bs)).imp fun _ h => hsub6.gl hc5 _ h)
            have hA1 : Stable _ _ (AllL zs) := S.wd.facts (AllL zs) (by simp)
            have hA2 := S.t z
            replace S := S.add (Φ := AllL (zs ++ [z])) (fun w' hw' x hx => by
              rcases List.mem_append.1 hx with h | h
              · exact hA1 w' hw' x h
              · rw [List.mem_singleton.1 h]; exact hA2 w' hw')
            refine deXL S ?_
            refine dlXL ?_
            refine sn S ?_; clear S; intro b97 a w S
            refine deXL S ?_
            refine dlXL ?_
            refine sap S (by simp [maxLen]; omega) (by omega) ?_; clear S; rintro p7 c7 a w - S
            rw [show encL zs ++ [Value.int .i64 z.kind, .int .i64 z.user, .int .i64 z.num, str z.text, .slice z.p z.kids.length z.cap] = encL (zs ++ [z]) from by rw [encL_append]; rfl] at S
            refine deXL S ?_
            refine dqXL S ?_; clear S; intro a S
            refine dlXL ?_
            refine sw S ?_; clear S; intro a w S
            refine dzXL ?_
            refine xbn ?_
            refine xtn ?_
            refine c_region ?_
            iterate 2 (refine sq S ?_; clear S; intro a S)
            refine wl_nil ?_
            refine xtn ?_
            rw [w64 ((k : Int) + 1) (by omega) (by omega)] at S
            replace S := ((((S.front (rdI rd r6)).front (tmI h rd (lf' : Nat))).front (Wk.row 43 5 p7 (k + 1) c7 (encL (zs ++ [z])))).front (Wk.box b5 43 [.int .i64 kd, .int .i64 u, .int .i64 n, str s, .slice p7 (k + 1) c7]))
            refine ⟨k + 1, zs ++ [z], r6, lf', p7, c7, S.uu, ⟨by simp [hkz], hkl, by omega, hw6, hsub5.trans hsub6, ?_⟩, S.sub _ _, by omega⟩
            rw [hkd5, hkk, kidsD_step _ _ _ _ _ z.t lf' r6.bs hde, List.map_append]; rfl
          · refine c_exit ?_
            iterate 2 (refine xte ?_)
            refine xbe ?_
            refine xtn ?_
            refine c_seq ?_
            have hk2 : kidsN (kd : Int) = k := by simp at h17; omega
            subst hkz
            refine c_region ?_
            refine sq S ?_; clear S; intro a S
            refine sw S ?_; clear S; intro a w S
            refine wl_nil ?_
            refine xtn ?_
            refine c_ret ?_
            have hrow := S.row p5 zs.length
            have hall : Stable _ _ (AllL zs) := S.wd.facts (AllL zs) (by simp)
            have hap : ∀ ad, p5 = some ad → ¬ ((rtI h rd (lf : Nat) r5).foot ad.block ∨ Mr ad.block) := fun ad had hm => by
              rcases hm with (hm | hm) | hm
              · exact St.apart2 S (Wk.row 43 5 p5 zs.length c5 (encL zs)) (tmI h rd (lf : Nat)) ad.block ⟨ad, had, rfl⟩ hm
              · exact St.apart2 S (Wk.row 43 5 p5 zs.length c5 (encL zs)) (rdI rd r5) ad.block ⟨ad, had, rfl⟩ hm
              · exact St.apart2 S (Wk.row 43 5 p5 zs.length c5 (encL zs)) (ext Mr) ad.block ⟨ad, had, rfl⟩ hm
            have hkids : Stable (fun k => (rtI h rd (lf : Nat) r5).foot k ∨ Mr k) _ (AllL zs) := hall.less fun k _ hm => by
              rcases hm with (hm | hm) | hm
              · exact ⟨tmI h rd (lf : Nat), by simp, hm⟩
              · exact ⟨rdI rd r5, by simp, hm⟩
              · exact ⟨ext Mr, by simp, hm⟩
            have hls := ls_of_own hrow (fun x hx => AllL.get hkids hx) hap
            replace S := ((S.front (rdI rd r5)).front (tmI h rd (lf : Nat))).toBoth
            have hh := S.it (rtI h rd (lf : Nat) r5)
            refine endP (end1 S (fun _ => ?_))
            refine ⟨.mk kd u n s p5 c5 zs, lf, r5, rfl, ?_, by omega, hw5, ((((hsub1.trans hsub2).trans hsub3).trans hsub4).trans hsub5), hh, fun w' hw' => ?_⟩
            · rw [hdec, LTerm.t_eq]
              refine decB_ok htx hus hnu ?_
              rw [hkd5, hk2, Nat.sub_self, kidsD, preD, List.append_nil]; rfl
            · exact LtIn.iff.2 ⟨own_le hrow, own_capT hrow, hls w' hw'⟩
end Go.Proofs.YtdakncgafdnjfaaGreat
namespace Go.Proofs.YtdakncgafdnjfaaGreat
open Go Go.Wk
set_option synthInstance.maxSize 100000
set_option synthInstance.maxHeartbeats 400000
set_option maxRecDepth 100000
theorem textD_err {k e : Int} {bs : List UInt8} (h : textD k bs = .error e) : e ≠ 0 := by
  unfold textD at h
  split at h
  · split at h
    · cases h; decide
    · split at h
      · cases h; decide
      · split at h
        · cases h; decide
        · cases h
  · cases h
theorem userD_err {k e : Int} {bs : List UInt8} (h : userD k bs = .error e) : e ≠ 0 := by
  unfold userD at h
  split at h
  · split at h
    · cases h; decide
    · split at h
      · cases h
      · cases h; decide
  · cases h
theorem numD_err {k e : Int} {bs : List UInt8} (h : numD k bs = .error e) : e ≠ 0 := by
  unfold numD at h
  split at h
  · split at h
    · cases h; decide
    · cases h
  · cases h
theorem kidsD_err {f : Nat → List UInt8 → DecE (Term × Nat × List UInt8)} (hf : ∀ l b e, f l b = .error e → e ≠ 0) : ∀ (k l : Nat) (b : List UInt8) (e : Int), kidsD f k l b = .error e → e ≠ 0
  | 0, l, b, e, h => by rw [kidsD] at h; cases h
  | k + 1, l, b, e, h => by
    rw [kidsD] at h
    split at h
    · rename_i e' he
      cases h; exact hf _ _ _ he
    · split at h
      · rename_i e' he
        cases h; exact kidsD_err hf _ _ _ _ he
      · cases h
theorem decT_err : ∀ (m left : Nat) (bs : List UInt8) (e : Int), decT m left bs = .error e → e ≠ 0 := by
  intro m
  induction m with
  | zero =>
    intro left bs e h
    cases bs with
    | nil => rw [decT_nil] at h; cases h; decide
    | cons c t => rw [decT_cons, if_pos (.inl rfl)] at h; cases h; decide
  | succ m ih =>
    intro left bs e h
    cases bs with
    | nil => rw [decT_nil] at h; cases h; decide
    | cons c t =>
      rw [decT_cons] at h
      split at h
      · cases h; decide
      · rw [show m + 1 - 1 = m from rfl, decB] at h
        split at h
        · rename_i h1; cases h; exact textD_err h1
        · split at h
          · rename_i h1; cases h; exact userD_err h1
          · split at h
            · rename_i h1; cases h; exact numD_err h1
            · split at h
              · rename_i h1; cases h; exact kidsD_err ih _ _ _ _ h1
              · cases h
theorem tcatch_ret (p2 p3 p4 : Value) (w : World) : CallsDIn (FW none) 0 Tryz.prog 168 #[p2, p3, p4] .returning w fun e u' w' => (∃ v, e = .returned v) ∧ u' = .returning ∧ Agree (fun _ => False) w w' := by
  refine callsD_catch Tryz.func168 rfl (l := [p2, p3, p4, undef, undef, undef, undef, undef, undef, undef, undef, undef, undef, undef, undef, undef, undef, undef, undef, undef]) (args := [p2, p3, p4]) rfl (Wd.start w) (.inl rfl) ?_
  rintro x u' (⟨-, rfl, rfl⟩ | ⟨pv, h, -⟩) a S
  · refine c_seq ?_
    refine c_region ?_
    iterate 2 (refine sq S ?_; clear S; intro a S)
    refine wl_nil ?_
    refine xtn ?_
    refine c_condF S ?_
    refine c_skip ?_
    exact ⟨.inl rfl, S.defers, .tuple #[], resC S, ⟨_, rfl⟩, rfl, S.wd.agree⟩
  · cases h
theorem tcatch_pan (g2 g3 g4 : Nat) (x0 x1 x2 x3 x4 y z : Value) (e0 : Int) (w0 w : World) (M0 : Nat → Prop) (hw : Wd w0 M0 w [Wk.box g4 26 [z], Wk.box g3 3 [y], Wk.box g2 43 [x0, x1, x2, x3, x4]] []) :
    CallsDIn (FW none) 0 Tryz.prog 168 #[.pointer (some ⟨g2, 0, none⟩), .pointer (some ⟨g3, 0, none⟩), .pointer (some ⟨g4, 0, none⟩)] (.panicking (pch (wrongE e0))) w fun e u' w' => (∃ v, e = .returned v) ∧ u' = .panicking [{ v := wrongE e0, recovered := true }] ∧
      Wd w0 M0 w' [Wk.box g4 26 [.int .i64 e0], Wk.box g3 3 [.int .i64 0], Wk.box g2 43 [.int .i64 0, .int .i64 0, .int .i64 0, .string ⟨#[]⟩, .slice none 0 0]] [] := by
  refine callsD_catch Tryz.func168 rfl (l := [.pointer (some ⟨g2, 0, none⟩), .pointer (some ⟨g3, 0, none⟩), .pointer (some ⟨g4, 0, none⟩), undef, undef, undef, undef, undef, undef, undef, undef, undef, undef, undef, undef, undef, undef, undef, undef, undef]) (args := [.pointer (some ⟨g2, 0, none⟩), .pointer (some ⟨g3, 0, none⟩), .pointer (some ⟨g4, 0, none⟩)]) rfl hw (.inr ⟨_, rfl⟩) ?_
  rintro x u' (⟨h, -⟩ | ⟨pv, h, rfl, rfl⟩) a S
  · cases h
  · obtain rfl : x = wrongE e0 := by injection h with h; injection h with h _; injection h with h; exact h.symm
    refine c_seq ?_
    refine c_region ?_
    iterate 2 (refine sq S ?_; clear S; intro a S)
    refine wl_nil ?_
    refine xtn ?_
    refine c_condT S ?_
    refine c_seq ?_
    refine c_region ?_
    iterate 5 (refine sq S ?_; clear S; intro a S)
    refine sa S ?_; clear S; intro b4 a w S
    refine sw S ?_; clear S; intro a w S
    refine sq S ?_; clear S; intro a S
    refine wl_nil ?_
    refine xtn ?_
    iterate 2 (refine c_seq ?_)
    refine c_region ?_
    iterate 2 (refine sq S ?_; clear S; intro a S)
    rw [show (!true) = false from rfl] at S
    refine wl_nil ?_
    refine xtn ?_
    refine c_condF S ?_
    refine c_skip ?_
    refine xtn ?_
    refine c_drawD [(0, true), (1, true), (2, true), (3, false), (4, false), (5, false)] [g2, g3, g4] S ?_; clear S; intro w S
    iterate 3 (refine dq S ?_; clear S; intro a S)
    refine dl ?_
    refine sw S ?_; clear S; intro a w S
    refine de S ?_
    refine dl ?_
    refine sw S ?_; clear S; intro a w S
    refine de S ?_
    refine dl ?_
    refine sw S ?_; clear S; intro a w S
    refine de S ?_
    refine dn ?_
    refine ⟨.inl rfl, S.defers, .tuple #[], resC S, ⟨_, rfl⟩, rfl, ?_⟩
    exact (S.sub _ _).wd
end Go.Proofs.YtdakncgafdnjfaaGreat
namespace Go.Proofs.YtdakncgafdnjfaaGreat
open Go Go.Wk
set_option synthInstance.maxSize 100000
set_option synthInstance.maxHeartbeats 400000
set_option maxRecDepth 100000
theorem leftG_c (b n c : Nat) (p : Option Addr) (why : Int) (w0 : World) (hb : Stable (fun _ => False) w0 (BoxF b 238 [.slice p n c, .int .i64 why])) : Ret Tryz.prog 72 [.pointer (some ⟨b, 0, none⟩)] w0 (fun _ => False) fun v _ => v = .int .i64 (n : Nat) := by
  refine enter Tryz.func72 rfl rfl (Wd.begin (fs := [BoxF b 238 [.slice p n c, .int .i64 why]]) (by simpa using hb)) (fun a S => ?_)
  simp only [Tryz.ntmps72, List.length_cons, List.length_nil, Nat.reduceAdd, Nat.reduceSub, List.replicate_succ, List.replicate_zero, List.cons_append, List.nil_append] at S
  refine c_seq ?_
  refine c_region ?_
  refine sq S ?_; clear S; intro a S
  refine wl_nil ?_
  refine xtn ?_
  iterate 2 (refine c_seq ?_)
  refine c_region ?_
  iterate 2 (refine sq S ?_; clear S; intro a S)
  refine wl_nil ?_
  refine xtn ?_
  refine c_condF S ?_
  refine c_skip ?_
  refine xtn ?_
  refine c_seq ?_
  refine c_region ?_
  iterate 7 (refine sq S ?_; clear S; intro a S)
  refine wl_nil ?_
  refine xtn ?_
  refine c_ret ?_
  exact end1 S (fun _ => rfl)
instance {b n c : Nat} {p : Option Addr} {why : Int} {bs fs} [hb : HasBox bs b 238 [.slice p n c, .int .i64 why]] : CallV Tryz.prog 72 [.pointer (some ⟨b, 0, none⟩)] bs fs (.int .i64 (n : Nat)) := ⟨fun w m => leftG_c b n c p why w (BoxF.stable m.box (fun h => h))⟩
abbrev ptrT (b : Nat) : Value := .pointer (some ⟨b, 0, none⟩)
abbrev defT (b2 b3 b4 : Nat) : Deferred := { target := .fn (.func 168) ⟨[ptrT b2, ptrT b3, ptrT b4]⟩, args := #[] }
abbrev zTm : List Value := [.int .i64 0, .int .i64 0, .int .i64 0, .string ⟨#[]⟩, .slice none 0 0]
theorem tdec_pan {a : Act} {w0 w : World} {M0 : Nat → Prop} {Rr : Ending → World → Prop} (b2 b3 b4 : Nat) (x0 x1 x2 x3 x4 y z : Value) (e0 : Int) (hd : a.defers = [defT b2 b3 b4]) (h2 : a.tmps[2]? = some (ptrT b2)) (h3 : a.tmps[3]? = some (ptrT b3)) (h4 : a.tmps[4]? = some (ptrT b4))
    (hw : Wd w0 M0 w [Wk.box b4 26 [z], Wk.box b3 3 [y], Wk.box b2 43 [x0, x1, x2, x3, x4]] [])
    (hR : ∀ w', Agree M0 w0 w' → Rr (.returned (.tuple ⟨[vL zeroL, .int .i64 0, .int .i64 e0]⟩)) w') : bodyPostDIn (FW none) 0 Tryz.prog Tryz.f70 Rr (.panic (pch (wrongE e0))) a w := by
  refine leavePan (ca := [ptrT b2, ptrT b3, ptrT b4]) hd (tcatch_pan b2 b3 b4 x0 x1 x2 x3 x4 y z e0 w0 w M0 hw) fun w' hK => ⟨_, ?_, hR w' hK.agree⟩
  have n2 : Nth a.tmps.toList 2 (ptrT b2) := ⟨by simpa using h2⟩
  have n3 : Nth a.tmps.toList 3 (ptrT b3) := ⟨by simpa using h3⟩
  have n4 : Nth a.tmps.toList 4 (ptrT b4) := ⟨by simpa using h4⟩
  exact res3 (l := a.tmps.toList) rfl hK.held
def TDecR (M : Nat → Prop) (bs : List UInt8) (v : Value) (w : World) : Prop := ∃ (z : LTerm) (n e : Int), v = .tuple ⟨[vL z, .int .i64 n, .int .i64 e]⟩ ∧ Stable M w (LtF z) ∧
  ((∃ left rest, decT 60 1200 bs = .ok (z.t, left, rest) ∧ n = (bs.length : Int) - rest.length ∧ e = 0) ∨ (decT 60 1200 bs = .error e ∧ z = zeroL ∧ e ≠ 0))
theorem tdec_c (bs : List UInt8) (p : Option Addr) (n c : Nat) (M : Nat → Prop) (w0 : World) (hn : bs.length = n) (hl : n ≤ 10000000) (hM : ∀ k, M k → k < w0.heap.size) (hf : Stable M w0 (GlF p bs)) :
    Ret Tryz.prog 70 [.slice p n c] w0 (fun _ => False) fun v w' => TDecR M bs v w' := by
  subst hn
  refine enterD Tryz.func70 rfl rfl (Wd.beginM (M := M) (fs := [GlF p bs]) hM (by simpa using hf)) (fun a S => ?_)
  simp only [Tryz.ntmps70, List.length_cons, List.length_nil, Nat.reduceAdd, Nat.reduceSub, List.replicate_succ, List.replicate_zero, List.cons_append, List.nil_append] at S
  refine c_seq ?_
  refine c_region ?_
  refine sa S ?_; clear S; intro b2 a w S
  refine sa S ?_; clear S; intro b3 a w S
  refine sa S ?_; clear S; intro b4 a w S
  refine wl_nil ?_
  refine xtn ?_
  refine c_seq ?_
  refine c_region ?_
  refine sq S ?_; clear S; intro a S
  refine snew S (readR_c bs p bs.length c _ rfl hl (S.gl0 p)) ?_; clear S; rintro _ a w - ⟨rd, p1, c1, rfl, hh, hnw⟩ hS -
  have S := hS (both (rdI rd ⟨p1, c1, bs, 0⟩) (Wk.row 5 1 p1 bs.length c1 (encL bs))) hh hnw
  clear hS
  replace S := S.ofBoth
  have hc1 := own_le (S.row p1 bs.length)
  replace S := (S.front (Wk.row 5 1 p1 bs.length c1 (encL bs))).rowToGl p1 bs (e := 5) (sz := 1) (n := bs.length) (c := c1) (fun _ _ _ _ => trivial)
  refine sq S ?_; clear S; intro a S
  refine sa S ?_; clear S; intro b9 a w S
  refine sq S ?_; clear S; intro a S
  refine wl_nil ?_
  refine xtn ?_
  refine c_seq ?_
  refine c_region ?_
  refine sq S ?_; clear S; intro a S
  refine sdef S ?_; clear S; intro a S
  refine wl_nil ?_
  refine xtn ?_
  refine c_seq ?_
  refine c_region ?_
  refine sq S ?_; clear S; intro a S
  replace S := ((S.front (rdI rd ⟨p1, c1, bs, 0⟩)).front (tmI b9 rd 1200)).toBoth
  refine sitMP (rtI b9 rd ((1200 : Nat) : Int) ⟨p1, c1, bs, 0⟩) S (rterm_c0 61 60 b9 rd 1200 ⟨p1, c1, bs, 0⟩ (restOf _ (rtI b9 rd ((1200 : Nat) : Int) ⟨p1, c1, bs, 0⟩)) w (by decide) (by decide) (by decide) rfl hc1 hl (S.restOk _) (S.it (rtI b9 rd ((1200 : Nat) : Int) ⟨p1, c1, bs, 0⟩)) ((S.mem.fact (GlF p1 bs)).split (rtI b9 rd ((1200 : Nat) : Int) ⟨p1, c1, bs, 0⟩))) rfl (fun ch w' hx hS => ?_) ?_
  · obtain ⟨e, rfl, he⟩ := hx
    have S := hS (bs' := _)
    refine tdec_pan b2 b3 b4 _ _ _ _ _ _ _ e S.defers (by rw [S.slots]; rfl) (by rw [S.slots]; rfl) (by rw [S.slots]; rfl) (S.sub [Wk.box b4 26 [.int .i64 0], Wk.box b3 3 [.int .i64 0], Wk.box b2 43 zTm] []).wd (fun w' ha => ⟨_, rfl, ha, zeroL, 0, e, rfl, fun _ _ => zeroL_in _, .inr ⟨he, rfl, decT_err _ _ _ _ he⟩⟩)
  clear S; rintro _ a w ⟨z, lf, r6, rfl, hde, -, hw6, hsub6, hh6, hz⟩ hS
  have S := hS (rtI b9 rd (lf : Nat) r6) [LtF z] hh6 (fun k h => .inl h) (by simp only [List.mem_cons, List.not_mem_nil, or_false]; rintro Φ rfl; exact hz)
  clear hS
  replace S := S.ofBoth
  refine sw S ?_; clear S; intro a w S
  refine wl_nil ?_
  refine xtn ?_
  refine c_seq ?_
  refine' c_drawT0 (.q 1 (.q 2 (.q 3 (.q 4 (.q 5 (.q 6 (.b2 0 7 (.l 7 (.q 8 (.l 9 (.l 10 (.l 11 (.e)))))) (.q 8 (.l 0 (.l 9 (.l 10 (.l 11 (.e))))))))))))) [b2, b3, b4] S ?_ ?_
  rotate_left 3
  · intro w S
    iterate 6 (refine tq S ?_; clear S; intro a S)
    refine tb2 ?_ ?_
    · refine sq S ?_; clear S; intro a S
      refine te S ?_
      refine tl ?_
      refine sc S ?_; clear S; intro a w S
      refine te S ?_
      refine tq S ?_; clear S; intro a S
      rw [w64 ((bs.length : Int) - (r6.bs.length : Int)) (by have := hsub6.len; have : r6.bs.length ≤ bs.length := this; omega) (by omega)] at S
      refine tl ?_
      refine sw S ?_; clear S; intro a w S
      refine te S ?_
      refine tl ?_
      refine sw S ?_; clear S; intro a w S
      refine te S ?_
      refine tl ?_
      refine sw S ?_; clear S; intro a w S
      refine te S ?_
      refine tn ?_
      exact S
    · refine sc S ?_; clear S; intro a w S
      refine te S ?_
      refine tq S ?_; clear S; intro a S
      rw [w64 ((bs.length : Int) - (r6.bs.length : Int)) (by have := hsub6.len; have : r6.bs.length ≤ bs.length := this; omega) (by omega)] at S
      refine tl ?_
      refine sq S ?_; clear S; intro a S
      refine te S ?_
      refine tl ?_
      refine sw S ?_; clear S; intro a w S
      refine te S ?_
      refine tl ?_
      refine sw S ?_; clear S; intro a w S
      refine te S ?_
      refine tl ?_
      refine sw S ?_; clear S; intro a w S
      refine te S ?_
      refine tn ?_
      exact S
  intro  a w S
  refine xtn ?_
  refine c_ret ?_
  have hlat := S.laterT (M := M) z
  refine leaveRet S.defers (tcatch_ret _ _ _ w) (fun w' hw' => ⟨_, res3 S.slots (S.wd.step hw').held, _, rfl, (S.wd.step hw').agree, z, (bs.length : Int) - (r6.bs.length : Int), 0, rfl, ?_, .inl ⟨lf, r6.bs, hde, rfl, rfl⟩⟩)
  exact hlat.later (hw'.mono fun _ _ h => h.elim)
end Go.Proofs.YtdakncgafdnjfaaGreat
namespace Go.Proofs.YtdakncgafdnjfaaGreat
open Go Go.Wk
set_option synthInstance.maxSize 100000
set_option synthInstance.maxHeartbeats 400000
set_option maxRecDepth 100000
def preR (l : List PRow) (g : Bool) (X : List PRow × Bool × RB) : List PRow × Bool × RB := (l ++ X.1, g && X.2.1, X.2.2)
theorem preR_nil (X : List PRow × Bool × RB) : preR [] true X = X := by obtain ⟨a, b, c⟩ := X; simp [preR]
theorem rowsD_step (l : List PRow) (g : Bool) (j : Nat) (x : RB) : preR l g (rowsD (j + 1) x) = preR (l ++ [(rowD x).1]) (g && (rowD x).2.1) (rowsD j (rowD x).2.2) := by
  rw [rowsD, preR, preR]; simp [Bool.and_assoc]
theorem rowD_tk {r ra rb rc rd : RS} {nm raw : List UInt8} {a c : Nat} (ha : ra = takeR r 1) (ea : a = numN (tookR r 1) 0) (hb : rb = takeR ra a) (eb : nm = tookR ra a) (hc : rc = takeR rb 2) (ec : c = numN (tookR rb 2) 0) (hd : rd = takeR rc c) (ed : raw = tookR rc c) :
    rowD r.ab = (⟨nm, (termD raw).1⟩, (termD raw).2, rd.ab) := by
  have h1 := tk_ab r 1
  have h2 := tk_ab ra a
  have h3 := tk_ab rb 2
  have h4 := tk_ab rc c
  rw [← ha] at h1; rw [← hb, ← eb] at h2; rw [← hc] at h3; rw [← hd, ← ed] at h4
  rw [rowD, ← h1.1, ← h1.2, ← ea, ← h2.1, ← h2.2, ← h3.1, ← h3.2, ← ec, ← h4.1, ← h4.2]
theorem rsP_lenK (xs : List LRow) : (rsP xs).length = xs.length := List.length_map _
class NamesOk (xs : List LRow) : Prop where
  all : ∀ x ∈ xs, x.name.length ≤ 9223372036854775807
instance {xs : List LRow} {p : Option Addr} {n c : Nat} {bs fs} [hg : HasG fs p LRow layRow xs] [hn : LenN xs n] [hk : LeC n c] [hl : LeC n 9223372036854775807] [ho : NamesOk xs] : CallV Tryz.prog 63 [.slice p n c] bs fs (.bool (batchP (rsP xs))) := ⟨fun w m => batch_c xs p n c w hn.eq hk.le ho.all hl.le ((hg.of _ _ m.facts).less fun _ _ h => h.elim)⟩
def VDecR (M : Nat → Prop) (bs : List UInt8) (v : Value) (w : World) : Prop := ∃ (xs : List LRow) (p : Option Addr) (c : Nat) (e : Int), v = .tuple ⟨[.slice p xs.length c, .int .i64 e]⟩ ∧ rsP xs = (decV bs).1 ∧ e = (decV bs).2 ∧ Stable M w (GlF p xs) ∧ xs.length ≤ c ∧ ∀ x ∈ xs, x.name.length ≤ 255
theorem vdec_c (bs : List UInt8) (p : Option Addr) (n c : Nat) (M : Nat → Prop) (w0 : World) (hn : bs.length = n) (hl : n ≤ 10000000) (hM : ∀ k, M k → k < w0.heap.size) (hf : Stable M w0 (GlF p bs)) :
    Ret Tryz.prog 15 [.slice p n c] w0 (fun _ => False) fun v w' => VDecR M bs v w' := by
  subst hn
  refine enter Tryz.func15 rfl rfl (Wd.beginM (M := M) (fs := [GlF p bs]) hM (by simpa using hf)) (fun a S => ?_)
  simp only [Tryz.ntmps15, List.length_cons, List.length_nil, Nat.reduceAdd, Nat.reduceSub, List.replicate_succ, List.replicate_zero, List.cons_append, List.nil_append] at S
  refine c_seq ?_
  refine c_region ?_
  iterate 2 (refine sq S ?_; clear S; intro a S)
  refine wl_nil ?_
  refine xtn ?_
  refine c_seq ?_
  refine c_region ?_
  refine sq S ?_; clear S; intro a S
  refine snew S (readR_c bs p bs.length c _ rfl hl (S.gl0 p)) ?_; clear S; rintro _ a w - ⟨rd, p1, c1, rfl, hh, hnw⟩ hS -
  have S := hS (both (rdI rd ⟨p1, c1, bs, 0⟩) (Wk.row 5 1 p1 bs.length c1 (encL bs))) hh hnw
  clear hS
  replace S := S.ofBoth
  have hc1 := own_le (S.row p1 bs.length)
  replace S := (S.front (Wk.row 5 1 p1 bs.length c1 (encL bs))).rowToGl p1 bs (e := 5) (sz := 1) (n := bs.length) (c := c1) (fun _ _ _ _ => trivial)
  obtain ⟨r0, hr0⟩ : ∃ r0 : RS, r0 = ⟨p1, c1, bs, 0⟩ := ⟨_, rfl⟩
  rw [← hr0, show GlF p1 bs = GlF r0.p r0.bs from by rw [hr0]] at S
  have hc0 : r0.bs.length ≤ r0.c := by rw [hr0]; exact hc1
  have hl0 : r0.bs.length ≤ 10000000 := by rw [hr0]; exact hl
  have hab : r0.ab = (bs, false) := by rw [hr0]; rfl
  refine sq S ?_; clear S; intro a S
  refine wl_nil ?_
  refine xtn ?_
  refine c_seq ?_
  refine c_region ?_
  refine sq S ?_; clear S; intro a S
  refine wl_nil ?_
  refine xtn ?_
  refine c_seq ?_
  refine c_region ?_
  refine sq S ?_; clear S; intro a S
  refine wl_nil ?_
  refine xtn ?_
  iterate 2 (refine c_seq ?_)
  refine c_region ?_
  refine sq S ?_; clear S; intro a S
  refine sit (rdI rd r0) S (u8R_c rd r0 _ hc0 hl0 (S.it (rdI rd r0)) (S.lend (rdI rd r0) (S.mem.fact (GlF r0.p r0.bs)))) rfl ?_; clear S; rintro _ a w ⟨rfl, hh⟩ hS
  have S := hS (rdI rd (takeR r0 1)) hh (fun k h => .inl h)
  clear hS
  obtain ⟨N, hN⟩ : ∃ N, N = numN (tookR r0 1) 0 := ⟨_, rfl⟩
  rw [← hN] at S
  have hNl : N < 256 := by rw [hN]; exact (took_num r0 1 (by decide)).2
  replace S := S.add (Φ := GlF (takeR r0 1).p (takeR r0 1).bs) (takeR_gl hc0 (S.mem.fact (GlF r0.p r0.bs)))
  have hall : allD bs = rowsD N (takeR r0 1).ab := by
    have h1 := tk_ab r0 1
    rw [hab] at h1
    rw [allD, ← h1.1, ← h1.2, hN]
  have hc2 := takeR_cap (k := 1) hc0
  have hl2 := takeR_len r0 1
  refine sq S ?_; clear S; intro a S
  rw [w64 (N : Int) (by omega) (by omega)] at S
  refine sq S ?_; clear S; intro a S
  refine wl_nil ?_
  refine xtn ?_
  refine c_block ?_
  refine c_fore6 S (fun (k : Nat) (xs : List LRow) (r : RS) (good : Bool) (p' : Option Addr) (c' : Nat) uu => [(5, .slice p' k c'), (0, .bool good), (0, uu 7), (0, uu 8), (0, uu 9), (0, uu 10), (0, uu 11), (0, uu 12), (5, .int .i64 (k : Nat)), (0, uu 19), (0, uu 20), (0, uu 21), (0, uu 22), (0, uu 23), (0, uu 24), (0, uu 25), (0, uu 26), (0, uu 27), (0, uu 28), (0, uu 29), (0, uu 30), (0, uu 31), (0, uu 32), (0, uu 33), (0, uu 34), (0, uu 35), (0, uu 36), (0, uu 37), (0, uu 38), (0, uu 39), (0, uu 40), (0, uu 41), (0, uu 42), (0, uu 43), (0, uu 44), (0, uu 45), (0, uu 46), (0, uu 47), (0, uu 48), (0, uu 49), (0, uu 50), (0, uu 51), (0, uu 52), (0, uu 53), (0, uu 54), (0, uu 55), (0, uu 56), (0, uu 57), (0, uu 58), (0, uu 59)]) (fun (k : Nat) (xs : List LRow) (r : RS) (good : Bool) (p' : Option Addr) (c' : Nat) => [Wk.row 45 6 p' k c' (encL xs), rdI rd r, ext M]) (fun (k : Nat) (xs : List LRow) (r : RS) (good : Bool) (p' : Option Addr) (c' : Nat) => [AllI xs, GlF r.p r.bs]) (fun (k : Nat) (xs : List LRow) (r : RS) (good : Bool) (p' : Option Addr) (c' : Nat) => k = xs.length ∧ k ≤ N ∧ SubR (takeR r0 1) r ∧ allD bs = preR (rsP xs) good (rowsD (N - k) r.ab) ∧ ∀ x ∈ xs, x.name.length ≤ 255) (fun (k : Nat) (xs : List LRow) (r : RS) (good : Bool) (p' : Option Addr) (c' : Nat) => N - k) (0) ([]) (takeR r0 1) (true) (none) (0) ?_ S.uu ?_ ?_
  · exact ⟨rfl, Nat.zero_le _, SubR.refl _, by rw [hall]; exact (preR_nil _).symm, nofun⟩
  · replace S := S.addNil 45 6
    replace S := S.add (Φ := AllI ([] : List LRow)) (fun _ _ _ hx => by cases hx)
    rw [show Wk.row 45 6 none 0 0 [] = Wk.row 45 6 none 0 0 (encL ([] : List LRow)) from rfl] at S
    exact S.sub _ _
  · clear S; rintro k xs r good p' c' uu a w ⟨hkx, hk, hsub, hrel, hnm⟩ S
    refine c_seq ?_
    refine c_region ?_
    refine sq S ?_; clear S; intro a S
    refine wl_nil ?_
    refine xtn ?_
    refine c_seq ?_
    refine c_cond S (fun h5 => ?_) (fun h5 => ?_)
    · refine c_skip ?_
      refine xtn ?_
      refine c_seq ?_
      refine c_block ?_
      refine c_seq ?_
      have hkl : k < N := by simp at h5; omega
      have hcr := hsub.cap hc2
      have hlr := hsub.len
      have hNk : N - k = (N - (k + 1)) + 1 := by omega
      refine c_region ?_
      iterate 2 (refine sq S ?_; clear S; intro a S)
      refine sit (rdI rd r) S (u8R_c rd r _ hcr (by omega) (S.it (rdI rd r)) (S.lend (rdI rd r) (S.mem.fact (GlF r.p r.bs)))) rfl ?_; clear S; rintro _ a w ⟨rfl, hh⟩ hS
      have S := hS (rdI rd (takeR r 1)) hh (fun k h => .inl h)
      clear hS
      obtain ⟨na, hna⟩ : ∃ na, na = numN (tookR r 1) 0 := ⟨_, rfl⟩
      rw [← hna] at S
      have hnal : na < 256 := by rw [hna]; exact (took_num r 1 (by decide)).2
      replace S := S.add (Φ := GlF (takeR r 1).p (takeR r 1).bs) (takeR_gl hcr (S.mem.fact (GlF r.p r.bs)))
      obtain ⟨ra, hra⟩ : ∃ ra, ra = takeR r 1 := ⟨_, rfl⟩
      have hsa : SubR r ra := hra ▸ SubR.take r 1
      rw [← hra] at S
      have hca := hsa.cap hcr
      have hla := hsa.len
      refine sq S ?_; clear S; intro a S
      rw [w64 (na : Int) (by omega) (by omega)] at S
      refine sit (rdI rd ra) S (rawR_c rd ra na _ (by omega) hca (by omega) (S.it (rdI rd ra)) (S.lend (rdI rd ra) (S.mem.fact (GlF ra.p ra.bs)))) rfl ?_; clear S; rintro _ a w ⟨p6, c6, rfl, hh, hf6⟩ hS
      have S := hS (both (Wk.row 5 1 p6 (tookR ra na).length c6 (encL (tookR ra na))) (rdI rd (takeR ra na))) hh hf6
      clear hS
      replace S := S.front (both (Wk.row 5 1 p6 (tookR ra na).length c6 (encL (tookR ra na))) (rdI rd (takeR ra na)))
      replace S := S.ofBoth
      replace S := S.add (Φ := GlF (takeR ra na).p (takeR ra na).bs) (takeR_gl hca (S.mem.fact (GlF ra.p ra.bs)))
      obtain ⟨rb, hrb⟩ : ∃ rb, rb = takeR ra na := ⟨_, rfl⟩
      have hsb : SubR ra rb := hrb ▸ SubR.take ra na
      rw [← hrb] at S
      have hcb := hsb.cap hca
      have hlb := hsb.len
      obtain ⟨nm, hnmm⟩ : ∃ nm, nm = tookR ra na := ⟨_, rfl⟩
      have hnml : nm.length ≤ 255 := by have := (tookR_len ra na).1; rw [← hnmm] at this; omega
      rw [← hnmm] at S
      iterate 2 (refine sq S ?_; clear S; intro a S)
      refine wl_nil ?_
      refine xtn ?_
      refine c_seq ?_
      refine c_region ?_
      iterate 2 (refine sq S ?_; clear S; intro a S)
      refine sit (rdI rd rb) S (u16R_c rd rb _ hcb (by omega) (S.it (rdI rd rb)) (S.lend (rdI rd rb) (S.mem.fact (GlF rb.p rb.bs)))) rfl ?_; clear S; rintro _ a w ⟨rfl, hh⟩ hS
      have S := hS (rdI rd (takeR rb 2)) hh (fun k h => .inl h)
      clear hS
      obtain ⟨nc, hnc⟩ : ∃ nc, nc = numN (tookR rb 2) 0 := ⟨_, rfl⟩
      rw [← hnc] at S
      have hncl : nc < 65536 := by rw [hnc]; exact (took_num rb 2 (by decide)).2
      replace S := S.add (Φ := GlF (takeR rb 2).p (takeR rb 2).bs) (takeR_gl hcb (S.mem.fact (GlF rb.p rb.bs)))
      obtain ⟨rc, hrc⟩ : ∃ rc, rc = takeR rb 2 := ⟨_, rfl⟩
      have hsc : SubR rb rc := hrc ▸ SubR.take rb 2
      rw [← hrc] at S
      have hcc := hsc.cap hcb
      have hlc := hsc.len
      refine sq S ?_; clear S; intro a S
      rw [w64 (nc : Int) (by omega) (by omega)] at S
      refine sit (rdI rd rc) S (rawR_c rd rc nc _ (by omega) hcc (by omega) (S.it (rdI rd rc)) (S.lend (rdI rd rc) (S.mem.fact (GlF rc.p rc.bs)))) rfl ?_; clear S; rintro _ a w ⟨p7, c7, rfl, hh, hf7⟩ hS
      have S := hS (both (Wk.row 5 1 p7 (tookR rc nc).length c7 (encL (tookR rc nc))) (rdI rd (takeR rc nc))) hh hf7
      clear hS
      replace S := S.front (both (Wk.row 5 1 p7 (tookR rc nc).length c7 (encL (tookR rc nc))) (rdI rd (takeR rc nc)))
      replace S := S.ofBoth
      replace S := S.add (Φ := GlF (takeR rc nc).p (takeR rc nc).bs) (takeR_gl hcc (S.mem.fact (GlF rc.p rc.bs)))
      obtain ⟨re, hre⟩ : ∃ re, re = takeR rc nc := ⟨_, rfl⟩
      have hse : SubR rc re := hre ▸ SubR.take rc nc
      rw [← hre] at S
      obtain ⟨raw, hraw⟩ : ∃ raw, raw = tookR rc nc := ⟨_, rfl⟩
      have hrawl : raw.length ≤ 65535 := by have := (tookR_len rc nc).1; rw [← hraw] at this; omega
      rw [← hraw] at S
      replace S := (S.front (Wk.row 5 1 p7 raw.length c7 (encL raw))).rowToGl p7 raw (e := 5) (sz := 1) (n := raw.length) (c := c7) (fun _ _ _ _ => trivial)
      have hrow := rowD_tk hra hna hrb hnmm hrc hnc hre hraw
      refine sq S ?_; clear S; intro a S
      refine wl_nil ?_
      refine xtn ?_
      refine c_seq ?_
      refine c_region ?_
      iterate 2 (refine sq S ?_; clear S; intro a S)
      refine sa S ?_; clear S; intro b9 a w S
      refine sw S ?_; clear S; intro a w S
      refine wl_nil ?_
      refine xtn ?_
      refine c_mrge2 S (fun (z : LTerm) (g : Bool) uu => [(6, .bool g), (3, uu 10), (0, uu 11), (0, uu 12), (20, uu 33), (0, uu 34), (0, uu 35), (0, uu 36), (0, uu 37), (0, uu 38), (0, uu 39), (0, uu 40), (0, uu 41), (0, uu 42), (0, uu 43), (0, uu 44), (0, uu 45), (0, uu 46), (0, uu 47), (0, uu 48), (0, uu 49), (0, uu 50), (0, uu 51), (0, uu 52), (0, uu 53), (0, uu 54)]) (fun (z : LTerm) (g : Bool) => [Wk.box b9 45 [str nm, .int .i64 z.kind, .int .i64 z.user, .int .i64 z.num, str z.text, .slice z.p z.kids.length z.cap], Wk.row 45 6 p' k c' (encL xs), rdI rd re, ext M]) (fun (z : LTerm) (g : Bool) => [LtF z, GlF re.p re.bs, AllI xs]) (fun (z : LTerm) (g : Bool) => z.t = (termD raw).1 ∧ g = (good && (termD raw).2)) ?_ ?_
      · refine c_seq ?_
        refine c_region ?_
        iterate 3 (refine sq S ?_; clear S; intro a S)
        refine wl_nil ?_
        refine xtn ?_
        refine c_cond S (fun h9 => ?_) (fun h9 => ?_)
        · refine c_seq ?_
          refine c_region ?_
          refine sq S ?_; clear S; intro a S
          refine sr S (tdec_c raw p7 raw.length c7 _ w rfl (by omega) (foots_lt S) (S.mem.fact (GlF p7 raw))) ?_; clear S; rintro _ a w ⟨z, nn, e, rfl, hzf, hcase⟩ S
          replace S := S.add hzf
          have hraw0 : raw ≠ [] := fun h => by rw [h] at h9; simp at h9
          have htd : z.t = (termD raw).1 ∧ (decide (e = 0) && decide (nn = (raw.length : Int))) = (termD raw).2 := by
            rw [termD, if_neg hraw0]
            rcases hcase with ⟨left, rest, hd, hnn, he⟩ | ⟨hd, hz, he⟩
            · rw [hd]
              refine ⟨rfl, ?_⟩
              rw [he, hnn]
              cases rest with
              | nil => simp
              | cons x rest => simp; omega
            · rw [hd, hz]
              refine ⟨rfl, ?_⟩
              simp [he]
          iterate 4 (refine sq S ?_; clear S; intro a S)
          refine sa S ?_; clear S; intro b10 a w S
          refine sw S ?_; clear S; intro a w S
          iterate 2 (refine sq S ?_; clear S; intro a S)
          refine wl_nil ?_
          refine xtn ?_
          refine c_seq ?_
          refine c_region ?_
          iterate 2 (refine sq S ?_; clear S; intro a S)
          iterate 2 (refine gQ S ?_; clear S; intro a S)
          iterate 2 (refine sq S ?_; clear S; intro a S)
          iterate 4 (refine gQ S ?_; clear S; intro a S)
          iterate 2 (refine sq S ?_; clear S; intro a S)
          refine wl_nil ?_
          refine xtn ?_
          refine c_region ?_
          iterate 2 (refine sq S ?_; clear S; intro a S)
          refine sw S ?_; clear S; intro a w S
          refine wl_nil ?_
          refine xtn ?_
          rw [show (Value.string ⟨nm.toArray⟩) = str nm from rfl] at S
          replace S := (((S.front (ext M)).front (rdI rd re)).front (Wk.row 45 6 p' k c' (encL xs))).front (Wk.box b9 45 [str nm, .int .i64 z.kind, .int .i64 z.user, .int .i64 z.num, str z.text, .slice z.p z.kids.length z.cap])
          exact ⟨z, _, S.uu, ⟨htd.1, by rw [← htd.2, Bool.and_assoc]⟩, S.sub _ _⟩
        · refine c_skip ?_
          refine xtn ?_
          have hraw0 : raw = [] := by
            cases hr : raw with
            | nil => rfl
            | cons x l => rw [hr] at h9; simp at h9
          have htd : termD raw = (zeroT, true) := by rw [termD, if_pos hraw0]
          rw [show ([.string ⟨nm.toArray⟩, .int .i64 0, .int .i64 0, .int .i64 0, .string ⟨#[]⟩, .slice none 0 0] : List Value) = [str nm, .int .i64 Wk.zeroL.kind, .int .i64 Wk.zeroL.user, .int .i64 Wk.zeroL.num, str Wk.zeroL.text, .slice Wk.zeroL.p Wk.zeroL.kids.length Wk.zeroL.cap] from rfl] at S
          replace S := S.add (Φ := LtF Wk.zeroL) (fun _ _ => zeroL_in _)
          replace S := (((S.front (ext M)).front (rdI rd re)).front (Wk.row 45 6 p' k c' (encL xs))).front (Wk.box b9 45 [str nm, .int .i64 Wk.zeroL.kind, .int .i64 Wk.zeroL.user, .int .i64 Wk.zeroL.num, str Wk.zeroL.text, .slice Wk.zeroL.p Wk.zeroL.kids.length Wk.zeroL.cap])
          exact ⟨Wk.zeroL, good, S.uu, ⟨by rw [htd]; rfl, by rw [htd, Bool.and_true]⟩, S.sub _ _⟩
      · clear S; rintro z g uu a w ⟨hzt, hg⟩ S
        refine c_region ?_
        iterate 2 (refine sq S ?_; clear S; intro a S)
        refine sn S ?_; clear S; intro b57 a w S
        have hke : (encL xs).length = k * 6 := by rw [encL_len, hkx]; rfl
        refine sap S (by simp [maxLen]; omega) (by omega) ?_; clear S; rintro p13 c13 a w - S
        rw [show encL xs ++ [str nm, .int .i64 z.kind, .int .i64 z.user, .int .i64 z.num, str z.text, .slice z.p z.kids.length z.cap] = encL (xs ++ [⟨nm, z⟩]) from by rw [encL_append]; rfl] at S
        have hA1 : Stable _ _ (AllI xs) := S.wd.facts (AllI xs) (by simp)
        have hA2 := S.t z
        replace S := S.add (Φ := AllI (xs ++ [(⟨nm, z⟩ : LRow)])) (fun w' hw' x hx => by
          rcases List.mem_append.1 hx with h | h
          · exact hA1 w' hw' x h
          · rw [List.mem_singleton.1 h]; exact hA2 w' hw')
        refine sq S ?_; clear S; intro a S
        refine wl_nil ?_
        refine xbn ?_
        refine xtn ?_
        refine c_region ?_
        iterate 2 (refine sq S ?_; clear S; intro a S)
        refine wl_nil ?_
        refine xtn ?_
        have hkl : k < N := by simp at h5; omega
        have hNk : N - k = (N - (k + 1)) + 1 := by omega
        have hst : SubR (takeR r0 1) re := ((((hsub.trans hsa).trans hsb).trans hsc).trans hse)
        rw [w64 ((k : Int) + 1) (by omega) (by omega)] at S
        refine ⟨k + 1, xs ++ [(⟨nm, z⟩ : LRow)], re, g, p13, c13, S.uu, ⟨by simp [hkx], hkl, hst, ?_, fun x hx => ?_⟩, S.sub [Wk.row 45 6 p13 (k + 1) c13 (encL (xs ++ [(⟨nm, z⟩ : LRow)])), rdI rd re, ext M] _, by omega⟩
        · rw [hrel, hNk, rowsD_step, hrow, hg, rsP, rsP, List.map_append]
          show preR (xs.map LRow.r ++ [⟨nm, (termD raw).1⟩]) _ _ = preR (xs.map LRow.r ++ [⟨nm, z.t⟩]) _ _
          rw [hzt]
        · rcases List.mem_append.1 hx with h | h
          · exact hnm x h
          · rw [List.mem_singleton.1 h]; exact hnml
    · refine c_exit ?_
      iterate 2 (refine xte ?_)
      refine xbe ?_
      refine xtn ?_
      refine c_seq ?_
      refine c_block ?_
      refine c_seq ?_
      have hkN : N - k = 0 := by simp at h5; omega
      rw [hkN] at hrel
      have hkle : k ≤ c' := own_le (S.row p' k)
      have hI1 : LenN xs k := ⟨hkx.symm⟩
      have hI2 : LeC k c' := ⟨hkle⟩
      have hI3 : LeC k 9223372036854775807 := ⟨by omega⟩
      have hI4 : NamesOk xs := ⟨fun x hx => by have := hnm x hx; omega⟩
      replace S := S.rowToGl p' xs (e := 45) (sz := 6) (n := k) (c := c') (S.wd.facts (AllI xs) (by simp))
      have hA : allD bs = (rsP xs, good, r.ab) := by rw [hrel]; simp [preR, rowsD]
      refine c_region ?_
      refine sq S ?_; clear S; intro a S
      refine sr S (errR_c rd r _ (BoxF.stable (S.box rd) (fun h => h))) ?_; clear S; rintro _ a w rfl S
      iterate 2 (refine sq S ?_; clear S; intro a S)
      refine wl_nil ?_
      refine xtn ?_
      refine c_cond S (fun h15 => ?_) (fun h15 => ?_)
      · refine c_seq ?_
        refine c_region ?_
        iterate 2 (refine sq S ?_; clear S; intro a S)
        refine wl_nil ?_
        refine xtn ?_
        refine c_ret ?_
        refine xbr ?_
        refine xtr ?_
        have hv : decV bs = ([], 7) := by rw [decV, hA, if_pos (show r.ab.2 = true from h15)]
        exact end2 S (fun _ => ⟨[], none, 0, 7, rfl, by rw [hv]; rfl, by rw [hv], fun _ _ => gl_nil, Nat.le_refl _, nofun⟩)
      · refine c_seq ?_
        refine c_region ?_
        iterate 3 (refine sq S ?_; clear S; intro a S)
        refine gQ S ?_; clear S; intro a S
        refine gC S ?_; clear S; intro a w S
        refine gQ S ?_; clear S; intro a S
        iterate 2 (refine sq S ?_; clear S; intro a S)
        iterate 3 (refine gQ S ?_; clear S; intro a S)
        iterate 2 (refine sq S ?_; clear S; intro a S)
        refine gQ S ?_; clear S; intro a S
        refine gC S ?_; clear S; intro a w S
        refine gQ S ?_; clear S; intro a S
        iterate 2 (refine sq S ?_; clear S; intro a S)
        refine wl_nil ?_
        refine xtn ?_
        refine c_cond S (fun h17 => ?_) (fun h17 => ?_)
        · refine c_seq ?_
          refine c_region ?_
          iterate 2 (refine sq S ?_; clear S; intro a S)
          refine wl_nil ?_
          refine xtn ?_
          refine c_ret ?_
          refine xbr ?_
          refine xtr ?_
          have h15' : ¬ r.ab.2 = true := by show ¬ (!decide (r.why = 0)) = true; rw [h15]; simp
          have hv : decV bs = ([], 2) := by
            rw [decV, hA, if_neg h15', if_pos]
            simp only [Bool.or_eq_true, Bool.not_eq_true', decide_eq_true_eq] at h17
            simp only [rsP_lenK]
            show good = false ∨ 0 < r.bs.length ∨ 64 < xs.length ∨ batchP (rsP xs) = false
            rcases h17 with ((h | h) | h) | h
            · exact .inl h
            · exact .inr (.inl (by omega))
            · exact .inr (.inr (.inl (by omega)))
            · exact .inr (.inr (.inr h))
          exact end2 S (fun _ => ⟨[], none, 0, 2, rfl, by rw [hv]; rfl, by rw [hv], fun _ _ => gl_nil, Nat.le_refl _, nofun⟩)
        · refine c_skip ?_
          refine xbn ?_
          refine xtn ?_
          refine c_seq ?_
          refine c_region ?_
          iterate 3 (refine sq S ?_; clear S; intro a S)
          refine wl_nil ?_
          refine xtn ?_
          refine c_ret ?_
          have h15' : ¬ r.ab.2 = true := by show ¬ (!decide (r.why = 0)) = true; rw [h15]; simp
          have hv : decV bs = (rsP xs, 0) := by
            rw [decV, hA, if_neg h15', if_neg]
            simp only [Bool.or_eq_false_iff, Bool.not_eq_false', decide_eq_false_iff_not] at h17
            simp only [rsP_lenK]
            show ¬ (good = false ∨ 0 < r.bs.length ∨ 64 < xs.length ∨ batchP (rsP xs) = false)
            rintro (h | h | h | h)
            · rw [h] at h17; simp at h17
            · omega
            · omega
            · rw [h] at h17; simp at h17
          have hgl : Stable M _ (GlF p' xs) := S.laterFact (M := M) (by simp)
          refine end2 S (fun _ => ?_)
          subst hkx
          exact ⟨xs, p', c', 0, rfl, by rw [hv], by rw [hv], hgl, hkle, hnm⟩
end Go.Proofs.YtdakncgafdnjfaaGreat
namespace Go.Proofs.YtdakncgafdnjfaaGreat
open Go Go.Wk
set_option synthInstance.maxSize 100000
set_option synthInstance.maxHeartbeats 400000
set_option maxRecDepth 100000
theorem large19_c (N : Nat) : ∀ (t : LTerm) (deep left : Int) (b : Nat) (w0 : World), SizeOf.sizeOf t ≤ N → 0 ≤ deep → deep ≤ 81 → 0 ≤ left → left ≤ 2000 → Stable (fun k => k = b) w0 (LtF t) → w0.heap[b]? = some (.cells #[.int .i64 left] 3 (0, 0)) →
    Ret Tryz.prog 62 [vL t, .int .i64 deep, .pointer (some ⟨b, 0, none⟩)] w0 (fun k => k = b) fun v w' => ∃ (r : Bool) (n : Int), v = .bool r ∧ n ≤ left ∧ (r = false → 0 ≤ n) ∧ w'.heap[b]? = some (.cells #[.int .i64 n] 3 (0, 0)) := by
  induction N with
  | zero => intro t _ _ _ _ h; cases t; simp at h
  | succ N ih =>
  intro t deep left b w0 hN hd hd' hl hl' hf hb
  have hlen := LTerm.len_le hf
  refine enter Tryz.func62 rfl rfl (Wd.lent (fs := [LtF t]) hb (by simpa using hf)) (fun a S => ?_)
  simp only [Tryz.ntmps62, List.length_cons, List.length_nil, Nat.reduceAdd, Nat.reduceSub, List.replicate_succ, List.replicate_zero, List.cons_append, List.nil_append] at S
  refine c_seq ?_
  refine c_region ?_
  refine sa S ?_; clear S; intro b3 a w S
  refine sq S ?_; clear S; intro a S
  refine wl_nil ?_
  refine xtn ?_
  iterate 2 (refine c_seq ?_)
  refine c_region ?_
  iterate 4 (refine sq S ?_; clear S; intro a S)
  rw [w64 (left - 1) (by omega) (by omega)] at S
  refine sq S ?_; clear S; intro a S
  refine sw S ?_; clear S; intro a w S
  refine wl_nil ?_
  refine xtn ?_
  refine c_seq ?_
  refine c_region ?_
  iterate 5 (refine sq S ?_; clear S; intro a S)
  iterate 2 (refine gQ S ?_; clear S; intro a S)
  iterate 2 (refine sq S ?_; clear S; intro a S)
  iterate 4 (refine gQ S ?_; clear S; intro a S)
  iterate 2 (refine sq S ?_; clear S; intro a S)
  iterate 4 (refine gQ S ?_; clear S; intro a S)
  refine sq S ?_; clear S; intro a S
  refine wl_nil ?_
  refine xtn ?_
  refine c_cond S (fun h2 => ?_) (fun h2 => ?_)
  · refine c_seq ?_
    refine c_region ?_
    refine sq S ?_; clear S; intro a S
    refine wl_nil ?_
    refine xtn ?_
    refine c_ret ?_
    refine xtr ?_
    have hbx := S.box b
    refine fin1 S (fun _ => ?_)
    exact ⟨true, _, rfl, by omega, nofun, hbx⟩
  · refine c_skip ?_
    refine xtn ?_
    iterate 2 (refine c_seq ?_)
    have h2' : 0 ≤ left - 1 ∧ deep ≤ 80 := by
      simp only [Bool.or_eq_false_iff, decide_eq_false_iff_not] at h2
      omega
    refine c_region ?_
    iterate 4 (refine sq S ?_; clear S; intro a S)
    refine wl_nil ?_
    refine xtn ?_
    refine c_block ?_
    refine c_fore2 S (fun (k : Nat) (lf : Int) uu => [(6, uu 6), (1, uu 8), (28, .int .i64 (k : Nat)), (0, uu 38), (0, uu 39), (0, uu 40), (0, uu 41), (0, uu 42), (0, uu 43), (0, uu 44), (0, uu 45), (0, uu 46)]) (fun (k : Nat) (lf : Int) => [Wk.box b3 43 t.cells, Wk.box b 3 [.int .i64 lf]]) (fun (k : Nat) (lf : Int) => [LtF t]) (fun (k : Nat) (lf : Int) => k ≤ t.kids.length ∧ 0 ≤ lf ∧ lf ≤ left) (fun (k : Nat) (lf : Int) => t.kids.length - k) (0) (left - 1) ?_ S.uu ?_ ?_
    · exact ⟨Nat.zero_le _, by omega, by omega⟩
    · first | exact S | exact S.sub _ _
    · clear S; rintro k lf uu a w ⟨hk, hlf, hlf'⟩ S
      refine c_seq ?_
      refine c_region ?_
      refine sq S ?_; clear S; intro a S
      refine wl_nil ?_
      refine xtn ?_
      refine c_seq ?_
      refine c_cond S (fun h5 => ?_) (fun h5 => ?_)
      · refine c_skip ?_
        refine xtn ?_
        refine c_seq ?_
        refine c_block ?_
        refine c_seq ?_
        have hkl : k < t.kids.length := by simp at h5; omega
        have hK : KLt k t.kids.length := ⟨hkl⟩
        refine c_region ?_
        iterate 2 (refine sq S ?_; clear S; intro a S)
        refine sa S ?_; clear S; intro b8 a w S
        refine sw S ?_; clear S; intro a w S
        refine wl_nil ?_
        refine xtn ?_
        refine c_seq ?_
        refine c_region ?_
        iterate 3 (refine sq S ?_; clear S; intro a S)
        rw [w64 (deep + 1) (by omega) (by omega)] at S
        refine sq S ?_; clear S; intro a S
        have hst : Stable (fun k => k = b) w (LtF (nthL t.kids k)) := (S.t (nthL t.kids k)).less fun j _ hj => ⟨Wk.box b 3 [.int .i64 lf], by simp, by rw [hj]; rfl⟩
        refine sb S (b := b) (ih (nthL t.kids k) (deep + 1) lf b w (by have := LTerm.kid_lt (nth_mem hkl); omega) (by omega) (by omega) hlf (by omega) hst (S.box b)) ?_; clear S
        rintro v a w ⟨r, n, rfl, hn1, hn2, hcb⟩ hS
        have S := hS [.int .i64 _] _ inferInstance hcb
        clear hS
        refine wl_nil ?_
        refine xtn ?_
        refine c_cond S (fun h7 => ?_) (fun h7 => ?_)
        · refine c_seq ?_
          refine c_region ?_
          refine sq S ?_; clear S; intro a S
          refine wl_nil ?_
          refine xtn ?_
          refine c_ret ?_
          refine xbr ?_
          iterate 2 (refine xtr ?_)
          refine xbr ?_
          refine xtr ?_
          have hbx := S.box b
          refine fin1 S (fun _ => ?_)
          exact ⟨true, _, rfl, by omega, nofun, hbx⟩
        · refine c_skip ?_
          refine xbn ?_
          refine xtn ?_
          refine c_region ?_
          iterate 2 (refine sq S ?_; clear S; intro a S)
          refine wl_nil ?_
          refine xtn ?_
          rw [w64 ((k : Int) + 1) (by omega) (by omega)] at S
          exact ⟨k + 1, n, S.uu, ⟨hkl, hn2 h7, by omega⟩, S.sub _ _, by omega⟩
      · refine c_exit ?_
        iterate 2 (refine xte ?_)
        refine xbe ?_
        refine xtn ?_
        refine c_seq ?_
        refine c_region ?_
        refine sq S ?_; clear S; intro a S
        refine wl_nil ?_
        refine xtn ?_
        refine c_ret ?_
        have hbx := S.box b
        refine fin1 S (fun _ => ?_)
        exact ⟨false, _, rfl, by omega, fun _ => hlf, hbx⟩
theorem over19_c (xs : List LRow) (p : Option Addr) (n c : Nat) (w0 : World) (hn : xs.length = n) (hl : n ≤ 9223372036854775807) (hf : Stable (fun _ => False) w0 (GlF p xs)) : Ret Tryz.prog 13 [.slice p n c] w0 (fun _ => False) fun v _ => ∃ b, v = .bool b ∧ (b = false → n ≤ 100 ∧ ∀ x ∈ xs, x.name.length ≤ 500) := by
  subst hn
  refine enter Tryz.func13 rfl rfl (Wd.begin (fs := [GlF p xs]) (by simpa using hf)) (fun a S => ?_)
  simp only [Tryz.ntmps13, List.length_cons, List.length_nil, Nat.reduceAdd, Nat.reduceSub, List.replicate_succ, List.replicate_zero, List.cons_append, List.nil_append] at S
  refine c_seq ?_
  refine c_region ?_
  refine sq S ?_; clear S; intro a S
  refine wl_nil ?_
  refine xtn ?_
  iterate 2 (refine c_seq ?_)
  refine c_region ?_
  iterate 3 (refine sq S ?_; clear S; intro a S)
  refine wl_nil ?_
  refine xtn ?_
  refine c_cond S (fun h1 => ?_) (fun h1 => ?_)
  · refine c_seq ?_
    refine c_region ?_
    refine sq S ?_; clear S; intro a S
    refine wl_nil ?_
    refine xtn ?_
    refine c_ret ?_
    refine xtr ?_
    exact end1 S (fun _ => ⟨true, rfl, nofun⟩)
  · refine c_skip ?_
    refine xtn ?_
    refine c_seq ?_
    refine c_region ?_
    refine sa S ?_; clear S; intro b3 a w S
    refine sw S ?_; clear S; intro a w S
    refine wl_nil ?_
    refine xtn ?_
    iterate 2 (refine c_seq ?_)
    refine c_region ?_
    iterate 3 (refine sq S ?_; clear S; intro a S)
    refine wl_nil ?_
    refine xtn ?_
    refine c_block ?_
    refine c_fore2 S (fun (k : Nat) (lf : Int) uu => [(2, uu 2), (2, uu 5), (5, .int .i64 (k : Nat)), (0, uu 12), (0, uu 13), (0, uu 14), (0, uu 15), (0, uu 16), (0, uu 17), (0, uu 18), (0, uu 19), (0, uu 20), (0, uu 21), (0, uu 22), (0, uu 23), (0, uu 24)]) (fun (k : Nat) (lf : Int) => [Wk.box b3 3 [.int .i64 lf]]) (fun (k : Nat) (lf : Int) => [GlF p xs]) (fun (k : Nat) (lf : Int) => k ≤ xs.length ∧ 0 ≤ lf ∧ lf ≤ 2000 ∧ ∀ i, i < k → (nthG xs i).name.length ≤ 500) (fun (k : Nat) (lf : Int) => xs.length - k) (0) (2000) ?_ S.uu ?_ ?_
    · exact ⟨Nat.zero_le _, by omega, by omega, fun i h => by omega⟩
    · first | exact S | exact S.sub _ _
    · clear S; rintro k lf uu a w ⟨hk, hlf, hlf', hnm⟩ S
      refine c_seq ?_
      refine c_region ?_
      refine sq S ?_; clear S; intro a S
      refine wl_nil ?_
      refine xtn ?_
      refine c_seq ?_
      refine c_cond S (fun h5 => ?_) (fun h5 => ?_)
      · refine c_skip ?_
        refine xtn ?_
        refine c_seq ?_
        refine c_block ?_
        refine c_seq ?_
        have hkl : k < xs.length := by simp at h5; omega
        have hK : KLt k xs.length := ⟨hkl⟩
        refine c_region ?_
        iterate 2 (refine sq S ?_; clear S; intro a S)
        refine sa S ?_; clear S; intro b5 a w S
        refine sw S ?_; clear S; intro a w S
        refine wl_nil ?_
        refine xtn ?_
        refine c_seq ?_
        refine c_region ?_
        iterate 5 (refine sq S ?_; clear S; intro a S)
        refine gS S (fun hs S => ?_) (fun hs S => ?_)
        · refine gF' S ?_; clear S; intro a S
          iterate 2 (refine gF' S ?_; clear S; intro a S)
          refine sq S ?_; clear S; intro a S
          refine wl_nil ?_
          refine xtn ?_
          refine c_condT S ?_
          refine c_seq ?_
          refine c_region ?_
          refine sq S ?_; clear S; intro a S
          refine wl_nil ?_
          refine xtn ?_
          refine c_ret ?_
          refine xbr ?_
          iterate 2 (refine xtr ?_)
          refine xbr ?_
          refine xtr ?_
          exact end1 S (fun _ => ⟨true, rfl, nofun⟩)
        · refine gT' S ?_
          refine sq S ?_; clear S; intro a S
          refine gT' S ?_
          refine sq S ?_; clear S; intro a S
          refine gT' S ?_
          have hst : Stable (fun k => k = b3) w (LtF (nthG xs k).term) := (S.t (nthG xs k).term).less fun j _ hj => ⟨Wk.box b3 3 [.int .i64 lf], by simp, by rw [hj]; rfl⟩
          refine sb S (b := b3) (large19_c _ (nthG xs k).term 1 lf b3 w (Nat.le_refl _) (by omega) (by omega) hlf (by omega) hst (S.box b3)) ?_; clear S
          rintro v a w ⟨r, n, rfl, hn1, hn2, hcb⟩ hS
          have S := hS [.int .i64 _] _ inferInstance hcb
          clear hS
          refine sq S ?_; clear S; intro a S
          refine wl_nil ?_
          refine xtn ?_
          refine c_cond S (fun h7 => ?_) (fun h7 => ?_)
          · refine c_seq ?_
            refine c_region ?_
            refine sq S ?_; clear S; intro a S
            refine wl_nil ?_
            refine xtn ?_
            refine c_ret ?_
            refine xbr ?_
            iterate 2 (refine xtr ?_)
            refine xbr ?_
            refine xtr ?_
            exact end1 S (fun _ => ⟨true, rfl, nofun⟩)
          · refine c_skip ?_
            refine xbn ?_
            refine xtn ?_
            refine c_region ?_
            iterate 2 (refine sq S ?_; clear S; intro a S)
            refine wl_nil ?_
            refine xtn ?_
            rw [w64 ((k : Int) + 1) (by omega) (by omega)] at S
            refine ⟨k + 1, n, S.uu, ⟨hkl, hn2 h7, by omega, fun i hi => ?_⟩, S.sub _ _, by omega⟩
            rcases Nat.lt_succ_iff_lt_or_eq.1 hi with h | rfl
            · exact hnm i h
            · have := of_decide_eq_false hs; omega
      · refine c_exit ?_
        iterate 2 (refine xte ?_)
        refine xbe ?_
        refine xtn ?_
        refine c_seq ?_
        refine c_region ?_
        refine sq S ?_; clear S; intro a S
        refine wl_nil ?_
        refine xtn ?_
        refine c_ret ?_
        refine end1 S (fun _ => ⟨false, rfl, fun _ => ⟨?_, fun x hx => ?_⟩⟩)
        · have := of_decide_eq_false h1; omega
        · obtain ⟨i, hi, rfl⟩ := List.mem_iff_getElem.1 hx
          have h2 := nthG_get hi
          rw [List.getElem?_eq_getElem hi] at h2
          rw [Option.some.inj h2]
          exact hnm i (by simp at h5; omega)
theorem same19_c (xs ys : List LRow) (p q : Option Addr) (n m c d : Nat) (w0 : World) (hn : xs.length = n) (hm : ys.length = m) (hl : n ≤ 9223372036854775807) (he : rsP xs = rsP ys) (hx : Stable (fun _ => False) w0 (GlF p xs)) (hy : Stable (fun _ => False) w0 (GlF q ys)) :
    Ret Tryz.prog 16 [.slice p n c, .slice q m d] w0 (fun _ => False) fun v _ => v = .bool true := by
  have hlen : xs.length = ys.length := by have := congrArg List.length he; simpa [rsP] using this
  have hnm : n = m := by omega
  subst hnm
  subst hn
  have hrow : ∀ i, i < xs.length → (nthG xs i).r = (nthG ys i).r := fun i hi => by
    have h1 : (rsP xs)[i]? = some (nthG xs i).r := by rw [rsP, List.getElem?_map, nthG_get hi]; rfl
    have h2 : (rsP ys)[i]? = some (nthG ys i).r := by rw [rsP, List.getElem?_map, nthG_get (by omega)]; rfl
    rw [he, h2] at h1
    exact (Option.some.inj h1).symm
  refine enter Tryz.func16 rfl rfl (Wd.begin (fs := [GlF p xs, GlF q ys]) (by simp; exact ⟨hx, hy⟩)) (fun a S => ?_)
  simp only [Tryz.ntmps16, List.length_cons, List.length_nil, Nat.reduceAdd, Nat.reduceSub, List.replicate_succ, List.replicate_zero, List.cons_append, List.nil_append] at S
  refine c_seq ?_
  refine c_region ?_
  refine sq S ?_; clear S; intro a S
  refine wl_nil ?_
  refine xtn ?_
  iterate 2 (refine c_seq ?_)
  refine c_region ?_
  iterate 5 (refine sq S ?_; clear S; intro a S)
  refine wl_nil ?_
  refine xtn ?_
  refine c_cond S (fun h1 => ?_) (fun h1 => ?_)
  · refine c_seq ?_
    refine c_region ?_
    refine sq S ?_; clear S; intro a S
    refine wl_nil ?_
    refine xtn ?_
    refine c_ret ?_
    refine xtr ?_
    simp at h1
  · refine c_skip ?_
    refine xtn ?_
    iterate 2 (refine c_seq ?_)
    refine c_region ?_
    iterate 3 (refine sq S ?_; clear S; intro a S)
    refine wl_nil ?_
    refine xtn ?_
    refine c_block ?_
    refine c_forb1 S (fun (k : Nat) uu => [(4, uu 4), (0, uu 5), (7, .int .i64 (k : Nat)), (0, uu 14), (0, uu 15), (0, uu 16), (0, uu 17), (0, uu 18), (0, uu 19), (0, uu 20), (0, uu 21), (0, uu 22), (0, uu 23), (0, uu 24), (0, uu 25), (0, uu 26), (0, uu 27), (0, uu 28), (0, uu 29), (0, uu 30), (0, uu 31), (0, uu 32), (0, uu 33), (0, uu 34), (0, uu 35), (0, uu 36), (0, uu 37), (0, uu 38), (0, uu 39), (0, uu 40), (0, uu 41)]) (fun (k : Nat) => k ≤ xs.length) (fun (k : Nat) => xs.length - k) (0) ?_ S.uu ?_ ?_
    · exact Nat.zero_le _
    · first | exact S | exact S.sub _ _
    · clear S; rintro k uu a w hk S
      refine c_seq ?_
      refine c_region ?_
      refine sq S ?_; clear S; intro a S
      refine wl_nil ?_
      refine xtn ?_
      refine c_seq ?_
      refine c_cond S (fun h4 => ?_) (fun h4 => ?_)
      · refine c_skip ?_
        refine xtn ?_
        refine c_seq ?_
        refine c_block ?_
        refine c_seq ?_
        have hkl : k < xs.length := by simp at h4; omega
        have hK : KLt k xs.length := ⟨hkl⟩
        have hK2 : KLt k ys.length := ⟨by omega⟩
        have hr := hrow k hkl
        have hr1 : (nthG xs k).name = (nthG ys k).name := congrArg PRow.name hr
        have hr2 : (nthG xs k).term.t = (nthG ys k).term.t := congrArg PRow.term hr
        refine c_region ?_
        iterate 2 (refine sq S ?_; clear S; intro a S)
        refine wl_nil ?_
        refine xtn ?_
        refine c_seq ?_
        refine c_drawD [(0, true), (1, true), (2, true), (3, true), (4, true), (5, true), (6, true), (7, true), (8, true), (9, true), (10, true), (11, true), (12, true), (13, true), (14, true), (15, true), (16, true), (17, true), (18, true), (19, true), (20, true), (21, true), (22, false), (23, true), (24, true)] [] S ?_; clear S; intro w S
        iterate 12 (refine dq S ?_; clear S; intro a S)
        iterate 10 (refine dqG S ?_; clear S; intro a S)
        refine dl ?_
        refine gC S ?_; clear S; intro a w S
        refine de S ?_
        refine dqG S ?_; clear S; intro a S
        refine dq S ?_; clear S; intro a S
        refine dn ?_
        refine xtn ?_
        refine c_cond S (fun h6 => ?_) (fun h6 => ?_)
        · refine c_seq ?_
          refine c_region ?_
          refine sq S ?_; clear S; intro a S
          refine wl_nil ?_
          refine xtn ?_
          refine c_ret ?_
          refine xbr ?_
          iterate 2 (refine xtr ?_)
          refine xbr ?_
          refine xtr ?_
          rw [hr1, hr2, (sameF_iff _ _).2 rfl] at h6
          simp at h6
        · refine c_skip ?_
          refine xbn ?_
          refine xtn ?_
          refine c_region ?_
          iterate 2 (refine sq S ?_; clear S; intro a S)
          refine wl_nil ?_
          refine xtn ?_
          rw [w64 ((k : Int) + 1) (by omega) (by omega)] at S
          exact ⟨k + 1, S.uu, hkl, S.sub _ _, by omega⟩
      · refine c_exit ?_
        iterate 2 (refine xte ?_)
        refine xbe ?_
        refine xtn ?_
        refine c_seq ?_
        refine c_region ?_
        refine sq S ?_; clear S; intro a S
        refine wl_nil ?_
        refine xtn ?_
        refine c_ret ?_
        exact end1 S (fun _ => rfl)
end Go.Proofs.YtdakncgafdnjfaaGreat
namespace Go.Proofs.YtdakncgafdnjfaaGreat
open Go Go.Wk
set_option synthInstance.maxSize 100000
set_option synthInstance.maxHeartbeats 400000
set_option maxRecDepth 100000
theorem vopen1_c (x y : LRow) (w0 : World) : Ret Tryz.prog 88 [vRow x, vRow y] w0 (fun _ => False) fun v _ => v = .int .i64 (Lib.compareBytes x.name y.name) := by
  refine enter Tryz.func88 rfl rfl (Wd.start w0) (fun a S => ?_)
  simp only [Tryz.ntmps88, List.length_cons, List.length_nil, Nat.reduceAdd, Nat.reduceSub, List.replicate_succ, List.replicate_zero, List.cons_append, List.nil_append] at S
  refine c_seq ?_
  refine c_region ?_
  refine sa S ?_; clear S; intro b2 a w S
  refine sa S ?_; clear S; intro b3 a w S
  refine sq S ?_; clear S; intro a S
  refine wl_nil ?_
  refine xtn ?_
  refine c_seq ?_
  refine c_region ?_
  iterate 4 (refine sq S ?_; clear S; intro a S)
  refine sc S ?_; clear S; intro a w S
  refine sq S ?_; clear S; intro a S
  refine wl_nil ?_
  refine xtn ?_
  refine c_ret ?_
  exact end1 S (fun _ => rfl)
instance {x y : LRow} {bs fs} : CallV Tryz.prog 88 [vRow x, vRow y] bs fs (.int .i64 (Lib.compareBytes x.name y.name)) := ⟨fun w _ => vopen1_c x y w⟩
theorem vopen2_c (x : LRow) (w0 : World) (hf : Stable (fun _ => False) w0 (LtF x.term)) : Ret Tryz.prog 91 [vRow x] w0 (fun _ => False) fun v _ => v = .bool (goneP x.r) := by
  refine enter Tryz.func91 rfl rfl (Wd.begin (fs := [LtF x.term]) (by simpa using hf)) (fun a S => ?_)
  simp only [Tryz.ntmps91, List.length_cons, List.length_nil, Nat.reduceAdd, Nat.reduceSub, List.replicate_succ, List.replicate_zero, List.cons_append, List.nil_append] at S
  refine c_seq ?_
  refine c_region ?_
  refine sa S ?_; clear S; intro b1 a w S
  refine sq S ?_; clear S; intro a S
  refine wl_nil ?_
  refine xtn ?_
  refine c_seq ?_
  refine c_region ?_
  refine sq S ?_; clear S; intro a S
  refine sc S ?_; clear S; intro a w S
  refine sq S ?_; clear S; intro a S
  refine wl_nil ?_
  refine xtn ?_
  refine c_ret ?_
  exact end1 S (fun _ => rfl)
def upTo (l : List PRow) : Nat → Bool
  | 0 => true
  | k + 1 => (match l[k]?, l[k + 1]? with | some x, some y => !Op.bytesLess y.name x.name | _, _ => true) && upTo l k
def risesP (l : List PRow) : Bool := upTo l (l.length - 1)
theorem upTo_get {l : List PRow} {k : Nat} {x y : PRow} (hx : l[k]? = some x) (hy : l[k + 1]? = some y) : upTo l (k + 1) = (!Op.bytesLess y.name x.name && upTo l k) := by
  rw [upTo, hx, hy]
theorem issorted_c (xs : List LRow) (p : Option Addr) (n c : Nat) (w0 : World) (hn : xs.length = n) (hl : n ≤ 1000000) (hx : Stable (fun _ => False) w0 (GlF p xs)) :
    Ret Tryz.prog 87 [.slice p n c, .func (.func 88) #[] #[]] w0 (fun _ => False) fun v _ => v = .bool (risesP (rsP xs)) := by
  subst hn
  have hg : ∀ i, i < xs.length → (rsP xs)[i]? = some (nthG xs i).r := fun i hi => by rw [rsP, List.getElem?_map, nthG_get hi]; rfl
  refine enter Tryz.func87 rfl rfl (Wd.begin (fs := [GlF p xs]) (by simpa using hx)) (fun a S => ?_)
  simp only [Tryz.ntmps87, List.length_cons, List.length_nil, Nat.reduceAdd, Nat.reduceSub, List.replicate_succ, List.replicate_zero, List.cons_append, List.nil_append] at S
  refine c_seq ?_
  refine c_region ?_
  refine sq S ?_; clear S; intro a S
  refine wl_nil ?_
  refine xtn ?_
  iterate 2 (refine c_seq ?_)
  refine c_region ?_
  iterate 3 (refine sq S ?_; clear S; intro a S)
  rw [w64 ((xs.length : Int) - 1) (by omega) (by omega)] at S
  refine sq S ?_; clear S; intro a S
  refine wl_nil ?_
  refine xtn ?_
  refine c_block ?_
  refine c_forb1 S (fun (k : Int) uu => [(4, uu 4), (0, .int .i64 k), (3, uu 9), (0, uu 10), (0, uu 11), (0, uu 12), (0, uu 13), (0, uu 14), (0, uu 15), (0, uu 16), (0, uu 17), (0, uu 18), (0, uu 19), (0, uu 20), (0, uu 21), (0, uu 22), (0, uu 23), (0, uu 24)]) (fun (k : Int) => k ≤ (xs.length : Int) - 1 ∧ -1 ≤ k ∧ upTo (rsP xs) k.toNat = risesP (rsP xs)) (fun (k : Int) => (k + 1).toNat) ((xs.length : Int) - 1) ?_ S.uu ?_ ?_
  · exact ⟨Int.le_refl _, by omega, by rw [risesP, rsP_lenK, show ((xs.length : Int) - 1).toNat = xs.length - 1 from by omega]⟩
  · first | exact S | exact S.sub _ _
  · clear S; rintro k uu a w ⟨hk1, hk2, hrel⟩ S
    iterate 2 (refine c_seq ?_)
    refine c_region ?_
    iterate 2 (refine sq S ?_; clear S; intro a S)
    refine wl_nil ?_
    refine xtn ?_
    refine c_cond S (fun h2 => ?_) (fun h2 => ?_)
    · refine c_skip ?_
      refine xtn ?_
      refine c_seq ?_
      refine c_block ?_
      refine c_seq ?_
      have hk0 : 0 < k := by simpa using h2
      obtain ⟨j, rfl⟩ : ∃ j : Nat, k = ((j + 1 : Nat) : Int) := ⟨(k - 1).toNat, by omega⟩
      have hK1 : KLt (j + 1) xs.length := ⟨by omega⟩
      have hK2 : KLt j xs.length := ⟨by omega⟩
      refine c_drawD [(0, true), (1, true), (2, true), (3, true), (4, true), (5, true), (6, true), (7, true), (8, true), (9, true), (10, false), (11, true)] [] S ?_; clear S; intro w S
      iterate 8 (refine dq S ?_; clear S; intro a S)
      rw [w64 _ (by omega) (by omega), show ((j + 1 : Nat) : Int) - 1 = (j : Int) from by omega] at S
      iterate 2 (refine dq S ?_; clear S; intro a S)
      refine dl ?_
      refine sc S ?_; clear S; intro a w S
      refine de S ?_
      refine dq S ?_; clear S; intro a S
      rw [cmp_lessV] at S
      refine dn ?_
      refine xtn ?_
      refine c_cond S (fun h4 => ?_) (fun h4 => ?_)
      · refine c_seq ?_
        refine c_region ?_
        refine sq S ?_; clear S; intro a S
        refine wl_nil ?_
        refine xtn ?_
        refine c_ret ?_
        refine xbr ?_
        iterate 2 (refine xtr ?_)
        refine xbr ?_
        refine xtr ?_
        refine end1 S (fun _ => ?_)
        rw [show ((j + 1 : Nat) : Int).toNat = j + 1 from rfl, upTo_get (hg j (by omega)) (hg (j + 1) (by omega)), show (nthG xs (j + 1)).r.name = (nthG xs (j + 1)).name from rfl, show (nthG xs j).r.name = (nthG xs j).name from rfl, h4] at hrel
        rw [← hrel]; rfl
      · refine c_skip ?_
        refine xbn ?_
        refine xtn ?_
        refine c_region ?_
        iterate 2 (refine sq S ?_; clear S; intro a S)
        rw [w64 _ (by omega) (by omega), show ((j + 1 : Nat) : Int) - 1 = (j : Int) from by omega] at S
        refine sq S ?_; clear S; intro a S
        refine wl_nil ?_
        refine xtn ?_
        rw [show ((j + 1 : Nat) : Int).toNat = j + 1 from rfl, upTo_get (hg j (by omega)) (hg (j + 1) (by omega)), show (nthG xs (j + 1)).r.name = (nthG xs (j + 1)).name from rfl, show (nthG xs j).r.name = (nthG xs j).name from rfl, h4] at hrel
        exact ⟨(j : Int), S.uu, ⟨by omega, by omega, hrel⟩, S.sub _ _, by omega⟩
    · refine c_exit ?_
      iterate 2 (refine xte ?_)
      refine xbe ?_
      refine xtn ?_
      refine c_seq ?_
      refine c_region ?_
      refine sq S ?_; clear S; intro a S
      refine wl_nil ?_
      refine xtn ?_
      refine c_ret ?_
      have hk0 : ¬ 0 < k := by simpa using h2
      rw [show k.toNat = 0 from by omega] at hrel
      refine end1 S (fun _ => ?_)
      rw [← hrel]; rfl
end Go.Proofs.YtdakncgafdnjfaaGreat
namespace Go.Proofs.YtdakncgafdnjfaaGreat
open Go Go.Wk
set_option synthInstance.maxSize 100000
set_option synthInstance.maxHeartbeats 400000
set_option maxRecDepth 100000
def entO : List PRow → List (List UInt8) → Option (List PRow)
  | rows, [] => some rows
  | rows, b :: bs => if (decV b).2 ≠ 0 ∨ 64 < (behP rows (decV b).1).length then none else entO (behP rows (decV b).1) bs
def snapO (b : List UInt8) : Option (List PRow) := if b = [] then some [] else if (decV b).2 ≠ 0 ∨ risesP (decV b).1 = false ∨ (decV b).1.any goneP = true then none else some (behP [] (decV b).1)
def openP : List (List UInt8) → Option (List PRow)
  | [] => none
  | b :: bs => match snapO b with
    | none => none
    | some rows => entO rows bs
theorem decV_batch {b : List UInt8} (h : (decV b).2 = 0) : batchP (decV b).1 = true ∧ (decV b).1.length ≤ 64 := by
  unfold decV at h ⊢
  split at h
  · cases h
  · split at h
    · cases h
    · rename_i h1 h2
      rw [if_neg h1, if_neg h2]
      have h3 : ¬ batchP (allD b).1 = false := fun h => h2 (.inr (.inr (.inr h)))
      have h4 : ¬ 64 < (allD b).1.length := fun h => h2 (.inr (.inr (.inl h)))
      exact ⟨by simpa using h3, by simpa using h4⟩
theorem decV_len (b : List UInt8) : (decV b).1.length ≤ 64 := by
  by_cases h : (decV b).2 = 0
  · exact (decV_batch h).2
  · unfold decV at h ⊢
    split
    · simp
    · split
      · simp
      · rename_i h1 h2
        rw [if_neg h1, if_neg h2] at h
        exact absurd rfl h
end Go.Proofs.YtdakncgafdnjfaaGreat
namespace Go.Proofs.YtdakncgafdnjfaaGreat
open Go Go.Wk
set_option synthInstance.maxSize 100000
set_option synthInstance.maxHeartbeats 400000
set_option maxRecDepth 100000
theorem sorted_get {l : List PRow} (h : SortedP l) {i j : Nat} {x y : PRow} (hij : i < j) (hx : l[i]? = some x) (hy : l[j]? = some y) : Op.bytesLess x.name y.name = true := by
  have e1 : (l.map PRow.name)[i]? = some x.name := by rw [List.getElem?_map, hx]; rfl
  have e2 : (l.map PRow.name)[j]? = some y.name := by rw [List.getElem?_map, hy]; rfl
  obtain ⟨q1, q2⟩ := List.getElem?_eq_some_iff.1 e1
  obtain ⟨q3, q4⟩ := List.getElem?_eq_some_iff.1 e2
  have := List.pairwise_iff_getElem.1 h i j q1 q3 hij
  rw [q2, q4] at this; exact this
theorem sorted_upTo {l : List PRow} (h : SortedP l) : ∀ k, upTo l k = true
  | 0 => rfl
  | k + 1 => by
    rw [upTo, sorted_upTo h k, Bool.and_true]
    split
    · rename_i x y hx hy
      rw [bl_asymm _ _ (sorted_get h (Nat.lt_succ_self k) hx hy)]; rfl
    · rfl
theorem putP_end : ∀ (l : List PRow) (r : PRow), (∀ x ∈ l, Op.bytesLess x.name r.name = true) → goneP r = false → putP l r = l ++ [r]
  | [], r, _, hg => by rw [putP, if_neg (by rw [hg]; simp)]; rfl
  | x :: l, r, h, hg => by
    have h1 := h x (.head _)
    rw [putP, if_neg (fun e => by rw [e, bl_irrefl] at h1; cases h1), if_neg (by rw [bl_asymm _ _ h1]; simp), putP_end l r (fun y hy => h y (.tail _ hy)) hg]
    rfl
theorem behP_sorted_self : ∀ (l acc : List PRow), SortedP (acc ++ l) → (∀ r ∈ l, goneP r = false) → behP acc l = acc ++ l
  | [], acc, _, _ => by rw [behP_nil, List.append_nil]
  | r :: l, acc, h, hg => by
    have h1 : ∀ x ∈ acc, Op.bytesLess x.name r.name = true := fun x hx => by
      unfold SortedP at h
      rw [List.map_append, List.pairwise_append] at h
      exact h.2.2 x.name (List.mem_map_of_mem hx) r.name (by simp)
    rw [behP_cons, putP_end acc r h1 (hg r (.head _)), behP_sorted_self l (acc ++ [r]) (by simpa using h) (fun x hx => hg x (.tail _ hx))]
    simp
theorem kept_snap {rows : List PRow} (h : KeptP rows) (hl : rows.length ≤ 64) : snapO (encP rows) = some rows := by
  have hB := keptP_batch h hl
  have hne : encP rows ≠ [] := by rw [encP]; simp
  rw [snapO, if_neg hne, decV_enc hB, if_neg]
  · rw [behP_sorted_self rows [] h.up h.there]; rfl
  · rintro (h1 | h1 | h1)
    · exact h1 rfl
    · rw [show risesP rows = true from sorted_upTo h.up _] at h1; cases h1
    · rw [List.any_eq_true] at h1
      obtain ⟨r, hr, hg⟩ := h1
      rw [h.there r hr] at hg; cases hg
theorem entO_snoc : ∀ (bs : List (List UInt8)) (rows out : List PRow) (l : List PRow), entO rows bs = some out → batchP l = true → (behP out l).length ≤ 64 → entO rows (bs ++ [encP l]) = some (behP out l)
  | [], rows, out, l, h, hB, hl => by
    rw [entO] at h
    cases h
    rw [List.nil_append, entO, decV_enc hB, if_neg, entO]
    rintro (h | h)
    · exact h rfl
    · exact absurd h (by simp only; omega)
  | b :: bs, rows, out, l, h, hB, hl => by
    rw [entO] at h
    split at h
    · cases h
    · rename_i hc
      rw [List.cons_append, entO, if_neg hc]
      exact entO_snoc bs _ out l h hB hl
theorem openP_snoc {said : List (List UInt8)} {rows l : List PRow} (h : openP said = some rows) (hB : batchP l = true) (hl : (behP rows l).length ≤ 64) : openP (said ++ [encP l]) = some (behP rows l) := by
  cases said with
  | nil => cases h
  | cons b bs =>
    rw [openP] at h
    rw [List.cons_append, openP]
    cases hs : snapO b with
    | none => rw [hs] at h; cases h
    | some r0 =>
      rw [hs] at h
      exact entO_snoc bs r0 rows l h hB hl
theorem openP_one {rows : List PRow} (h : KeptP rows) (hl : rows.length ≤ 64) : openP [encP rows] = some rows := by
  rw [openP, kept_snap h hl]; rfl
end Go.Proofs.YtdakncgafdnjfaaGreat
namespace Go.Proofs.YtdakncgafdnjfaaGreat
open Go Go.Wk
set_option synthInstance.maxSize 100000
set_option synthInstance.maxHeartbeats 400000
set_option maxRecDepth 100000
theorem up_turnV {t : Int} (h0 : 0 ≤ t) (h1 : t + 1 ≤ 4294967295) : upT t = t + 1 := by rw [upT, wu32 _ (by omega) (by omega)]
theorem roomC_lv {V : LV} {n : Nat} {t : Int} {said : List (List UInt8)} (h : LvOk V n t said) (ht : t + 1 ≤ 4294967295) (bs : List UInt8) : roomC V.x bs = if 40000 < bs.length then 3 else if n < secN bs.length then 6 else 0 := by
  obtain ⟨q1, q2, q3, q4, q5, q6⟩ := h
  obtain ⟨s, n', turn, said', fin, broken⟩ := V
  simp only at q1 q2 q3 q4 q5 q6
  subst q1 q2 q3 q4 q5
  obtain ⟨s', hs, tail, hL, -⟩ := q6
  have hup := up_turnV hL.ht.1 ht
  have ht0 := hL.ht.1
  by_cases hb : 40000 < bs.length
  · have e1 : refF (LV.x ⟨s, n', turn, said', endF turn said', false⟩) bs = 3 := by rw [refF, if_pos hb]
    rw [if_pos hb, roomC, if_neg (by rw [e1]; decide), e1]
  · have e1 : refF (LV.x ⟨s, n', turn, said', endF turn said', false⟩) bs = 0 := by rw [refF, if_neg hb]; rfl
    rw [if_neg hb, roomC, if_pos e1]
    show (if n' < secN bs.length ∨ upT turn = 0 then (6 : Int) else 0) = _
    by_cases h6 : n' < secN bs.length
    · rw [if_pos (.inl h6), if_pos h6]
    · rw [if_neg (by rintro (h | h); exact h6 h; omega), if_neg h6]
theorem app_ok {V : LV} {n : Nat} {t : Int} {said : List (List UInt8)} (h : LvOk V n t said) (bs : List UInt8) (hb : bs.length ≤ 40000) (hr : endF t said + secN bs.length ≤ n) :
    ((appV V bs).2 = 0 ∧ LvOk (appV V bs).1 n t (said ++ [bs])) ∨
    ((appV V bs).2 ≠ 0 ∧ (appV V bs).1.broken = true ∧ ∀ keep, Able (crashD keep (appV V bs).1.s) n t said ∨ Able (crashD keep (appV V bs).1.s) n t (said ++ [bs])) := by
  have hroom := room_lv h bs hb
  rw [if_neg (by omega)] at hroom
  obtain ⟨q1, q2, q3, q4, q5, q6⟩ := h
  obtain ⟨s, n', turn, said', fin, broken⟩ := V
  simp only at q1 q2 q3 q4 q5 q6 hroom
  subst q1 q2 q3 q4 q5
  have he : endF turn (said' ++ [bs]) = endF turn said' + secN bs.length := by
    rw [endF_sum, endF_sum, List.map_append, List.sum_append]; simp
  unfold appV
  rw [if_neg (fun h => h hroom)]
  rcases append_liveF q6 bs hb hr with ⟨a1, a2⟩ | ⟨a1, a2⟩
  · refine .inl ?_
    rw [if_pos a1]
    exact ⟨rfl, rfl, rfl, rfl, he.symm, rfl, a2⟩
  · refine .inr ?_
    rw [if_neg a1]
    exact ⟨a1, rfl, a2⟩
theorem chk_ok {V : LV} {n : Nat} {t : Int} {said : List (List UInt8)} (h : LvOk V n t said) (ht : t + 1 ≤ 4294967295) (bs : List UInt8) (hb : bs.length ≤ 40000) (hr : secN bs.length ≤ n) :
    ((chkV V bs).2 = 0 ∧ LvOk (chkV V bs).1 n (t + 1) [bs]) ∨
    ((chkV V bs).2 ≠ 0 ∧ (chkV V bs).1.broken = true ∧ ∀ keep, Able (crashD keep (chkV V bs).1.s) n t said ∨ Able (crashD keep (chkV V bs).1.s) n (t + 1) [bs]) := by
  have hroom := roomC_lv h ht bs
  rw [if_neg (by omega), if_neg (by omega)] at hroom
  obtain ⟨q1, q2, q3, q4, q5, q6⟩ := h
  obtain ⟨s, n', turn, said', fin, broken⟩ := V
  simp only at q1 q2 q3 q4 q5 q6 hroom
  subst q1 q2 q3 q4 q5
  obtain ⟨s', hsim, tail, hL, hfr⟩ := id q6
  have hup := up_turnV hL.ht.1 ht
  unfold chkV
  rw [if_neg (fun h => h hroom)]
  show ((if (begF n' (upT turn) _ s).2 = 0 then _ else _) : LV × Int).2 = 0 ∧ _ ∨ _
  rw [hup]
  rcases chk_liveF q6 bs hb hr ht with ⟨a1, a2⟩ | ⟨a1, a2⟩
  · refine .inl ?_
    rw [if_pos a1]
    refine ⟨rfl, rfl, rfl, rfl, ?_, rfl, a2⟩
    show secN bs.length = _
    rw [endF_sum]; simp
  · refine .inr ?_
    rw [if_neg a1]
    exact ⟨a1, rfl, a2⟩
theorem chk_off {V : LV} {n : Nat} {t : Int} {said : List (List UInt8)} (h : LvOff V n t said) (ht : t + 1 ≤ 4294967295) (bs : List UInt8) (hb : bs.length ≤ 40000) (hr : secN bs.length ≤ n) :
    (chkV V bs).2 = 0 ∧ LvOff (chkV V bs).1 n (t + 1) [bs] := by
  have hroom := roomC_lv h.ok ht bs
  rw [if_neg (by omega), if_neg (by omega)] at hroom
  obtain ⟨⟨q1, q2, q3, q4, q5, q6⟩, hl, ho⟩ := h
  obtain ⟨s, n', turn, said', fin, broken⟩ := V
  simp only at q1 q2 q3 q4 q5 q6 hl ho hroom
  subst q1 q2 q3 q4 q5
  obtain ⟨s', hsim, tail, hL, hfr⟩ := id q6
  have hup := up_turnV hL.ht.1 ht
  obtain ⟨a1, a2, a3⟩ := (chk_live hl bs hb hr ht).resolve_right (fun h => by rw [ho] at h; cases h.1)
  unfold chkV
  rw [if_neg (fun h => h hroom)]
  show ((if (begF n' (upT turn) _ s).2 = 0 then _ else _) : LV × Int).2 = 0 ∧ _
  rw [hup, if_pos a1]
  refine ⟨rfl, ⟨⟨rfl, rfl, rfl, ?_, rfl, a2.liveF (fun h => by rw [a3 ho] at h; cases h)⟩, a2, a3 ho⟩⟩
  show secN bs.length = _
  rw [endF_sum]; simp
def planE (n : Nat) (t : Int) (said : List (List UInt8)) (rows l : List PRow) : Int ⊕ (Int × List (List UInt8)) :=
  if (encP l).length ≤ 40000 ∧ endF t said + secN (encP l).length ≤ n then .inr (t, said ++ [encP l]) else
  if 40000 < (encP (behP rows l)).length then .inl 3 else
  if n < secN (encP (behP rows l)).length then .inl 6 else .inr (t + 1, [encP (behP rows l)])
structure Went (V : LV × Int) (n : Nat) (t t' : Int) (said said' : List (List UInt8)) : Prop where
  yes : V.2 = 0 → LvOk V.1 n t' said'
  no : V.2 ≠ 0 → V.1.broken = true ∧ ∀ keep, Able (crashD keep V.1.s) n t said ∨ Able (crashD keep V.1.s) n t' said'
theorem putR_ok {V : LV} {n : Nat} {t : Int} {said : List (List UInt8)} (h : LvOk V n t said) (ht : t + 1 ≤ 4294967295) (rows l : List PRow) :
    (∀ e, planE n t said rows l = .inl e → e ≠ 0 ∧ putR V rows l = (V, e)) ∧ (∀ t' said', planE n t said rows l = .inr (t', said') → Went (putR V rows l) n t t' said said') := by
  unfold planE putR
  by_cases hf : (encP l).length ≤ 40000 ∧ endF t said + secN (encP l).length ≤ n
  · rw [if_pos hf, if_pos ((fits_lv h _).2 hf)]
    refine ⟨fun e he => (by cases he), fun t' said' he => ?_⟩
    cases he
    rcases app_ok h _ hf.1 hf.2 with ⟨a1, a2⟩ | ⟨a1, a2, a3⟩
    · exact ⟨fun _ => a2, fun h => absurd a1 h⟩
    · exact ⟨fun h => absurd h a1, fun _ => ⟨a2, a3⟩⟩
  · rw [if_neg hf, if_neg (fun h2 => hf ((fits_lv h _).1 h2))]
    have hroom := roomC_lv h ht (encP (behP rows l))
    by_cases h1 : 40000 < (encP (behP rows l)).length
    · rw [if_pos h1]
      rw [if_pos h1] at hroom
      refine ⟨fun e he => ?_, fun t' said' he => by cases he⟩
      cases he
      exact ⟨by decide, by rw [chkV, if_pos (by rw [hroom]; decide), hroom]⟩
    · rw [if_neg h1]
      rw [if_neg h1] at hroom
      by_cases h2 : n < secN (encP (behP rows l)).length
      · rw [if_pos h2]
        rw [if_pos h2] at hroom
        refine ⟨fun e he => ?_, fun t' said' he => by cases he⟩
        cases he
        exact ⟨by decide, by rw [chkV, if_pos (by rw [hroom]; decide), hroom]⟩
      · rw [if_neg h2]
        refine ⟨fun e he => (by cases he), fun t' said' he => ?_⟩
        cases he
        rcases chk_ok h ht (encP (behP rows l)) (by omega) (by omega) with ⟨a1, a2⟩ | ⟨a1, a2, a3⟩
        · exact ⟨fun _ => a2, fun h => absurd a1 h⟩
        · exact ⟨fun h => absurd h a1, fun _ => ⟨a2, a3⟩⟩
theorem putR_off {V : LV} {n : Nat} {t : Int} {said : List (List UInt8)} (h : LvOff V n t said) (ht : t + 1 ≤ 4294967295) (rows l : List PRow) {t' : Int} {said' : List (List UInt8)} (hp : planE n t said rows l = .inr (t', said')) :
    (putR V rows l).2 = 0 ∧ LvOff (putR V rows l).1 n t' said' := by
  unfold planE at hp
  unfold putR
  by_cases hf : (encP l).length ≤ 40000 ∧ endF t said + secN (encP l).length ≤ n
  · rw [if_pos hf] at hp
    cases hp
    rw [if_pos ((fits_lv h.ok _).2 hf)]
    exact app_off h _ hf.1 hf.2
  · rw [if_neg hf] at hp
    rw [if_neg (fun h2 => hf ((fits_lv h.ok _).1 h2))]
    split at hp
    · cases hp
    · split at hp
      · cases hp
      · cases hp
        exact chk_off h ht (encP (behP rows l)) (by omega) (by omega)
theorem plan_opens {n : Nat} {t t' : Int} {said said' : List (List UInt8)} {rows l : List PRow} (hp : planE n t said rows l = .inr (t', said')) (ho : openP said = some rows) (hk : KeptP rows) (hB : batchP l = true) (hl : (behP rows l).length ≤ 64) : openP said' = some (behP rows l) ∧ t' ≤ t + 1 ∧ t ≤ t' := by
  unfold planE at hp
  split at hp
  · cases hp
    exact ⟨openP_snoc ho hB hl, by omega, by omega⟩
  · split at hp
    · cases hp
    · split at hp
      · cases hp
      · cases hp
        exact ⟨openP_one (keptP_beh hk hB) hl, by omega, by omega⟩
end Go.Proofs.YtdakncgafdnjfaaGreat
namespace Go.Proofs.YtdakncgafdnjfaaGreat
open Go Go.Wk
set_option synthInstance.maxSize 100000
set_option synthInstance.maxHeartbeats 400000
set_option maxRecDepth 100000
def EndOk (s : DS) (A B : List PRow) : Prop := ∀ keep, ∃ t said out, Able (crashD keep s) 300 t said ∧ openP said = some out ∧ (out = A ∨ out = B)
structure TwinP (V U : LV) (rows : List PRow) (t : Int) (said : List (List UInt8)) : Prop where
  v : LvOk V 300 t said
  u : LvOff U 300 t said
  kept : KeptP rows
  few : rows.length ≤ 64
  opens : openP said = some rows
theorem TwinP.endOk {V U : LV} {rows : List PRow} {t : Int} {said : List (List UInt8)} (h : TwinP V U rows t said) : EndOk V.s rows rows := fun keep =>
  ⟨t, said, rows, h.v.live.crash keep, h.opens, .inl rfl⟩
theorem twin_new : TwinP (fmtV 300 (newD 602)) (fmtV 300 (newD 602)) [] 0 [[]] := by
  have h := fmt_lv 300 (by omega)
  exact ⟨h.ok, h, keptP_nil, by simp, rfl⟩
theorem twin_put {V U : LV} {rows : List PRow} {t : Int} {said : List (List UInt8)} (h : TwinP V U rows t said) (ht : t + 1 ≤ 4294967295) (l : List PRow) :
    ((putV V rows l).1.broken = false → (putV V rows l).2.2 = (putV U rows l).2.2 ∧ (putV V rows l).2.1 = (putV U rows l).2.1 ∧ ∃ t' said', t' ≤ t + 1 ∧ TwinP (putV V rows l).1 (putV U rows l).1 (putV U rows l).2.1 t' said') ∧
    ((putV V rows l).1.broken = true → (putV U rows l).2.2 = 0 ∧ EndOk (putV V rows l).1.s rows (putV U rows l).2.1) := by
  have hv := h.v.whole
  have hu := h.u.ok.whole
  unfold putV
  have hv' : ¬ V.broken = true := by rw [hv]; simp
  have hu' : ¬ U.broken = true := by rw [hu]; simp
  rw [if_neg hv', if_neg hu']
  by_cases hB : batchP l = false
  · rw [if_pos hB, if_pos hB]
    exact ⟨fun _ => ⟨rfl, rfl, t, said, by omega, h⟩, fun hb => by rw [show V.broken = true from hb] at hv; cases hv⟩
  · rw [if_neg hB, if_neg hB]
    have hB : batchP l = true := by simpa using hB
    by_cases hl : 64 < (behP rows l).length
    · rw [if_pos hl, if_pos hl]
      exact ⟨fun _ => ⟨rfl, rfl, t, said, by omega, h⟩, fun hb => by rw [show V.broken = true from hb] at hv; cases hv⟩
    · rw [if_neg hl, if_neg hl]
      cases hp : planE 300 t said rows l with
      | inl e =>
        obtain ⟨he, h1⟩ := (putR_ok h.v ht rows l).1 e hp
        obtain ⟨-, h2⟩ := (putR_ok h.u.ok ht rows l).1 e hp
        rw [h1, h2]
        simp only [if_neg he]
        exact ⟨fun _ => ⟨trivial, trivial, t, said, by omega, h⟩, fun hb => by rw [hv] at hb; cases hb⟩
      | inr q =>
        obtain ⟨t', said'⟩ := q
        have hw := (putR_ok h.v ht rows l).2 t' said' hp
        obtain ⟨g1, g2⟩ := putR_off h.u ht rows l hp
        obtain ⟨o1, o2, o3⟩ := plan_opens hp h.opens h.kept hB (by omega)
        simp only [g1, if_true]
        by_cases hz : (putR V rows l).2 = 0
        · have hok := hw.yes hz
          simp only [hz, if_true]
          refine ⟨fun _ => ⟨trivial, trivial, t', said', o2, hok, g2, keptP_beh h.kept hB, by omega, o1⟩, fun hb => ?_⟩
          rw [hok.whole] at hb; cases hb
        · obtain ⟨w1, w2⟩ := hw.no hz
          refine ⟨fun hb => ?_, fun _ => ⟨trivial, fun keep => ?_⟩⟩
          · rw [show (putR V rows l).1.broken = true from w1] at hb; cases hb
          · rcases w2 keep with k | k
            · exact ⟨t, said, rows, k, h.opens, .inl rfl⟩
            · exact ⟨t', said', _, k, o1, .inr rfl⟩
theorem i64_leV (n : Int) : IntKind.i64.wrap n ≤ 9223372036854775807 := by
  unfold IntKind.wrap
  simp only [IntKind.bits, IntKind.signed, Bool.true_and]
  by_cases h : n % (2 ^ 64 : Int) ≥ (2 ^ (64 - 1) : Int)
  · rw [if_pos (by simpa using h)]; omega
  · rw [if_neg (by simpa using h)]; omega
theorem setC_okV (n : Int) : (setC (IntKind.i64.wrap n)).ok := fun h => ⟨of_decide_eq_true h, i64_leV n⟩
theorem LvOk.arm {V : LV} {n : Nat} {t : Int} {said : List (List UInt8)} (h : LvOk V n t said) (k : Int) : LvOk { V with s := armD V.s (IntKind.i64.wrap k) } n t said := by
  obtain ⟨q1, q2, q3, q4, q5, q6⟩ := h
  refine ⟨q1, q2, q3, q4, q5, ?_⟩
  obtain ⟨s', hsim, -⟩ := id q6
  show LiveF (armD V.s (IntKind.i64.wrap k)) n t said
  unfold armD
  rw [if_neg (by rw [hsim.on]; exact Bool.false_ne_true)]
  exact LiveF.set q6 V.s.fails _ hsim.okf (setC_okV k)
theorem entO_len : ∀ (bs : List (List UInt8)) (rows out : List PRow), rows.length ≤ 64 → entO rows bs = some out → out.length ≤ 64
  | [], rows, out, hr, h => by rw [entO] at h; cases h; exact hr
  | b :: bs, rows, out, hr, h => by
    rw [entO] at h
    split at h
    · cases h
    · rename_i hc
      exact entO_len bs _ out (Nat.not_lt.1 fun h => hc (.inr h)) h
theorem openP_len {said : List (List UInt8)} {out : List PRow} (h : openP said = some out) : out.length ≤ 64 := by
  cases said with
  | nil => cases h
  | cons b bs =>
    rw [openP] at h
    cases hs : snapO b with
    | none => rw [hs] at h; cases h
    | some r0 =>
      rw [hs] at h
      refine entO_len bs r0 out ?_ h
      unfold snapO at hs
      split at hs
      · cases hs; simp
      · split at hs
        · cases hs
        · cases hs
          have h1 := behP_len [] (decV b).1
          have h2 := decV_len b
          simp at h1; omega
end Go.Proofs.YtdakncgafdnjfaaGreat
namespace Go.Proofs.YtdakncgafdnjfaaGreat
open Go Go.Wk
set_option synthInstance.maxSize 100000
set_option synthInstance.maxHeartbeats 400000
set_option maxRecDepth 100000
theorem lgI_stab {M : Nat → Prop} {w : World} {b g : Nat} {L : LG} (h : Stable M w (lgI b g L).holds) : Stable M w (BoxF g 134 (cWal b L.q L.e L.x)) ∧ Stable M w (GlF L.q L.x.said) ∧ Stable M w (AllBy L.x.said) :=
  ⟨h.imp fun _ h => (BoxF.stable (M := fun _ => False) h.2.1.1 (fun h => h)).now, h.imp fun _ h => (gl_own (M := fun _ => False) h.2.1.2.1.1 (fun _ _ _ _ => trivial) (fun _ _ h => h)).now, h.imp fun _ h y hy => (h.2.1.2.1.2.1 y hy).2⟩
def VOpenR (Mr : Nat → Prop) (b m : Nat) (p : Option Addr) (c : Nat) (s : DS) (v : Value) (w0 w : World) : Prop :=
  (openP (opnV s).said = none ∧ v = .tuple ⟨[.pointer none, .int .i64 290]⟩ ∧ ∃ p' c', (dkI b m p' c' (openF s).1).holds w ∧ ∀ k, (dkI b m p' c' (openF s).1).foot k → (dkI b m p c s).foot k ∨ w0.heap.size ≤ k) ∨
  (∃ h g V, openP (opnV s).said = some (rsP V.xs) ∧ v = .tuple ⟨[.pointer (some ⟨h, 0, none⟩), .int .i64 0]⟩ ∧ V.L.m = m ∧ V.L.v = opnV s ∧ (vtI h b g V).holds w ∧ (∀ k, (vtI h b g V).foot k → (dkI b m p c s).foot k ∨ w0.heap.size ≤ k) ∧ Stable (fun k => (vtI h b g V).foot k ∨ Mr k) w (AllI V.xs))
theorem vopen_ok (b m : Nat) (p : Option Addr) (c : Nat) (s : DS) (Mr : Nat → Prop) (hl : s.loose.length ≤ 980000) (h0 : (openF s).2.1 = 0) (w0 : World) (hMr : ∀ k, Mr k → k < w0.heap.size ∧ ¬ (dkI b m p c s).foot k) (hd : (dkI b m p c s).holds w0) :
    Ret Tryz.prog 24 [.pointer (some ⟨b, 0, none⟩)] w0 (dkI b m p c s).foot fun v w' => VOpenR Mr b m p c s v w0 w' := by
  refine enterM Tryz.func24 rfl rfl (Wd.itLentM (x := dkI b m p c s) (Mr := Mr) (fs := []) hd hMr (by simp)) (fun a S => ?_)
  simp only [Tryz.ntmps24, List.length_cons, List.length_nil, Nat.reduceAdd, Nat.reduceSub, List.replicate_succ, List.replicate_zero, List.cons_append, List.nil_append] at S
  refine c_seq ?_
  refine c_region ?_
  refine sa S ?_; clear S; intro b2 a w S
  refine sa S ?_; clear S; intro b3 a w S
  refine wl_nil ?_
  refine xtn ?_
  refine c_seq ?_
  refine c_region ?_
  refine sq S ?_; clear S; intro a S
  refine sit (dkI b m p c s) S (openV_c b m p c s hl _ (S.it (dkI b m p c s))) rfl ?_; clear S; rintro _ a w (⟨h, -⟩ | ⟨-, g, L, rfl, hLm, hLv, hh, hf⟩) hS
  · exact absurd h0 h
  have S := hS (lgI b g L) hh hf
  clear hS
  iterate 5 (refine sq S ?_; clear S; intro a S)
  refine wl_nil ?_
  refine xtn ?_
  iterate 2 (refine c_seq ?_)
  refine c_region ?_
  iterate 2 (refine sq S ?_; clear S; intro a S)
  refine wl_nil ?_
  refine xtn ?_
  refine c_condF S ?_
  refine c_skip ?_
  refine xtn ?_
  refine c_seq ?_
  have hwf := opnV_wf h0
  rw [← hLv] at hwf
  have hown := S.itNew (lgI b g L) rfl
  have hcap := lg_cap (S.it (lgI b g L))
  obtain ⟨bs, r, hr⟩ : ∃ bs r, L.v.said = bs :: r := by
    have h4 := hwf.some_
    cases h : L.v.said with
    | nil => rw [h] at h4; simp at h4
    | cons b0 r => exact ⟨b0, r, rfl⟩
  have hbsl : bs.length ≤ 40000 := hwf.short bs (by rw [hr]; exact .head _)
  have hop : openP (opnV s).said = (match snapO bs with | none => none | some rows => entO rows r) := by rw [← hLv, hr]; rfl
  refine c_region ?_
  iterate 2 (refine sq S ?_; clear S; intro a S)
  refine sa S ?_; clear S; intro b25 a w S
  refine sa S ?_; clear S; intro b6 a w S
  refine sw S ?_; clear S; intro a w S
  refine wl_nil ?_
  refine xtn ?_
  refine c_mrge3 S (fun (xs : List LRow) (p' : Option Addr) (c' : Nat) uu => [(7, uu 7), (0, uu 8), (0, uu 9), (0, uu 10), (15, uu 26), (0, uu 27), (0, uu 28), (0, uu 29), (0, uu 30), (0, uu 31), (0, uu 32), (0, uu 33), (0, uu 34), (0, uu 35), (0, uu 36), (0, uu 37), (0, uu 38), (0, uu 39), (0, uu 40), (0, uu 41), (0, uu 42), (0, uu 43), (0, uu 44), (0, uu 45), (0, uu 46), (0, uu 47), (0, uu 48), (0, uu 49), (0, uu 50), (0, uu 51), (0, uu 52)]) (fun (xs : List LRow) (p' : Option Addr) (c' : Nat) => [Wk.box b25 144 [.pointer (some ⟨g, 0, none⟩), .slice p' xs.length c'], Wk.row 150 6 p' xs.length c' (encL xs), Wk.box b6 47 [.pointer (some ⟨b25, 0, none⟩)], Wk.box b3 26 [.int .i64 0], Wk.box b2 47 [.pointer none], marks [], lgI b g L, ext Mr]) (fun (xs : List LRow) (p' : Option Addr) (c' : Nat) => [AllI xs]) (fun (xs : List LRow) (p' : Option Addr) (c' : Nat) => snapO bs = some (rsP xs) ∧ xs.length ≤ 64 ∧ SortedP (rsP xs)) ?_ ?_
  · refine c_seq ?_
    refine c_region ?_
    refine sq S ?_; clear S; intro a S
    refine srn S (snap_v b g L _ hwf _ (S.it (lgI b g L))) ?_; clear S; rintro _ a w ⟨bs', p1, c1, hb0, rfl, hrow, hnew⟩ hS -
    have S := hS hrow hnew
    clear hS
    obtain rfl : bs = bs' := by rw [hr] at hb0; simpa using hb0
    replace S := S.rowToGl p1 bs (e := 5) (sz := 1) (n := bs.length) (c := c1) (fun _ _ _ _ => trivial)
    refine sq S ?_; clear S; intro a S
    refine wl_nil ?_
    refine xtn ?_
    refine c_seq ?_
    refine c_region ?_
    iterate 3 (refine sq S ?_; clear S; intro a S)
    refine wl_nil ?_
    refine xtn ?_
    refine c_cond S (fun h6 => ?_) (fun h6 => ?_)
    · refine c_seq ?_
      refine c_region ?_
      refine sq S ?_; clear S; intro a S
      have hbs0 : bs ≠ [] := fun h => by rw [h] at h6; simp at h6
      refine sr S (vdec_c bs p1 bs.length c1 _ w rfl (by omega) (foots_lt S) (S.mem.fact (GlF p1 bs))) ?_; clear S; rintro _ a w ⟨ys, p7, c7, e7, rfl, hy1, hy2, hyf, hyc, hyn⟩ S
      replace S := S.add hyf
      have hyl : ys.length ≤ 64 := by have := decV_len bs; rw [← hy1, rsP_lenK] at this; exact this
      iterate 5 (refine sq S ?_; clear S; intro a S)
      refine wl_nil ?_
      refine xtn ?_
      refine c_seq ?_
      refine c_region ?_
      refine sq S ?_; clear S; intro a S
      refine sr S (issorted_c ys p7 ys.length c7 _ rfl (by omega) (S.gl0 p7)) ?_; clear S; rintro _ a w rfl S
      refine sq S ?_; clear S; intro a S
      refine wl_nil ?_
      refine xtn ?_
      iterate 2 (refine c_seq ?_)
      refine c_region ?_
      iterate 3 (refine sq S ?_; clear S; intro a S)
      iterate 2 (refine gQ S ?_; clear S; intro a S)
      iterate 2 (refine sq S ?_; clear S; intro a S)
      refine gS S (fun hs9 S => ?_) (fun hs9 S => ?_)
      · refine gF' S ?_; clear S; intro a S
        refine gF' S ?_; clear S; intro a S
        refine sq S ?_; clear S; intro a S
        refine wl_nil ?_
        refine xtn ?_
        refine c_condT S ?_
        refine c_seq ?_
        refine c_region ?_
        iterate 2 (refine sw S ?_; clear S; intro a w S)
        refine wl_nil ?_
        refine xtn ?_
        refine c_ret ?_
        iterate 2 (refine xtr ?_)
        have hno : snapO bs = none := by
          rw [snapO, if_neg hbs0, if_pos]
          rw [← hy1, ← hy2]
          by_cases h1 : e7 = 0
          · refine .inr (.inl ?_)
            rw [h1] at hs9
            simpa using hs9
          · exact .inl h1
        have hs : L.s = (openF s).1 := congrArg LV.s hLv
        subst hLm
        refine endM2 S (fun w hw => .inl ⟨by rw [hop, hno], rfl, L.p, L.c, ?_⟩)
        have hd := (hw.held (lgI b g L) (by simp)).1
        rw [← hs]
        exact ⟨hd, fun k hk => hown k (.inl hk)⟩
      · refine gT' S ?_
        refine sq S ?_; clear S; intro a S
        refine gT' S ?_
        refine sr S (containsRow_c 91 [] (fun x => goneP x.r) ys p7 ys.length c7 _ rfl (by omega) (S.gl0 p7) fun x hx w' hw' => vopen2_c x w' (((S.mem.fact (GlF p7 ys)).less (fun _ _ h => h.elim)).later hw' |>.imp fun _ h => h.2 x hx)) ?_; clear S; rintro _ a w rfl S
        refine sq S ?_; clear S; intro a S
        refine wl_nil ?_
        refine xtn ?_
        refine c_cond S (fun h9 => ?_) (fun h9 => ?_)
        · refine c_seq ?_
          refine c_region ?_
          iterate 2 (refine sw S ?_; clear S; intro a w S)
          refine wl_nil ?_
          refine xtn ?_
          refine c_ret ?_
          iterate 2 (refine xtr ?_)
          have hno : snapO bs = none := by
            rw [snapO, if_neg hbs0, if_pos]
            rw [← hy1, ← hy2]
            refine .inr (.inr ?_)
            rw [rsP, List.any_map]; exact h9
          have hs : L.s = (openF s).1 := congrArg LV.s hLv
          subst hLm
          refine endM2 S (fun w hw => .inl ⟨by rw [hop, hno], rfl, L.p, L.c, ?_⟩)
          have hd := (hw.held (lgI b g L) (by simp)).1
          rw [← hs]
          exact ⟨hd, fun k hk => hown k (.inl hk)⟩
        · refine c_skip ?_
          refine xtn ?_
          refine c_drawL 5 [(0, true), (1, true), (2, false), (3, false), (4, true), (5, false)] [Wk.box b6 47 [.pointer (some ⟨b25, 0, none⟩)]] S ?_; clear S; intro w S
          iterate 2 (refine dqL S ?_; clear S; intro a S)
          refine dlL ?_
          refine srn S (vbehind_c [] none 0 ys p7 c7 _ (by simp) (by omega) (fun _ _ => gl_nil) (S.gl0 p7) .nil) ?_; clear S; rintro _ a w ⟨zs, p8, c8, rfl, hown8, hnew8, hzs, hmem⟩ hS -
          have S := hS hown8 hnew8
          clear hS
          replace S := S.add (Φ := AllI zs) (fun w' hw' y hy => (hmem y hy).elim (fun h => by cases h) (fun h => (S.wd.facts (GlF p7 ys) (by simp) w' hw').2 y h))
          refine deL S ?_
          refine dlL ?_
          refine sq S ?_; clear S; intro a S
          refine deL S ?_
          refine dqL S ?_; clear S; intro a S
          refine dlL ?_
          refine sw S ?_; clear S; intro a w S
          refine dzL ?_
          refine xtn ?_
          have hcond : e7 = 0 ∧ risesP (rsP ys) = true ∧ (rsP ys).any goneP = false := by
            refine ⟨?_, ?_, by rw [rsP, List.any_map]; exact h9⟩
            · by_cases h1 : e7 = 0
              · exact h1
              · rw [decide_eq_false h1] at hs9; simp at hs9
            · cases h2 : risesP (rsP ys) with
              | true => rfl
              | false => rw [h2] at hs9; simp at hs9
          replace S := ((((((S.front (ext Mr)).front (lgI b g L)).front (marks [])).front (Wk.box b2 47 [.pointer none])).front (Wk.box b3 26 [.int .i64 0])).front (Wk.box b6 47 [.pointer (some ⟨b25, 0, none⟩)]))
          replace S := (S.front (Wk.row 150 6 p8 zs.length c8 (encL zs))).front (Wk.box b25 144 [.pointer (some ⟨g, 0, none⟩), .slice p8 zs.length c8])
          refine ⟨zs, p8, c8, S.uu, ⟨?_, ?_, ?_⟩, S.sub _ _⟩
          · rw [snapO, if_neg hbs0, if_neg, hzs, hy1]; rfl
            rw [← hy1, ← hy2]
            rintro (h | h | h)
            · exact h hcond.1
            · rw [hcond.2.1] at h; cases h
            · rw [hcond.2.2] at h; cases h
          · have h1 := behP_len (rsP []) (rsP ys)
            rw [← hzs, rsP_lenK, rsP_lenK, rsP_lenK] at h1
            simp at h1; omega
          · rw [hzs]; exact behP_sorted _ _ .nil
    · refine c_skip ?_
      refine xtn ?_
      have hbs0 : bs = [] := by
        cases hb : bs with
        | nil => rfl
        | cons x l => rw [hb] at h6; simp at h6
      replace S := S.addNil 150 6
      replace S := S.add (Φ := AllI ([] : List LRow)) (fun _ _ _ hx => by cases hx)
      rw [show Wk.row 150 6 none 0 0 [] = Wk.row 150 6 none 0 0 (encL ([] : List LRow)) from rfl] at S
      replace S := ((((((S.front (ext Mr)).front (lgI b g L)).front (marks [])).front (Wk.box b2 47 [.pointer none])).front (Wk.box b3 26 [.int .i64 0])).front (Wk.box b6 47 [.pointer (some ⟨b25, 0, none⟩)]))
      replace S := (S.front (Wk.row 150 6 none 0 0 (encL ([] : List LRow)))).front (Wk.box b25 144 [.pointer (some ⟨g, 0, none⟩), .slice none 0 0])
      exact ⟨[], none, 0, S.uu, ⟨by rw [snapO, if_pos hbs0]; rfl, by simp, .nil⟩, S.sub _ _⟩
  · clear S; rintro xs p' c' uu a w ⟨hsn, hx64, hup⟩ S
    iterate 2 (refine c_seq ?_)
    refine c_region ?_
    refine sq S ?_; clear S; intro a S
    have hL0 : 0 < L.x.said.length := by have := hwf.some_; rwa [v_len] at this
    have hL1 : L.x.said.length ≤ 1000000 := by have h1 := hwf.few; have h2 := hwf.fin; have h3 := hwf.n; rw [v_len] at h1; omega
    obtain ⟨came, hcame⟩ : ∃ came, came = L.x.said.drop 1 := ⟨_, rfl⟩
    have hcl : came.length = L.x.said.length - 1 := by rw [hcame, List.length_drop]
    have hcb : ∀ y ∈ came, y.bs.length ≤ 1000000 := fun y hy => by have := hwf.short y.bs (List.mem_map_of_mem (List.mem_of_mem_drop (hcame ▸ hy))); omega
    have hcr : bsL came = r := by
      have : L.v.said = bsL L.x.said := rfl
      rw [hcame, bsL, List.map_drop, ← bsL, ← this, hr]; rfl
    have hlt := foots_lt S
    refine sr S (all_c g b L.q L.e L.x hL0 hcap _ (BoxF.stable (S.it (lgI b g L)).2.1.1 (fun h => h))) ?_; clear S; rintro _ a w ⟨h2, rfl, n0, e0⟩ S
    replace S := S.add (Φ := BoxF h2 33 [.slice (if L.e = 1 then L.q else L.q.map (·.add (1 * 1))) (L.x.said.length - 1) (L.e - 1)]) (BoxF.stable e0 (fun hm => by have := hlt _ hm; omega))
    rw [← hcl] at S
    obtain ⟨q2, hq2⟩ : ∃ q2, q2 = (if L.e = 1 then L.q else L.q.map (·.add (1 * 1))) := ⟨_, rfl⟩
    rw [← hq2] at S
    refine wl_nil ?_
    refine xtn ?_
    refine c_block ?_
    replace S := S.toRo (x := lgI b g L)
    replace S := S.sub [Wk.box b25 144 [.pointer (some ⟨g, 0, none⟩), .slice p' xs.length c'], Wk.row 150 6 p' xs.length c' (encL xs), Wk.box b6 47 [.pointer (some ⟨b25, 0, none⟩)], Wk.box b3 26 [.int .i64 0], Wk.box b2 47 [.pointer none], marks [], (lgI b g L).ro, ext Mr] [BoxF h2 33 [.slice q2 came.length (L.e - 1)], AllI xs]
    replace S := (S.add (Φ := AllI xs) (S.wd.facts (AllI xs) (by simp))).sub [Wk.box b25 144 [.pointer (some ⟨g, 0, none⟩), .slice p' xs.length c'], Wk.row 150 6 p' xs.length c' (encL xs), Wk.box b6 47 [.pointer (some ⟨b25, 0, none⟩)], Wk.box b3 26 [.int .i64 0], Wk.box b2 47 [.pointer none], marks [], (lgI b g L).ro, ext Mr] [AllI xs, BoxF h2 33 [.slice q2 came.length (L.e - 1)]]
    refine c_range (κ := Option Addr × Nat × List LRow) (κx := Unit) (Ds := []) (toldL came)
      (fun _ k => [Wk.box b25 144 [.pointer (some ⟨g, 0, none⟩), .slice k.1 k.2.2.length k.2.1], Wk.row 150 6 k.1 k.2.2.length k.2.1 (encL k.2.2), Wk.box b6 47 [.pointer (some ⟨b25, 0, none⟩)], Wk.box b3 26 [.int .i64 0], Wk.box b2 47 [.pointer none], marks [], (lgI b g L).ro, ext Mr])
      (fun _ k => [AllI k.2.2, BoxF h2 33 [.slice q2 came.length (L.e - 1)]])
      (fun i k => entO (rsP xs) r = entO (rsP k.2.2) (r.drop i) ∧ k.2.2.length ≤ 64 ∧ SortedP (rsP k.2.2))
      (fun _ => [Wk.box b3 26 [.int .i64 290], Wk.box b2 47 [.pointer none], marks [], (lgI b g L).ro, ext Mr])
      (fun _ => []) (fun cd _ => cd = .ret ∧ entO (rsP xs) r = none) (p', c', xs) S
      (fun M w1 hM hF hro => by
        obtain ⟨z1, z2, z3⟩ := lgI_stab (b := b) (g := g) (L := L) (hro (lgI b g L).ro (by simp) rfl)
        exact all_it h2 came q2 (L.e - 1) (by omega) hcb w1 M hM (hF _ (by simp)) (z2.imp fun _ h => by rw [hq2, hcame]; exact h.drop 1 hcap) (z3.imp fun _ h y hy => h y (by rw [hcame] at hy; exact List.mem_of_mem_drop hy))) ⟨⟨rfl, hx64, hup⟩, rfl, rfl⟩ ?_ ?_ ?_ ?_
    · clear S
      rintro L2 D bL M' w1 i z vs ⟨pk, ck, xk⟩ W0 w hz ⟨hrel, hxk, hupk⟩ hW0 hgr ⟨p2, c2, rfl, hown2, hnew2⟩
      obtain ⟨hi, rfl⟩ := told_get hz
      obtain ⟨y2, hy2e⟩ : ∃ y2 : LBy, y2 = ⟨p2, c2, (nthG came i).bs⟩ := ⟨_, rfl⟩
      have hent : (entI [y2]).holds w := by rw [hy2e]; exact ent_row (y := ⟨p2, c2, (nthG came i).bs⟩) hown2
      have hwd := hW0.addItem hgr hent (fun k ⟨u, hu, ad, hp, hk⟩ => by
        obtain rfl := List.mem_singleton.1 hu
        rw [hy2e] at hp
        exact hk ▸ hnew2 ad hp) (ItOk.lt w hent) ItOk.loc
      have hx : r[i]? = some (nthG came i).bs := by rw [← hcr, bsL, List.getElem?_map, nthG_get hi]; rfl
      have hil := (List.getElem?_eq_some_iff.1 hx).1
      have hdr : r.drop i = (nthG came i).bs :: r.drop (i + 1) := by rw [List.drop_eq_getElem_cons hil, (List.getElem?_eq_some_iff.1 hx).2]
      have hbl2 : (nthG came i).bs.length ≤ 1000000 := hcb _ (nthG_mem hi)
      obtain ⟨bs2, hbs2⟩ : ∃ bs2, bs2 = (nthG came i).bs := ⟨_, rfl⟩
      rw [← hbs2] at hdr hy2e hbl2
      rw [hdr, entO] at hrel
      refine ⟨_, inferInstance, fun a S => ?_⟩
      replace S : St w1 M' [] a w _ (entI [y2] :: lpI L2 D (lpR bL .ready none) :: _) _ := ⟨S.slots, S.defers, hwd⟩
      replace S := St.entFact S [y2]
      replace S := S.add (Φ := GlF p2 bs2) ((S.mem.fact (AllBy [y2])).imp fun _ h => by have := h y2 (by simp); rw [hy2e] at this; exact this)
      rw [← hbs2] at S
      dsimp only at S hrel hxk hupk
      refine c_region ?_
      refine sq S ?_; clear S; intro a S
      refine wl_nil ?_
      refine xtn ?_
      refine rbegin (D := D) (b := bL) S ?_; clear S; intro a w S
      refine c_block ?_
      refine c_seq ?_
      refine c_region ?_
      refine sq S ?_; clear S; intro a S
      refine sr S (vdec_c bs2 p2 bs2.length c2 _ _ rfl (by omega) (foots_lt S) (S.mem.fact (GlF p2 bs2))) ?_; clear S; rintro _ a w ⟨ys, p14, c14, e14, rfl, hy1, hy2, hyf, hyc, hyn⟩ S
      replace S := S.add hyf
      have hyl : ys.length ≤ 64 := by have := decV_len bs2; rw [← hy1, rsP_lenK] at this; exact this
      rw [← hy1, ← hy2] at hrel
      iterate 5 (refine sq S ?_; clear S; intro a S)
      refine wl_nil ?_
      refine xtn ?_
      refine c_seq ?_
      refine c_drawL 9 [(0, true), (1, true), (2, true), (3, true), (4, true), (5, true), (6, false), (7, false), (8, true), (9, false)] [Wk.box b25 144 [.pointer (some ⟨g, 0, none⟩), .slice pk xk.length ck], Wk.box b6 47 [.pointer (some ⟨b25, 0, none⟩)]] S ?_; clear S; intro w S
      iterate 6 (refine dqL S ?_; clear S; intro a S)
      refine dlL ?_
      refine srn S (vbehind_c xk pk ck ys p14 c14 _ (by omega) (by omega) (gl_own (S.row pk xk.length) ((S.mem.fact (AllI xk)).less fun _ _ h => h.elim) (fun _ _ h => h)) (S.gl0 p14) hupk) ?_; clear S; rintro _ a w ⟨zs, p15, c15, rfl, hown15, hnew15, hzs, hmem⟩ hS -
      have S := hS hown15 hnew15
      clear hS
      replace S := S.add (Φ := AllI zs) (fun w' hw' y hy => (hmem y hy).elim (fun h => S.wd.facts (AllI xk) (by simp) w' hw' y h) (fun h => (S.wd.facts (GlF p14 ys) (by simp) w' hw').2 y h))
      refine deL S ?_
      refine dlL ?_
      refine sq S ?_; clear S; intro a S
      refine deL S ?_
      refine dqL S ?_; clear S; intro a S
      refine dlL ?_
      refine sw S ?_; clear S; intro a w S
      refine dzL ?_
      refine xtn ?_
      refine c_seq ?_
      refine c_region ?_
      iterate 3 (refine sq S ?_; clear S; intro a S)
      iterate 6 (refine gQ S ?_; clear S; intro a S)
      refine sq S ?_; clear S; intro a S
      refine wl_nil ?_
      refine xtn ?_
      refine c_cond S (fun h16 => ?_) (fun h16 => ?_)
      · refine c_seq ?_
        refine c_region ?_
        iterate 2 (refine sw S ?_; clear S; intro a w S)
        refine wl_nil ?_
        refine xtn ?_
        refine c_ret ?_
        refine xbr ?_
        have hno : entO (rsP xs) r = none := by
          rw [hrel, if_pos]
          rw [← hzs, rsP_lenK]
          by_cases h1 : e14 = 0
          · refine .inr ?_
            rw [h1] at h16
            simp at h16; omega
          · exact .inl h1
        exact rret (D := D) (b := bL) (S.sub [lpI L2 D (lpR bL .busy none), Wk.box b3 26 [.int .i64 290], Wk.box b2 47 [.pointer none], marks [], (lgI b g L).ro, ext Mr] []) fun W hW => ⟨.inl rfl, (), ⟨rfl, hno⟩, hW⟩
      · refine c_skip ?_
        refine xbn ?_
        have hok : e14 = 0 ∧ zs.length ≤ 64 := by
          by_cases h1 : e14 = 0
          · refine ⟨h1, ?_⟩
            rw [h1] at h16
            simp at h16; omega
          · rw [decide_eq_false h1] at h16; simp at h16
        have hrel2 : entO (rsP xs) r = entO (rsP zs) (r.drop (i + 1)) := by
          rw [hrel, if_neg, hzs]
          rw [← hzs, rsP_lenK]
          rintro (h | h)
          · exact h hok.1
          · omega
        replace S := (((((((((S.front (ext Mr)).front ((lgI b g L).ro)).front (marks [])).front (Wk.box b2 47 [.pointer none])).front (Wk.box b3 26 [.int .i64 0])).front (Wk.box b6 47 [.pointer (some ⟨b25, 0, none⟩)])).front (Wk.row 150 6 p15 zs.length c15 (encL zs))).front (Wk.box b25 144 [.pointer (some ⟨g, 0, none⟩), .slice p15 zs.length c15])).front (lpI L2 D (lpR bL .busy none)))
        exact rnext (D := D) (b := bL) (S.sub [lpI L2 D (lpR bL .busy none), Wk.box b25 144 [.pointer (some ⟨g, 0, none⟩), .slice p15 zs.length c15], Wk.row 150 6 p15 zs.length c15 (encL zs), Wk.box b6 47 [.pointer (some ⟨b25, 0, none⟩)], Wk.box b3 26 [.int .i64 0], Wk.box b2 47 [.pointer none], marks [], (lgI b g L).ro, ext Mr] [AllI zs, BoxF h2 33 [.slice q2 came.length (L.e - 1)]]) fun W hW => ⟨(p15, c15, zs), ⟨hrel2, hok.2, by rw [hzs]; exact behP_sorted _ _ hupk⟩, hW⟩
    · clear S
      rintro D ⟨pk, ck, xk⟩ a w ⟨hrel, hxk, hupk⟩ S
      have hlen : (toldL came).length = r.length := by rw [← hcr]; simp [toldL, bsL]
      rw [hlen] at hrel
      simp only [List.drop_length, entO] at hrel
      dsimp only at S hrel hxk hupk
      replace S := S.join (Ds := [])
      replace S := S.unRo (x := lgI b g L) hown
      refine xbn ?_
      refine xtn ?_
      refine c_seq ?_
      refine c_region ?_
      refine sq S ?_; clear S; intro a S
      iterate 2 (refine sw S ?_; clear S; intro a w S)
      refine wl_nil ?_
      refine xtn ?_
      refine c_ret ?_
      subst hLm
      replace S := (((S.front (rwI ⟨L, pk, ck, xk⟩)).front (lgI b g L)).toBoth.front (Wk.box b25 144 (cVt g ⟨L, pk, ck, xk⟩))).toBoth
      refine endM2 S (fun w hw => .inr ⟨b25, g, ⟨L, pk, ck, xk⟩, by rw [hop, hsn]; exact hrel, rfl, rfl, hLv, hw.held (vtI b25 b g ⟨L, pk, ck, xk⟩) (by simp), hw.own (vtI b25 b g ⟨L, pk, ck, xk⟩) (by simp) rfl, ?_⟩)
      exact (hw.facts (AllI xk) (by simp)).less fun k _ hk => hk.elim (fun h => ⟨vtI b25 b g ⟨L, pk, ck, xk⟩, by simp, h⟩) (fun h => ⟨ext Mr, by simp, h⟩)
    · rintro D _ a w ⟨-, hno⟩ S
      replace S := S.join (Ds := [])
      replace S := S.unRo (x := lgI b g L) hown
      repeat (first | refine xbr ?_ | refine xtr ?_)
      have hs : L.s = (openF s).1 := congrArg LV.s hLv
      subst hLm
      refine endM2 S (fun w hw => .inl ⟨by rw [hop, hsn]; exact hno, rfl, L.p, L.c, ?_⟩)
      have hd := (hw.held (lgI b g L) (by simp)).1
      rw [← hs]
      exact ⟨hd, fun k hk => hown k (.inl hk)⟩
    · rintro id D _ a w ⟨h, -⟩; cases h
end Go.Proofs.YtdakncgafdnjfaaGreat
namespace Go.Proofs.YtdakncgafdnjfaaGreat
open Go Go.Wk
set_option synthInstance.maxSize 100000
set_option synthInstance.maxHeartbeats 400000
set_option maxRecDepth 100000
theorem same19b_c (xs ys : List LRow) (p q : Option Addr) (n m c d : Nat) (w0 : World) (hn : xs.length = n) (hm : ys.length = m) (hl : n ≤ 9223372036854775807) (hx : Stable (fun _ => False) w0 (GlF p xs)) (hy : Stable (fun _ => False) w0 (GlF q ys)) :
    Ret Tryz.prog 16 [.slice p n c, .slice q m d] w0 (fun _ => False) fun v _ => ∃ b, v = .bool b ∧ (rsP xs = rsP ys → b = true) := by
  subst hn
  subst hm
  refine enter Tryz.func16 rfl rfl (Wd.begin (fs := [GlF p xs, GlF q ys]) (by simp; exact ⟨hx, hy⟩)) (fun a S => ?_)
  simp only [Tryz.ntmps16, List.length_cons, List.length_nil, Nat.reduceAdd, Nat.reduceSub, List.replicate_succ, List.replicate_zero, List.cons_append, List.nil_append] at S
  refine c_seq ?_
  refine c_region ?_
  refine sq S ?_; clear S; intro a S
  refine wl_nil ?_
  refine xtn ?_
  iterate 2 (refine c_seq ?_)
  refine c_region ?_
  iterate 5 (refine sq S ?_; clear S; intro a S)
  refine wl_nil ?_
  refine xtn ?_
  refine c_cond S (fun h1 => ?_) (fun h1 => ?_)
  · refine c_seq ?_
    refine c_region ?_
    refine sq S ?_; clear S; intro a S
    refine wl_nil ?_
    refine xtn ?_
    refine c_ret ?_
    refine xtr ?_
    refine end1 S (fun _ => ⟨false, rfl, fun he => ?_⟩)
    have := congrArg List.length he
    simp only [rsP, List.length_map] at this
    simp at h1
    omega
  · refine c_skip ?_
    refine xtn ?_
    iterate 2 (refine c_seq ?_)
    have hlen : xs.length = ys.length := by simp at h1; omega
    refine c_region ?_
    iterate 3 (refine sq S ?_; clear S; intro a S)
    refine wl_nil ?_
    refine xtn ?_
    refine c_block ?_
    refine c_forb1 S (fun (k : Nat) uu => [(4, uu 4), (0, uu 5), (7, .int .i64 (k : Nat)), (0, uu 14), (0, uu 15), (0, uu 16), (0, uu 17), (0, uu 18), (0, uu 19), (0, uu 20), (0, uu 21), (0, uu 22), (0, uu 23), (0, uu 24), (0, uu 25), (0, uu 26), (0, uu 27), (0, uu 28), (0, uu 29), (0, uu 30), (0, uu 31), (0, uu 32), (0, uu 33), (0, uu 34), (0, uu 35), (0, uu 36), (0, uu 37), (0, uu 38), (0, uu 39), (0, uu 40), (0, uu 41)]) (fun (k : Nat) => k ≤ xs.length) (fun (k : Nat) => xs.length - k) (0) ?_ S.uu ?_ ?_
    · exact Nat.zero_le _
    · first | exact S | exact S.sub _ _
    · clear S; rintro k uu a w hk S
      refine c_seq ?_
      refine c_region ?_
      refine sq S ?_; clear S; intro a S
      refine wl_nil ?_
      refine xtn ?_
      refine c_seq ?_
      refine c_cond S (fun h4 => ?_) (fun h4 => ?_)
      · refine c_skip ?_
        refine xtn ?_
        refine c_seq ?_
        refine c_block ?_
        refine c_seq ?_
        have hkl : k < xs.length := by simp at h4; omega
        have hK : KLt k xs.length := ⟨hkl⟩
        have hK2 : KLt k ys.length := ⟨by omega⟩
        refine c_region ?_
        iterate 2 (refine sq S ?_; clear S; intro a S)
        refine wl_nil ?_
        refine xtn ?_
        refine c_seq ?_
        refine c_drawD [(0, true), (1, true), (2, true), (3, true), (4, true), (5, true), (6, true), (7, true), (8, true), (9, true), (10, true), (11, true), (12, true), (13, true), (14, true), (15, true), (16, true), (17, true), (18, true), (19, true), (20, true), (21, true), (22, false), (23, true), (24, true)] [] S ?_; clear S; intro w S
        iterate 12 (refine dq S ?_; clear S; intro a S)
        iterate 10 (refine dqG S ?_; clear S; intro a S)
        refine dl ?_
        refine gC S ?_; clear S; intro a w S
        refine de S ?_
        refine dqG S ?_; clear S; intro a S
        refine dq S ?_; clear S; intro a S
        refine dn ?_
        refine xtn ?_
        refine c_cond S (fun h6 => ?_) (fun h6 => ?_)
        · refine c_seq ?_
          refine c_region ?_
          refine sq S ?_; clear S; intro a S
          refine wl_nil ?_
          refine xtn ?_
          refine c_ret ?_
          refine xbr ?_
          iterate 2 (refine xtr ?_)
          refine xbr ?_
          refine xtr ?_
          refine end1 S (fun _ => ⟨false, rfl, fun he => ?_⟩)
          have h1 : (rsP xs)[k]? = some (nthG xs k).r := by rw [rsP, List.getElem?_map, nthG_get hkl]; rfl
          have h2 : (rsP ys)[k]? = some (nthG ys k).r := by rw [rsP, List.getElem?_map, nthG_get (by omega)]; rfl
          rw [he, h2] at h1
          have hr := (Option.some.inj h1).symm
          rw [show (nthG xs k).name = (nthG ys k).name from congrArg PRow.name hr, show (nthG xs k).term.t = (nthG ys k).term.t from congrArg PRow.term hr, (sameF_iff _ _).2 rfl] at h6
          simp at h6
        · refine c_skip ?_
          refine xbn ?_
          refine xtn ?_
          refine c_region ?_
          iterate 2 (refine sq S ?_; clear S; intro a S)
          refine wl_nil ?_
          refine xtn ?_
          rw [w64 ((k : Int) + 1) (by omega) (by omega)] at S
          exact ⟨k + 1, S.uu, hkl, S.sub _ _, by omega⟩
      · refine c_exit ?_
        iterate 2 (refine xte ?_)
        refine xbe ?_
        refine xtn ?_
        refine c_seq ?_
        refine c_region ?_
        refine sq S ?_; clear S; intro a S
        refine wl_nil ?_
        refine xtn ?_
        refine c_ret ?_
        exact end1 S (fun _ => ⟨true, rfl, fun _ => rfl⟩)
structure TW where
  V : VT
  U : VT
  ws : List LRow
  pw : Option Addr
  cw : Nat
  ns : List LRow
  pn : Option Addr
  cn : Nat
theorem vt_facts {h b g : Nat} {V : VT} {w : World} (hd : (vtI h b g V).holds w) (hA : Stable (fun _ => False) w (AllI V.xs)) : Stable (fun _ => False) w (BoxF h 144 (cVt g V)) ∧ Stable (fun _ => False) w (GlF V.p V.xs) :=
  ⟨BoxF.stable hd.1 (fun h => h), gl_own hd.2.1.2.1 hA (fun _ _ h => h)⟩
theorem vlasts_c (l : List (Sl LRow)) (pl : Option Addr) (cl : Nat) (arm : Int) (keep : List Bool) (pk : Option Addr) (ck : Nat) (w0 : World) (hll : l.length ≤ 9223372036854775807) (hkl : keep.length ≤ 9223372036854775807) (hx : Stable (fun _ => False) w0 (GlF pl l)) (hy : Stable (fun _ => False) w0 (GlF pk keep)) :
    Ret Tryz.prog 6 [.slice pl l.length cl, .int .i64 arm, .slice pk keep.length ck] w0 (fun _ => False) fun v _ => v = .bool true := by
  have h300 := (format_live 300 (by omega)).1
  refine enter Tryz.func6 rfl rfl (Wd.begin (fs := [GlF pl l, GlF pk keep]) (by simp; exact ⟨hx, hy⟩)) (fun a S => ?_)
  simp only [Tryz.ntmps6, List.length_cons, List.length_nil, Nat.reduceAdd, Nat.reduceSub, List.replicate_succ, List.replicate_zero, List.cons_append, List.nil_append] at S
  refine c_seq ?_
  refine c_region ?_
  refine sq S ?_; clear S; intro a S
  refine wl_nil ?_
  refine xtn ?_
  iterate 2 (refine c_seq ?_)
  refine c_region ?_
  refine sr S (vwakes_c _) ?_; clear S; rintro _ a w rfl S
  refine sq S ?_; clear S; intro a S
  refine wl_nil ?_
  refine xtn ?_
  refine c_condF S ?_
  refine c_skip ?_
  refine xtn ?_
  iterate 2 (refine c_seq ?_)
  refine c_region ?_
  iterate 3 (refine sq S ?_; clear S; intro a S)
  refine wl_nil ?_
  refine xtn ?_
  refine c_cond S (fun h3 => ?_) (fun h3 => ?_)
  · refine c_seq ?_
    refine c_region ?_
    refine sq S ?_; clear S; intro a S
    refine wl_nil ?_
    refine xtn ?_
    refine c_ret ?_
    refine xtr ?_
    exact end1 S (fun _ => rfl)
  · refine c_skip ?_
    refine xtn ?_
    refine c_seq ?_
    refine c_region ?_
    have hk5 : keep.length ≤ 5000 := by have := of_decide_eq_false h3; omega
    refine snew S (lfresh_c _) ?_; clear S; rintro _ a w - ⟨d1, m1, rfl, hh, hnw⟩ hS -
    have S := hS (dkI d1 m1 none 0 (newD 602)) hh hnw
    clear hS
    refine sq S ?_; clear S; intro a S
    refine wl_nil ?_
    refine xtn ?_
    refine c_seq ?_
    refine c_region ?_
    refine sq S ?_; clear S; intro a S
    refine sit (dkI d1 m1 none 0 (newD 602)) S (vformat_ok d1 m1 300 none 0 (newD 602) (by simp [mayF, newD]) (by simp [newD]) h300 _ (S.it (dkI d1 m1 none 0 (newD 602)))) rfl ?_; clear S; rintro _ a w ⟨v1, g1, L1, rfl, hm1, hv1, hh1, hf1⟩ hS
    have S := hS (vtI v1 d1 g1 ⟨L1, none, 0, []⟩) hh1 hf1
    clear hS
    iterate 5 (refine sq S ?_; clear S; intro a S)
    refine wl_nil ?_
    refine xtn ?_
    iterate 2 (refine c_seq ?_)
    refine c_region ?_
    iterate 2 (refine sq S ?_; clear S; intro a S)
    refine wl_nil ?_
    refine xtn ?_
    refine c_condF S ?_
    refine c_skip ?_
    refine xtn ?_
    refine c_seq ?_
    refine c_region ?_
    refine snew S (lfresh_c _) ?_; clear S; rintro _ a w - ⟨d2, m2, rfl, hh, hnw⟩ hS -
    have S := hS (dkI d2 m2 none 0 (newD 602)) hh hnw
    clear hS
    refine sit (dkI d2 m2 none 0 (newD 602)) S (vformat_ok d2 m2 300 none 0 (newD 602) (by simp [mayF, newD]) (by simp [newD]) h300 _ (S.it (dkI d2 m2 none 0 (newD 602)))) rfl ?_; clear S; rintro _ a w ⟨v2, g2, L2, rfl, hm2, hv2, hh2, hf2⟩ hS
    have S := hS (vtI v2 d2 g2 ⟨L2, none, 0, []⟩) hh2 hf2
    clear hS
    iterate 5 (refine sq S ?_; clear S; intro a S)
    refine wl_nil ?_
    refine xtn ?_
    iterate 2 (refine c_seq ?_)
    refine c_region ?_
    iterate 2 (refine sq S ?_; clear S; intro a S)
    refine wl_nil ?_
    refine xtn ?_
    refine c_condF S ?_
    refine c_skip ?_
    refine xtn ?_
    refine c_seq ?_
    refine c_region ?_
    refine sq S ?_; clear S; intro a S
    obtain ⟨z1, z2⟩ := vt_facts (S.it (vtI v1 d1 g1 ⟨L1, none, 0, []⟩)) (fun _ _ _ h => by cases h)
    refine srn S (vrows_c v1 g1 ⟨L1, none, 0, []⟩ _ (by simp) z1 z2) ?_; clear S z1 z2; rintro _ a w ⟨pw, cw, rfl, hown, hnew⟩ hS -
    have S := hS hown hnew
    clear hS
    replace S := S.rowToGl pw ([] : List LRow) (e := 45) (sz := 6) (n := ([] : List LRow).length) (c := cw) (fun _ _ _ h => by cases h)
    refine sq S ?_; clear S; intro a S
    obtain ⟨z1, z2⟩ := vt_facts (S.it (vtI v1 d1 g1 ⟨L1, none, 0, []⟩)) (fun _ _ _ h => by cases h)
    refine srn S (vrows_c v1 g1 ⟨L1, none, 0, []⟩ _ (by simp) z1 z2) ?_; clear S z1 z2; rintro _ a w ⟨pn, cn, rfl, hown, hnew⟩ hS -
    have S := hS hown hnew
    clear hS
    replace S := S.rowToGl pn ([] : List LRow) (e := 45) (sz := 6) (n := ([] : List LRow).length) (c := cn) (fun _ _ _ h => by cases h)
    iterate 2 (refine sq S ?_; clear S; intro a S)
    refine wl_nil ?_
    refine xtn ?_
    refine c_mrge1 S (fun (T : TW) uu => [(6, uu 6), (4, .slice T.pw T.ws.length T.cw), (0, .slice T.pn T.ns.length T.cn), (0, uu 13), (0, uu 14), (0, uu 15), (0, uu 16), (25, uu 42), (0, uu 43), (0, uu 44), (0, uu 45), (0, uu 46), (0, uu 47), (0, uu 48), (0, uu 49), (0, uu 50), (0, uu 51), (0, uu 52), (0, uu 53), (0, uu 54), (0, uu 55), (0, uu 56), (0, uu 57), (0, uu 58), (0, uu 59), (0, uu 60), (0, uu 61), (0, uu 62), (0, uu 63), (0, uu 64), (0, uu 65), (0, uu 66), (0, uu 67), (0, uu 68), (0, uu 69), (0, uu 70), (0, uu 71), (0, uu 72), (0, uu 73), (0, uu 74), (0, uu 75), (0, uu 76), (0, uu 77), (0, uu 78), (0, uu 79), (0, uu 80), (0, uu 81), (0, uu 82), (0, uu 83), (0, uu 84), (0, uu 85), (0, uu 86), (0, uu 87)]) (fun (T : TW) => [vtI v1 d1 g1 T.V]) (fun (T : TW) => [GlF T.pw T.ws, GlF T.pn T.ns, GlF pk keep]) (fun (T : TW) => EndOk T.V.L.v.s (rsP T.ws) (rsP T.ns) ∧ T.V.L.v.s.loose.length ≤ 900000) ?_ ?_
    · refine c_seq ?_
      refine c_region ?_
      iterate 3 (refine sq S ?_; clear S; intro a S)
      refine wl_nil ?_
      refine xtn ?_
      refine c_block ?_
      refine c_fore2 S (fun (k : Nat) (T : TW) uu => [(6, uu 6), (4, .slice T.pw T.ws.length T.cw), (0, .slice T.pn T.ns.length T.cn), (0, uu 13), (0, uu 14), (0, uu 15), (0, uu 16), (27, .int .i64 (k : Nat)), (0, uu 45), (0, uu 46), (0, uu 47), (0, uu 48), (0, uu 49), (0, uu 50), (0, uu 51), (0, uu 52), (0, uu 53), (0, uu 54), (0, uu 55), (0, uu 56), (0, uu 57), (0, uu 58), (0, uu 59), (0, uu 60), (0, uu 61), (0, uu 62), (0, uu 63), (0, uu 64), (0, uu 65), (0, uu 66), (0, uu 67), (0, uu 68), (0, uu 69), (0, uu 70), (0, uu 71), (0, uu 72), (0, uu 73), (0, uu 74), (0, uu 75), (0, uu 76), (0, uu 77), (0, uu 78), (0, uu 79), (0, uu 80), (0, uu 81), (0, uu 82), (0, uu 83), (0, uu 84), (0, uu 85), (0, uu 86), (0, uu 87)]) (fun (k : Nat) (T : TW) => [vtI v1 d1 g1 T.V, vtI v2 d2 g2 T.U]) (fun (k : Nat) (T : TW) => [AllI T.V.xs, AllI T.U.xs, GlF T.pw T.ws, GlF T.pn T.ns, GlF pl l, GlF pk keep]) (fun (k : Nat) (T : TW) => k ≤ l.length ∧ k ≤ 20 ∧ rsP T.V.xs = rsP T.U.xs ∧ rsP T.ws = rsP T.U.xs ∧ rsP T.ns = rsP T.U.xs ∧ ∃ t said, 0 ≤ t ∧ t ≤ (k : Int) ∧ TwinP T.V.L.v T.U.L.v (rsP T.U.xs) t said) (fun (k : Nat) (T : TW) => l.length - k) (0) (⟨⟨L1, none, 0, []⟩, ⟨L2, none, 0, []⟩, [], pw, cw, [], pn, cn⟩) ?_ S.uu ?_ ?_
      · exact ⟨Nat.zero_le _, by omega, rfl, rfl, rfl, 0, [[]], by omega, by omega, by show TwinP L1.v L2.v [] 0 [[]]; rw [hv1, hv2]; exact twin_new⟩
      · replace S := (S.add (Φ := GlF pn ([] : List LRow)) (fun _ _ => gl_nil)).add (Φ := GlF pw ([] : List LRow)) (fun _ _ => gl_nil)
        replace S := (S.add (Φ := AllI ([] : List LRow)) (fun _ _ _ h => by cases h)).add (Φ := AllI ([] : List LRow)) (fun _ _ _ h => by cases h)
        replace S := (S.front (vtI v2 d2 g2 ⟨L2, none, 0, []⟩)).front (vtI v1 d1 g1 ⟨L1, none, 0, []⟩)
        exact S.sub _ _
      · clear S; rintro k T uu a w ⟨hk, hk20, hV, hW, hN, t, said, ht0, htk, htw⟩ S
        refine c_seq ?_
        refine c_region ?_
        refine sq S ?_; clear S; intro a S
        refine wl_nil ?_
        refine xtn ?_
        refine c_seq ?_
        refine c_cond S (fun h14 => ?_) (fun h14 => ?_)
        · refine c_skip ?_
          refine xtn ?_
          refine c_seq ?_
          refine c_block ?_
          refine c_seq ?_
          have hkl : k < l.length := by simp at h14; omega
          have hK : KLt k l.length := ⟨hkl⟩
          have hin := ((S.mem.fact (GlF pl l)).now.2 _ (nthG_mem hkl) : Lay.inn w (nthG l k))
          have hxc : (nthG l k).xs.length ≤ (nthG l k).cap ∧ (nthG l k).cap ≤ maxLen := ⟨hin.1, hin.2.1⟩
          replace S := S.add (Φ := GlF (nthG l k).p (nthG l k).xs) ((S.mem.fact (GlF pl l)).imp fun _ h => (h.2 _ (nthG_mem hkl)).2.2)
          have hm63 : (maxLen : Nat) ≤ 9223372036854775807 := by decide
          refine c_region ?_
          iterate 5 (refine sq S ?_; clear S; intro a S)
          refine wl_nil ?_
          refine xtn ?_
          iterate 2 (refine c_seq ?_)
          refine c_region ?_
          iterate 3 (refine sq S ?_; clear S; intro a S)
          refine gS S (fun hs16 S => ?_) (fun hs16 S => ?_)
          · refine gF' S ?_; clear S; intro a S
            refine gF' S ?_; clear S; intro a S
            refine sq S ?_; clear S; intro a S
            refine wl_nil ?_
            refine xtn ?_
            refine c_condT S ?_
            refine c_exit ?_
            refine xte ?_
            refine xbx ?_
            iterate 2 (refine xte ?_)
            refine xbe ?_
            refine xtn ?_
            have hend := htw.endOk
            have hlw := htw.v.wf.loose
            refine ⟨T, S.uu, ⟨by rw [hW, hN]; exact hend, by omega⟩, S.sub _ _⟩
          · refine gT' S ?_
            refine sq S ?_; clear S; intro a S
            refine gT' S ?_
            refine sr S (over19_c (nthG l k).xs (nthG l k).p (nthG l k).xs.length (nthG l k).cap _ rfl (by omega) (S.gl0 (nthG l k).p)) ?_; clear S; rintro _ a w ⟨bo, rfl, hov⟩ S
            refine sq S ?_; clear S; intro a S
            refine wl_nil ?_
            refine xtn ?_
            refine c_cond S (fun h16 => ?_) (fun h16 => ?_)
            · refine c_exit ?_
              refine xte ?_
              refine xbx ?_
              iterate 2 (refine xte ?_)
              refine xbe ?_
              refine xtn ?_
              have hend := htw.endOk
              have hlw := htw.v.wf.loose
              refine ⟨T, S.uu, ⟨by rw [hW, hN]; exact hend, by omega⟩, S.sub _ _⟩
            · refine c_skip ?_
              refine xtn ?_
              refine c_mrge1 S (fun (V2 : VT) uu => [(55, uu 55), (0, uu 56), (0, uu 57), (0, uu 58), (0, uu 59), (0, uu 60), (0, uu 61)]) (fun (V2 : VT) => [vtI v1 d1 g1 V2, vtI v2 d2 g2 T.U]) (fun (V2 : VT) => [GlF (nthG l k).p (nthG l k).xs, AllI V2.xs, AllI T.U.xs, GlF T.pw T.ws, GlF T.pn T.ns, GlF pl l, GlF pk keep]) (fun (V2 : VT) => rsP V2.xs = rsP T.U.xs ∧ TwinP V2.L.v T.U.L.v (rsP T.U.xs) t said) ?_ ?_
              · refine c_seq ?_
                refine c_region ?_
                iterate 2 (refine sq S ?_; clear S; intro a S)
                refine wl_nil ?_
                refine xtn ?_
                refine c_cond S (fun h17 => ?_) (fun h17 => ?_)
                · refine c_region ?_
                  iterate 4 (refine sq S ?_; clear S; intro a S)
                  rw [show (max arm 0).tmod 1000 = IntKind.i64.wrap ((max arm 0) % 1000) from by rw [Int.tmod_eq_emod_of_nonneg (by omega), w64 _ (by omega) (by omega)]] at S
                  replace S := (S.front (vtI v1 d1 g1 T.V)).ofBoth
                  replace S := (S.front (both (lgI d1 g1 T.V.L) (rwI T.V))).ofBoth
                  replace S := S.ofBoth
                  refine sit (dkI d1 T.V.L.m T.V.L.p T.V.L.c T.V.L.s) S (darm_c d1 T.V.L.m T.V.L.p T.V.L.c T.V.L.s (IntKind.i64.wrap ((max arm 0) % 1000)) _ (S.it (dkI d1 T.V.L.m T.V.L.p T.V.L.c T.V.L.s))) rfl ?_; clear S; rintro _ a w ⟨rfl, hh2⟩ hS
                  have S := hS (dkI d1 T.V.L.m T.V.L.p T.V.L.c (armD T.V.L.s (IntKind.i64.wrap ((max arm 0) % 1000)))) hh2 (fun k h => .inl h)
                  clear hS
                  refine wl_nil ?_
                  refine xtn ?_
                  obtain ⟨V2, hV2e⟩ : ∃ V2 : VT, V2 = ⟨{ T.V.L with s := armD T.V.L.s (IntKind.i64.wrap ((max arm 0) % 1000)) }, T.V.p, T.V.c, T.V.xs⟩ := ⟨_, rfl⟩
                  replace S := ((S.front (walI g1 d1 T.V.L.q T.V.L.e T.V.L.x)).front (dkI d1 T.V.L.m T.V.L.p T.V.L.c (armD T.V.L.s (IntKind.i64.wrap ((max arm 0) % 1000))))).toBoth
                  replace S := (((S.front (rwI T.V)).front (both (dkI d1 T.V.L.m T.V.L.p T.V.L.c (armD T.V.L.s (IntKind.i64.wrap ((max arm 0) % 1000)))) (walI g1 d1 T.V.L.q T.V.L.e T.V.L.x))).toBoth.front (Wk.box v1 144 (cVt g1 T.V))).toBoth
                  rw [show both (Wk.box v1 144 (cVt g1 T.V)) (both (both (dkI d1 T.V.L.m T.V.L.p T.V.L.c (armD T.V.L.s (IntKind.i64.wrap ((max arm 0) % 1000)))) (walI g1 d1 T.V.L.q T.V.L.e T.V.L.x)) (rwI T.V)) = vtI v1 d1 g1 V2 from by rw [hV2e], show AllI T.V.xs = AllI V2.xs from by rw [hV2e]] at S
                  refine ⟨V2, S.uu, ⟨by rw [hV2e]; exact hV, by rw [hV2e]; exact { htw with v := htw.v.arm _ }⟩, S.sub _ _⟩
                · refine c_skip ?_
                  refine xtn ?_
                  exact ⟨T.V, S.uu, ⟨hV, htw⟩, S.sub _ _⟩
              · clear S; rintro V2 uu a w ⟨hV2, htw2⟩ S
                refine c_seq ?_
                refine c_region ?_
                refine sq S ?_; clear S; intro a S
                have hfew := htw2.few
                have hUl : T.U.xs.length ≤ 64 := by rw [rsP_lenK] at hfew; exact hfew
                have hVl : V2.xs.length ≤ 64 := by have := congrArg List.length hV2; rw [rsP_lenK, rsP_lenK] at this; omega
                obtain ⟨z1, z2⟩ := vt_facts (S.it (vtI v1 d1 g1 V2)) ((S.mem.fact (AllI V2.xs)).less fun _ _ h => h.elim)
                refine srn S (vrows_c v1 g1 V2 _ (by omega) z1 z2) ?_; clear S z1 z2; rintro _ a w ⟨pw2, cw2, rfl, hown, hnew⟩ hS -
                have S := hS hown hnew
                clear hS
                replace S := S.rowToGl pw2 V2.xs (e := 45) (sz := 6) (n := V2.xs.length) (c := cw2) (S.wd.facts (AllI V2.xs) (by simp))
                refine sq S ?_; clear S; intro a S
                refine wl_nil ?_
                refine xtn ?_
                refine c_seq ?_
                refine c_region ?_
                iterate 2 (refine sq S ?_; clear S; intro a S)
                obtain ⟨hx100, hx500⟩ := hov (by simpa using h16)
                have hxn : ∀ y ∈ (nthG l k).xs, y.name.length ≤ 9223372036854775807 := fun y hy => by have := hx500 y hy; omega
                refine sit (vtI v1 d1 g1 V2) S (vput_c v1 d1 g1 V2 (nthG l k).xs (nthG l k).p (nthG l k).cap 0 htw2.v.wf (by omega) (by rw [hV2]; exact htw2.kept) hVl (by omega) hxn hxc.1 w (S.it (vtI v1 d1 g1 V2)) (S.lend (vtI v1 d1 g1 V2) (S.mem.fact (AllI V2.xs))) (S.lend (vtI v1 d1 g1 V2) (S.mem.fact (GlF (nthG l k).p (nthG l k).xs)))) rfl ?_; clear S; rintro _ a w ⟨V3, rfl, hh3, hf3, hm3, hv3, hx3, hmem3⟩ hS
                have S := hS (vtI v1 d1 g1 V3) hh3 hf3
                clear hS
                replace S := S.add (Φ := AllI V3.xs) (fun w' hw' y hy => (hmem3 y hy).elim (fun h => S.wd.facts (AllI V2.xs) (by simp) w' hw' y h) (fun h => ((S.mem.fact (GlF (nthG l k).p (nthG l k).xs)) w' hw').2 y h))
                iterate 2 (refine sq S ?_; clear S; intro a S)
                refine sit (vtI v2 d2 g2 T.U) S (vput_c v2 d2 g2 T.U (nthG l k).xs (nthG l k).p (nthG l k).cap 0 htw2.u.ok.wf (by omega) htw2.kept hUl (by omega) hxn hxc.1 w (S.it (vtI v2 d2 g2 T.U)) (S.lend (vtI v2 d2 g2 T.U) (S.mem.fact (AllI T.U.xs))) (S.lend (vtI v2 d2 g2 T.U) (S.mem.fact (GlF (nthG l k).p (nthG l k).xs)))) rfl ?_; clear S; rintro _ a w ⟨U3, rfl, hh4, hf4, hm4, hv4, hx4, hmem4⟩ hS
                have S := hS (vtI v2 d2 g2 U3) hh4 hf4
                clear hS
                replace S := S.add (Φ := AllI U3.xs) (fun w' hw' y hy => (hmem4 y hy).elim (fun h => S.wd.facts (AllI T.U.xs) (by simp) w' hw' y h) (fun h => ((S.mem.fact (GlF (nthG l k).p (nthG l k).xs)) w' hw').2 y h))
                rw [hV2] at hv3 hx3 S
                obtain ⟨hgood, hbad⟩ := twin_put htw2 (by omega) (rsP (nthG l k).xs)
                have hwf3 := putV_wf htw2.v.wf (rsP T.U.xs) (rsP (nthG l k).xs)
                obtain ⟨hk4, hl4⟩ := putV_kept (V := T.U.L.v) (l := rsP (nthG l k).xs) htw2.kept htw2.few
                rw [← hx4] at hk4 hl4
                rw [rsP_lenK] at hl4
                iterate 2 (refine sq S ?_; clear S; intro a S)
                refine wl_nil ?_
                refine xtn ?_
                refine c_seq ?_
                refine c_region ?_
                refine sq S ?_; clear S; intro a S
                obtain ⟨z1, z2⟩ := vt_facts (S.it (vtI v2 d2 g2 U3)) ((S.mem.fact (AllI U3.xs)).less fun _ _ h => h.elim)
                refine srn S (vrows_c v2 g2 U3 _ (by omega) z1 z2) ?_; clear S z1 z2; rintro _ a w ⟨pn2, cn2, rfl, hown, hnew⟩ hS -
                have S := hS hown hnew
                clear hS
                replace S := S.rowToGl pn2 U3.xs (e := 45) (sz := 6) (n := U3.xs.length) (c := cn2) (S.wd.facts (AllI U3.xs) (by simp))
                refine sq S ?_; clear S; intro a S
                refine wl_nil ?_
                refine xtn ?_
                iterate 2 (refine c_seq ?_)
                refine c_region ?_
                refine sq S ?_; clear S; intro a S
                refine sr S (vdown_c v1 d1 g1 V3 _ (S.it (vtI v1 d1 g1 V3))) ?_; clear S; rintro _ a w rfl S
                rw [hv3] at S
                refine wl_nil ?_
                refine xtn ?_
                refine c_cond S (fun h22 => ?_) (fun h22 => ?_)
                · refine c_seq ?_
                  refine c_seq ?_
                  refine c_region ?_
                  refine sq S ?_; clear S; intro a S
                  obtain ⟨hf0, hE⟩ := hbad h22
                  refine sq S ?_; clear S; intro a S
                  rw [show (!decide ((putV T.U.L.v (rsP T.U.xs) (rsP (nthG l k).xs)).2.2 = 0)) = false from by rw [hf0]; rfl] at S
                  refine wl_nil ?_
                  refine xtn ?_
                  refine c_condF S ?_
                  refine c_skip ?_
                  refine xtn ?_
                  refine c_exit ?_
                  refine xte ?_
                  refine xbx ?_
                  iterate 2 (refine xte ?_)
                  refine xbe ?_
                  refine xtn ?_
                  have hlo : V3.L.v.s.loose.length ≤ 900000 := by rw [hv3]; have := hwf3.loose; omega
                  refine ⟨⟨V3, U3, V2.xs, pw2, cw2, U3.xs, pn2, cn2⟩, S.uu, ⟨?_, hlo⟩, ?_⟩
                  · show EndOk V3.L.v.s (rsP V2.xs) (rsP U3.xs)
                    rw [hv3, hV2, hx4]; exact hE
                  · replace S := (S.add (Φ := GlF pn2 U3.xs) (S.wd.facts (GlF pn2 U3.xs) (by simp))).add (Φ := GlF pw2 V2.xs) (S.wd.facts (GlF pw2 V2.xs) (by simp))
                    exact S.sub _ _
                · refine c_skip ?_
                  refine xtn ?_
                  iterate 2 (refine c_seq ?_)
                  refine c_region ?_
                  iterate 2 (refine sq S ?_; clear S; intro a S)
                  obtain ⟨he1, he2, t', said', ht', htw3⟩ := hgood (by simpa using h22)
                  have heq : rsP V3.xs = rsP U3.xs := by rw [hx3, he2, hx4]
                  have hV3l : V3.xs.length ≤ 64 := by have := congrArg List.length heq; rw [rsP_lenK, rsP_lenK] at this; omega
                  refine sq S ?_; clear S; intro a S
                  rw [show (!decide ((putV V2.L.v (rsP T.U.xs) (rsP (nthG l k).xs)).2.2 = (putV T.U.L.v (rsP T.U.xs) (rsP (nthG l k).xs)).2.2)) = false from by rw [he1]; simp] at S
                  refine sq S ?_; clear S; intro a S
                  refine gT' S ?_
                  refine sq S ?_; clear S; intro a S
                  refine gT' S ?_
                  obtain ⟨z1, z2⟩ := vt_facts (S.it (vtI v1 d1 g1 V3)) ((S.mem.fact (AllI V3.xs)).less fun _ _ h => h.elim)
                  refine srn S (vrows_c v1 g1 V3 _ (by omega) z1 z2) ?_; clear S z1 z2; rintro _ a w ⟨pz, cz, rfl, hown, hnew⟩ hS -
                  have S := hS hown hnew
                  clear hS
                  replace S := S.rowToGl pz V3.xs (e := 45) (sz := 6) (n := V3.xs.length) (c := cz) (S.wd.facts (AllI V3.xs) (by simp))
                  refine gT' S ?_
                  refine sq S ?_; clear S; intro a S
                  refine gT' S ?_
                  refine sr S (same19_c V3.xs U3.xs pz pn2 V3.xs.length U3.xs.length cz cn2 _ rfl rfl (by omega) heq (S.gl0 pz) (S.gl0 pn2)) ?_; clear S; rintro _ a w rfl S
                  refine gT' S ?_
                  refine sq S ?_; clear S; intro a S
                  rw [show (!true) = false from rfl] at S
                  refine sq S ?_; clear S; intro a S
                  refine wl_nil ?_
                  refine xtn ?_
                  refine c_condF S ?_
                  refine c_skip ?_
                  refine xtn ?_
                  refine c_region ?_
                  iterate 2 (refine sq S ?_; clear S; intro a S)
                  refine wl_nil ?_
                  refine xbn ?_
                  refine xtn ?_
                  refine c_region ?_
                  iterate 2 (refine sq S ?_; clear S; intro a S)
                  refine wl_nil ?_
                  refine xtn ?_
                  have hk19 : k ≠ 20 := by have := of_decide_eq_false hs16; omega
                  rw [w64 ((k : Int) + 1) (by omega) (by omega)] at S
                  replace S := (S.add (Φ := GlF pn2 U3.xs) (S.wd.facts (GlF pn2 U3.xs) (by simp))).add (Φ := GlF pn2 U3.xs) (S.wd.facts (GlF pn2 U3.xs) (by simp))
                  replace S := (S.add (Φ := AllI U3.xs) (S.wd.facts (AllI U3.xs) (by simp))).add (Φ := AllI V3.xs) (S.wd.facts (AllI V3.xs) (by simp))
                  refine ⟨k + 1, ⟨V3, U3, U3.xs, pn2, cn2, U3.xs, pn2, cn2⟩, S.uu, ⟨hkl, by omega, heq, rfl, rfl, t', said', ?_, ?_, ?_⟩, S.sub _ _, by omega⟩
                  · have := htw3.v.wf.turn
                    have h2 := htw3.v.turn
                    rw [← h2]; exact this.1
                  · push_cast; omega
                  · show TwinP V3.L.v U3.L.v (rsP U3.xs) t' said'
                    rw [hv3, hv4, hx4]; exact htw3
        · refine c_exit ?_
          iterate 2 (refine xte ?_)
          refine xbe ?_
          refine xtn ?_
          have hend := htw.endOk
          have hlw := htw.v.wf.loose
          refine ⟨T, S.uu, ⟨by rw [hW, hN]; exact hend, by omega⟩, S.sub _ _⟩
    · clear S; rintro T uu a w ⟨hend, hloose⟩ S
      iterate 2 (refine c_seq ?_)
      refine c_region ?_
      iterate 2 (refine sq S ?_; clear S; intro a S)
      replace S := (S.front (vtI v1 d1 g1 T.V)).ofBoth
      replace S := (S.front (both (lgI d1 g1 T.V.L) (rwI T.V))).ofBoth
      replace S := S.ofBoth
      refine sit (dkI d1 T.V.L.m T.V.L.p T.V.L.c T.V.L.s) S (dcrash_c d1 T.V.L.m T.V.L.p T.V.L.c T.V.L.s keep pk ck _ (by have : T.V.L.s.loose.length ≤ 900000 := hloose; omega) (S.it (dkI d1 T.V.L.m T.V.L.p T.V.L.c T.V.L.s)) (S.lend (dkI d1 T.V.L.m T.V.L.p T.V.L.c T.V.L.s) (S.mem.fact (GlF pk keep)))) rfl ?_; clear S; rintro _ a w ⟨rfl, hh2⟩ hS
      have S := hS (dkI d1 T.V.L.m none 0 (crashD keep T.V.L.s)) hh2 (fun k hk => .inl (by
        rcases hk with h | h | h
        · exact .inl h
        · exact .inr (.inl h)
        · obtain ⟨ad, h, -⟩ := h; cases h))
      clear hS
      refine sq S ?_; clear S; intro a S
      refine wl_nil ?_
      refine xtn ?_
      refine c_condF S ?_
      refine c_skip ?_
      refine xtn ?_
      refine c_seq ?_
      refine c_region ?_
      refine sq S ?_; clear S; intro a S
      obtain ⟨t, said, out, hab, hop, hout⟩ := hend keep
      replace hab : Able (crashD keep T.V.L.s) 300 t said := hab
      obtain ⟨o1, o2, o3, o4⟩ := (open_able hab).resolve_right (fun h => by have h1 := h.1; rw [show (crashD keep T.V.L.s).arms.on = false from rfl] at h1; cases h1)
      have hsaid : (opnV (crashD keep T.V.L.s)).said = said := by rw [opnV]; show (openF (crashD keep T.V.L.s)).2.2.said = _; rw [o3]
      have hl0 : (crashD keep T.V.L.s).loose = [] := by obtain ⟨tail, hL, -⟩ := hab; exact hL.loose
      refine sitM (dkI d1 T.V.L.m none 0 (crashD keep T.V.L.s)) S (vopen_ok d1 T.V.L.m none 0 (crashD keep T.V.L.s) (restOf _ (dkI d1 T.V.L.m none 0 (crashD keep T.V.L.s))) (by rw [hl0]; simp) o1 _ (S.restOk _) (S.it (dkI d1 T.V.L.m none 0 (crashD keep T.V.L.s)))) rfl ?_; clear S; rintro _ a w (⟨hno, -⟩ | ⟨q, gq, V4, hsome, rfl, hm4, hv4, hh4, hf4, hA4⟩) hS
      · rw [hsaid, hop] at hno; cases hno
      have hr4 : rsP V4.xs = out := by rw [hsaid, hop] at hsome; exact (Option.some.inj hsome).symm
      have hl4 : V4.xs.length ≤ 64 := by have := openP_len hop; rw [← hr4, rsP_lenK] at this; exact this
      have S := hS (vtI q d1 gq V4) [AllI V4.xs] hh4 hf4 (by simp only [List.mem_cons, List.not_mem_nil, or_false]; rintro Φ rfl; exact hA4)
      clear hS
      iterate 5 (refine sq S ?_; clear S; intro a S)
      refine wl_nil ?_
      refine xtn ?_
      refine c_seq ?_
      refine c_region ?_
      iterate 2 (refine sq S ?_; clear S; intro a S)
      rw [show decide ((0 : Int) = 0) = true from rfl] at S
      refine sq S ?_; clear S; intro a S
      refine gT S ?_
      refine sq S ?_; clear S; intro a S
      refine gT S ?_
      obtain ⟨z1, z2⟩ := vt_facts (S.it (vtI q d1 gq V4)) ((S.mem.fact (AllI V4.xs)).less fun _ _ h => h.elim)
      refine srn S (vrows_c q gq V4 _ (by omega) z1 z2) ?_; clear S z1 z2; rintro _ a w ⟨pz, cz, rfl, hown, hnew⟩ hS -
      have S := hS hown hnew
      clear hS
      replace S := S.rowToGl pz V4.xs (e := 45) (sz := 6) (n := V4.xs.length) (c := cz) (S.wd.facts (AllI V4.xs) (by simp))
      refine gT S ?_
      refine sq S ?_; clear S; intro a S
      refine gT S ?_
      refine sr S (same19b_c V4.xs T.ws pz T.pw V4.xs.length T.ws.length cz T.cw _ rfl rfl (by omega) (S.gl0 pz) (S.gl0 T.pw)) ?_; clear S; rintro _ a w ⟨q1, rfl, hq1⟩ S
      refine gT S ?_
      refine sq S ?_; clear S; intro a S
      refine gS S (fun hs32 S => ?_) (fun hs32 S => ?_)
      · refine gF' S ?_; clear S; intro a S
        iterate 3 (refine gF' S ?_; clear S; intro a S)
        refine gT S ?_
        iterate 3 (refine sq S ?_; clear S; intro a S)
        refine wl_nil ?_
        refine xtn ?_
        refine c_ret ?_
        exact end1 S (fun _ => rfl)
      · refine gT' S ?_
        refine sq S ?_; clear S; intro a S
        refine gT' S ?_
        obtain ⟨z1, z2⟩ := vt_facts (S.it (vtI q d1 gq V4)) ((S.mem.fact (AllI V4.xs)).less fun _ _ h => h.elim)
        refine srn S (vrows_c q gq V4 _ (by omega) z1 z2) ?_; clear S z1 z2; rintro _ a w ⟨py, cy, rfl, hown, hnew⟩ hS -
        have S := hS hown hnew
        clear hS
        replace S := S.rowToGl py V4.xs (e := 45) (sz := 6) (n := V4.xs.length) (c := cy) (S.wd.facts (AllI V4.xs) (by simp))
        refine gT' S ?_
        refine sq S ?_; clear S; intro a S
        refine gT' S ?_
        refine sr S (same19b_c V4.xs T.ns py T.pn V4.xs.length T.ns.length cy T.cn _ rfl rfl (by omega) (S.gl0 py) (S.gl0 T.pn)) ?_; clear S; rintro _ a w ⟨q2, rfl, hq2⟩ S
        refine gT S ?_
        iterate 3 (refine sq S ?_; clear S; intro a S)
        refine wl_nil ?_
        refine xtn ?_
        refine c_ret ?_
        refine end1 S (fun _ => ?_)
        rcases hout with h | h
        · have := hq1 (hr4.trans h)
          rw [hs32] at this; cases this
        · rw [hq2 (hr4.trans h)]
end Go.Proofs.YtdakncgafdnjfaaGreat