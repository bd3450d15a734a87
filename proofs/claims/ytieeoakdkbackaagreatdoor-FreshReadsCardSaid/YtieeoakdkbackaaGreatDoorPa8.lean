/- 8: a part of this claim's texts, joined: RefFresh LawFreshB RowFreshZ RowFreshReads. -/
import Derived.Test.YtieeoakdkbackaaGreatDoorPa7
import Derived.Test.YtieeoakdkbackaaGreatDoorTie
import Derived.Test.YtieeoakdkbackaaGreatDoorCards
import Derived.SevenTiedAt
/- Package safehouseref16. -/
namespace Go.Proofs.YtieeoakdkbackaaGreatDoor
open Go Go.Wk
set_option synthInstance.maxSize 100000
set_option synthInstance.maxHeartbeats 400000
set_option maxRecDepth 100000

theorem kind_t16 (t : LTerm) : (match t.t with | .mk k _ _ _ _ => k) = t.kind := by rw [t.t_eq]
theorem rcounter16_c (n : Int) (w : World) : Ret Tryz.prog 34 [.int .i64 n] w (fun _ => False) fun v _ => v = .bool (countF n) := by
  refine enter Tryz.func34 rfl rfl (Wd.start w) (fun a S => ?_)
  simp only [Tryz.ntmps34, List.length_cons, List.length_nil, Nat.reduceAdd, Nat.reduceSub, List.replicate_succ, List.replicate_zero, List.cons_append, List.nil_append] at S
  refine c_seq ?_
  refine c_region ?_
  refine sq S ?_; clear S; intro a S
  refine wl_nil ?_
  refine xtn ?_
  refine c_seq ?_
  refine c_region ?_
  iterate 3 (refine sq S ?_; clear S; intro a S)
  iterate 2 (refine gQ S ?_; clear S; intro a S)
  iterate 2 (refine sq S ?_; clear S; intro a S)
  refine wl_nil ?_
  refine xtn ?_
  refine c_ret ?_
  refine fin1 S (fun _ => ?_)
  first | rfl | simp [countF]
instance rcounter16I {n : Int} {bs fs} : CallV Tryz.prog 34 [.int .i64 n] bs fs (.bool (countF n)) := ⟨fun w _ => rcounter16_c n w⟩
theorem signed16_c (u leaf n : Int) (l : List LMark) (p : Option Addr) (c : Nat) (hn : 0 ≤ n ∧ n ≤ 1000000) (hl : l.length ≤ 100) (hc : l.length ≤ c) (hv : ∀ m ∈ l, 0 ≤ m.ver ∧ m.ver ≤ 65535) (M : Nat → Prop) (w0 : World) (hM : ∀ k, M k → k < w0.heap.size) (hx : Stable M w0 (GlF p l)) :
    Ret Tryz.prog 35 [.int .i64 u, .int .i64 leaf, .int .i64 n, .slice p l.length c] w0 (fun _ => False) fun v w' => IsT M w' v (rootedT u leaf n (rootT l)) := by
  refine enter Tryz.func35 rfl rfl (Wd.beginM (M := M) (fs := [GlF p l]) hM (by simpa using hx)) (fun a S => ?_)
  simp only [Tryz.ntmps35, List.length_cons, List.length_nil, Nat.reduceAdd, Nat.reduceSub, List.replicate_succ, List.replicate_zero, List.cons_append, List.nil_append] at S
  refine c_seq ?_
  refine c_region ?_
  refine sa S ?_; clear S; intro b8 a w S
  refine wl_nil ?_
  refine xtn ?_
  refine c_seq ?_
  refine c_region ?_
  refine sc S ?_; clear S; intro a w S
  refine sq S ?_; clear S; intro a S
  refine sr S (r14digits_c n (by omega) (by omega) _) ?_; clear S; rintro _ a w rfl S
  refine sq S ?_; clear S; intro a S
  refine sr S (r14root_c _ l p l.length c _ w (Nat.lt_succ_self _) rfl hl hc hv (foots_lt S) (S.mem.fact (GlF p l))) ?_; clear S; rintro _ a w ⟨q, rfl, hq, hqf⟩ S
  replace S := S.add hqf
  refine sn S ?_; clear S; intro b15 a w S
  replace S := (S.add (Φ := LtF (textL wordR)) (fun _ _ => by simp [LtIn, textL, LsIn, LtF])).add (Φ := LtF (textL (Lib.itoa n))) (fun _ _ => by simp [LtIn, textL, LsIn, LtF])
  replace S := S.frontLs b15 [textL wordR, textL (Lib.itoa n), q] rfl (fun t ht => by simp at ht; rcases ht with rfl | rfl | rfl <;> exact S.t _)
  refine sr S (rlist_c [textL wordR, textL (Lib.itoa n), q] (some ⟨b15, 0, none⟩) 3 _ w (by simp) (foots_lt S) (S.mem.fact (LsF (some ⟨b15, 0, none⟩) 0 [textL wordR, textL (Lib.itoa n), q]))) ?_; clear S; rintro _ a w ⟨q2, rfl, hq2, hqf2⟩ S
  replace S := S.add hqf2
  refine sa S ?_; clear S; intro b9 a w S
  refine sw S ?_; clear S; intro a w S
  refine wl_nil ?_
  refine xtn ?_
  refine c_seq ?_
  refine c_region ?_
  iterate 3 (refine sq S ?_; clear S; intro a S)
  refine sn S ?_; clear S; intro b20 a w S
  refine sq S ?_; clear S; intro a S
  refine sw S ?_; clear S; intro a w S
  refine wl_nil ?_
  refine xtn ?_
  refine c_ret ?_
  have hlat := S.laterT (M := M) q2
  refine end1 S (fun _ => ?_)
  refine ⟨.mk 8 u leaf [] (some ⟨b20, 0, none⟩) 1 [q2], rfl, ?_, fun w' hw' => ?_⟩
  · show Term.mk 8 u leaf [] [q2.t] = _
    rw [hq2]
    simp only [List.map_cons, List.map_nil, hq]; rfl
  · have h1 := hlat w' hw'
    exact ⟨by simp, by simp [maxLen], LsIn.of_block [q2] (S.laterBox hw' b20) (fun x hx => by obtain rfl := List.mem_singleton.1 hx; exact h1)⟩
def FRead16 (M : Nat → Prop) (u : Int) (T R : Term) (v : Value) (w : World) : Prop := ∃ (n : Int) (p : Option Addr) (c : Nat) (ms : List LMark) (b : Bool), v = .tuple ⟨[.int .i64 n, .slice p ms.length c, .bool b]⟩ ∧ Stable M w (GlF p ms) ∧ ms.length ≤ 1200 ∧
  (b = true → FreshOk u n ms T R) ∧ (b = false → ∀ n ms, ¬ FreshOk u n ms T R)
theorem rread16_c (u : Int) (s r : LTerm) (M : Nat → Prop) (w0 : World) (hM : ∀ k, M k → k < w0.heap.size) (hs : Stable M w0 (LtF s)) (hr : Stable M w0 (LtF r)) :
    Ret Tryz.prog 10 [.int .i64 u, vL s, vL r] w0 (fun _ => False) fun v w' => FRead16 M u s.t r.t v w' := by
  refine enter Tryz.func10 rfl rfl (Wd.beginM (M := M) (fs := [LtF s, LtF r]) hM (by simp; exact ⟨hs, hr⟩)) (fun a S => ?_)
  simp only [Tryz.ntmps10, List.length_cons, List.length_nil, Nat.reduceAdd, Nat.reduceSub, List.replicate_succ, List.replicate_zero, List.cons_append, List.nil_append] at S
  refine c_seq ?_
  refine c_region ?_
  refine sa S ?_; clear S; intro b4 a w S
  refine sa S ?_; clear S; intro b5 a w S
  iterate 3 (refine sq S ?_; clear S; intro a S)
  refine wl_nil ?_
  refine xtn ?_
  iterate 2 (refine c_seq ?_)
  refine c_region ?_
  refine sq S ?_; clear S; intro a S
  refine sc S ?_; clear S; intro a w S
  iterate 2 (refine sq S ?_; clear S; intro a S)
  refine gQ S ?_; clear S; intro a S
  refine gC S ?_; clear S; intro a w S
  refine gQ S ?_; clear S; intro a S
  iterate 2 (refine sq S ?_; clear S; intro a S)
  iterate 3 (refine gQ S ?_; clear S; intro a S)
  refine sq S ?_; clear S; intro a S
  refine wl_nil ?_
  refine xtn ?_
  refine c_cond S (fun h1 => ?_) (fun h1 => ?_)
  · refine c_seq ?_
    refine c_region ?_
    iterate 3 (refine sq S ?_; clear S; intro a S)
    refine wl_nil ?_
    refine xtn ?_
    refine c_ret ?_
    refine xtr ?_
    refine end3 S (fun _ => ?_)
    refine ⟨0, none, 0, [], false, rfl, fun w' _ => gl_nil, by simp, nofun, fun _ n' ms' hok => ?_⟩
    obtain ⟨-, -, hg, ⟨lf, he⟩, -, hg2⟩ := hok
    have hk : s.kind = 8 := by rw [← kind_t16, he]; rfl
    simp [right_good.2 hg, right_good.2 hg2, hk] at h1
  · refine c_skip ?_
    refine xtn ?_
    refine c_seq ?_
    have hgk : Good s.t ∧ Good r.t ∧ s.kind = 8 := by
      simp only [Bool.or_eq_false_iff, Bool.not_eq_false', decide_eq_true_eq] at h1
      exact ⟨right_good.1 h1.1.1, right_good.1 h1.1.2, h1.2⟩
    obtain ⟨hg, hgr, hk8⟩ := hgk
    refine c_region ?_
    refine sq S ?_; clear S; intro a S
    refine sr S (r14read_c r hgr _ w (foots_lt S) (S.t r)) ?_; clear S; rintro _ a w ⟨p, c, ms, b1, rfl, hms, hmc, hml, hy1, hy0⟩ S
    replace S := S.add hms
    iterate 5 (refine sq S ?_; clear S; intro a S)
    refine wl_nil ?_
    refine xtn ?_
    iterate 2 (refine c_seq ?_)
    refine c_region ?_
    iterate 2 (refine sq S ?_; clear S; intro a S)
    refine wl_nil ?_
    refine xtn ?_
    refine c_cond S (fun h4 => ?_) (fun h4 => ?_)
    · refine c_seq ?_
      refine c_region ?_
      iterate 3 (refine sq S ?_; clear S; intro a S)
      refine wl_nil ?_
      refine xtn ?_
      refine c_ret ?_
      refine xtr ?_
      have hb : b1 = false := by simpa using h4
      refine end3 S (fun _ => ?_)
      exact ⟨0, none, 0, [], false, rfl, fun w' _ => gl_nil, by simp, nofun, fun _ n' ms' hok => hy0 hb ms' hok.2.1 hok.2.2.2.2.1⟩
    · refine c_skip ?_
      refine xtn ?_
      refine c_seq ?_
      have hb1 : b1 = true := by simpa using h4
      obtain ⟨hom, hrw⟩ := hy1 hb1
      obtain ⟨hl1, hst, hu1, hn1⟩ := good_signK hg hk8
      have hK0 : KLt 0 s.kids.length := ⟨by omega⟩
      have hg0 : Good (nthL s.kids 0).t := by
        have h := hg
        rw [hst] at h
        exact good_kid h (by simp)
      refine c_region ?_
      iterate 4 (refine sq S ?_; clear S; intro a S)
      refine sr S (runlist_c (nthL s.kids 0) (by have := good_dpt hg0; omega) _ w (foots_lt S) (S.t _)) ?_; clear S; rintro _ a w ⟨pu, cu, us, b0, rfl, hus, hul, hb⟩ S
      replace S := S.add hus
      obtain ⟨hba, hbb⟩ := hb hg0
      have hneg : ∀ n' ms', FreshOk u n' ms' s.t r.t → ms' = ms ∧ b0 = true ∧ s.user = u ∧ us.map LTerm.t = [textT wordR, textT (Lib.itoa n'), rootT ms] := fun n' ms' hok => by
        obtain ⟨-, a2, -, ⟨lf, a4⟩, a5, -⟩ := hok
        have hm : ms' = ms := write_inj (okM_V a2).2 (okM_V hom).2 (a5.symm.trans hrw)
        subst hm
        rw [hst] at a4
        simp only [rootedT, signT, Term.mk.injEq, List.cons.injEq, and_true, true_and] at a4
        cases hb : b0 with
        | false => exact absurd a4.2.2 ((hbb hb).2 _)
        | true => exact ⟨rfl, rfl, a4.1, listT_inj (by rw [← hba hb]; exact a4.2.2)⟩
      iterate 5 (refine sq S ?_; clear S; intro a S)
      refine wl_nil ?_
      refine xtn ?_
      iterate 2 (refine c_seq ?_)
      refine c_region ?_
      iterate 3 (refine sq S ?_; clear S; intro a S)
      iterate 3 (refine gQ S ?_; clear S; intro a S)
      iterate 2 (refine sq S ?_; clear S; intro a S)
      refine gS S (fun hg7 S => ?_) (fun hg7 S => ?_)
      · refine gF' S ?_; clear S; intro a S
        iterate 4 (refine gF' S ?_; clear S; intro a S)
        refine sq S ?_; clear S; intro a S
        refine wl_nil ?_
        refine xtn ?_
        refine c_condT S ?_
        refine c_seq ?_
        refine c_region ?_
        iterate 3 (refine sq S ?_; clear S; intro a S)
        refine wl_nil ?_
        refine xtn ?_
        refine c_ret ?_
        refine xtr ?_
        refine end3 S (fun _ => ?_)
        refine ⟨0, none, 0, [], false, rfl, fun w' _ => gl_nil, by simp, nofun, fun _ n' ms' hok => ?_⟩
        obtain ⟨-, e1, -, e2⟩ := hneg n' ms' hok
        have hu3 : us.length = 3 := by have := congrArg List.length e2; simpa using this
        simp [e1, hu3] at hg7
      · refine gT' S ?_
        refine sq S ?_; clear S; intro a S
        refine gT' S ?_
        have hu3' : b0 = true ∧ us.length = 3 := by
          simp only [Bool.or_eq_false_iff, Bool.not_eq_false', decide_eq_true_eq] at hg7
          exact ⟨hg7.1, by have := hg7.2; omega⟩
        have hK1' : KLt 1 us.length := ⟨by omega⟩
        refine sq S ?_; clear S; intro a S
        refine gT' S ?_
        refine sq S ?_; clear S; intro a S
        refine gT' S ?_
        refine sq S ?_; clear S; intro a S
        refine gT' S ?_
        iterate 2 (refine sq S ?_; clear S; intro a S)
        refine wl_nil ?_
        refine xtn ?_
        refine c_cond S (fun h7 => ?_) (fun h7 => ?_)
        · refine c_seq ?_
          refine c_region ?_
          iterate 3 (refine sq S ?_; clear S; intro a S)
          refine wl_nil ?_
          refine xtn ?_
          refine c_ret ?_
          refine xtr ?_
          refine end3 S (fun _ => ?_)
          refine ⟨0, none, 0, [], false, rfl, fun w' _ => gl_nil, by simp, nofun, fun _ n' ms' hok => ?_⟩
          obtain ⟨-, e1, -, e2⟩ := hneg n' ms' hok
          have hu3 : us.length = 3 := by have := congrArg List.length e2; simpa using this
          have e3 : (nthL us 1).t = textT (Lib.itoa n') := by
            match us, hu3, e2 with
            | [_, _, _], _, e2 => simp only [List.map_cons, List.cons.injEq] at e2; exact e2.2.1
          have := (text_of e3).1
          simp [this] at h7
        · refine c_skip ?_
          refine xtn ?_
          refine c_seq ?_
          obtain ⟨hbt, hu3⟩ := hu3'
          have hK1 : KLt 1 us.length := ⟨by omega⟩
          have hel : ∀ n' ms', FreshOk u n' ms' s.t r.t → (nthL us 1).t = textT (Lib.itoa n') := fun n' ms' hok => by
            obtain ⟨-, e1, -, e2⟩ := hneg n' ms' hok
            match us, hu3, e2 with
            | [_, _, _], _, e2 => simp only [List.map_cons, List.cons.injEq] at e2; exact e2.2.1
          have hk1 : (nthL us 1).kind = 1 := by simpa using h7
          have hgu1 : Good (nthL us 1).t := by
            have h := hg0
            rw [hba hbt] at h
            exact good_lst _ h _ (List.mem_map.2 ⟨_, nth_mem (by omega), rfl⟩)
          have htl := (good_textK hgu1 hk1).2
          obtain ⟨tx, htx⟩ : ∃ tx : List UInt8, tx = (nthL us 1).text := ⟨_, rfl⟩
          refine c_region ?_
          refine sq S ?_; clear S; intro a S
          refine wl_nil ?_
          refine xtn ?_
          iterate 2 (refine c_seq ?_)
          refine c_region ?_
          iterate 4 (refine sq S ?_; clear S; intro a S)
          refine sbyt S ?_; clear S; intro b62 c62 a w S
          rw [← htx] at S htl
          iterate 2 (refine sq S ?_; clear S; intro a S)
          refine wl_nil ?_
          refine xtn ?_
          refine c_block ?_
          refine c_forb1 S (fun (k : Nat) uu => [(6, uu 6), (0, uu 7), (0, uu 8), (4, .int .i64 ((valF (tx.take k) 0 : Nat) : Int)), (1, uu 15), (48, .int .i64 (k : Nat)), (0, uu 65), (0, uu 66), (0, uu 67), (0, uu 68), (0, uu 69), (0, uu 70), (0, uu 71), (0, uu 72), (0, uu 73), (0, uu 74), (0, uu 75), (0, uu 76), (0, uu 77), (0, uu 78), (0, uu 79), (0, uu 80), (0, uu 81), (0, uu 82), (0, uu 83), (0, uu 84)]) (fun (k : Nat) => k ≤ tx.length ∧ valF (tx.take k) 0 ≤ 655359) (fun (k : Nat) => tx.length - k) (0) ?_ S.uu ?_ ?_
          · exact ⟨Nat.zero_le _, by simp [valF]⟩
          · first | exact S | exact S.sub _ _
          · clear S; rintro k uu a w ⟨hk, hval⟩ S
            refine c_seq ?_
            refine c_region ?_
            refine sq S ?_; clear S; intro a S
            refine wl_nil ?_
            refine xtn ?_
            refine c_seq ?_
            refine c_cond S (fun h11 => ?_) (fun h11 => ?_)
            · refine c_skip ?_
              refine xtn ?_
              refine c_seq ?_
              refine c_block ?_
              refine c_seq ?_
              have hkl : k < tx.length := by simp at h11; omega
              have hK : KLt k tx.length := ⟨hkl⟩
              refine c_region ?_
              iterate 3 (refine sq S ?_; clear S; intro a S)
              refine wl_nil ?_
              refine xtn ?_
              iterate 2 (refine c_seq ?_)
              refine c_region ?_
              iterate 3 (refine sq S ?_; clear S; intro a S)
              iterate 2 (refine gQ S ?_; clear S; intro a S)
              iterate 2 (refine sq S ?_; clear S; intro a S)
              iterate 2 (refine gQ S ?_; clear S; intro a S)
              refine sq S ?_; clear S; intro a S
              refine wl_nil ?_
              refine xtn ?_
              refine c_cond S (fun h13 => ?_) (fun h13 => ?_)
              · refine c_seq ?_
                refine c_region ?_
                iterate 3 (refine sq S ?_; clear S; intro a S)
                refine wl_nil ?_
                refine xtn ?_
                refine c_ret ?_
                refine xtr ?_
                refine xbr ?_
                iterate 2 (refine xtr ?_)
                refine xbr ?_
                refine xtr ?_
                refine end3 S (fun _ => ?_)
                refine ⟨0, none, 0, [], false, rfl, fun w' _ => gl_nil, by simp, nofun, fun _ n' ms' hok => ?_⟩
                obtain ⟨-, -, -, -, -, a6, a7⟩ := num_text (hel n' ms' hok) (by have := hok.1; omega) hok.1.2 (by omega)
                rw [← htx] at a6 a7
                have h1 := a7 k hkl
                have h2 := val_pre tx k
                have h3 := hok.1.2
                simp only [Bool.or_eq_true, decide_eq_true_eq, isD] at h13 h1
                omega
              · refine c_skip ?_
                refine xtn ?_
                have hdig : 48 ≤ (nthG tx k).toNat ∧ (nthG tx k).toNat ≤ 57 := by
                  simp only [Bool.or_eq_false_iff, decide_eq_false_iff_not] at h13; omega
                have hv16 : valF (tx.take k) 0 ≤ 65535 := by
                  simp only [Bool.or_eq_false_iff, decide_eq_false_iff_not] at h13; omega
                have hvt := val_take hkl
                refine c_region ?_
                iterate 2 (refine sq S ?_; clear S; intro a S)
                rw [w64 (10 * ((valF (tx.take k) 0 : Nat) : Int)) (by omega) (by omega)] at S
                iterate 2 (refine sq S ?_; clear S; intro a S)
                rw [u8_sub hdig] at S
                refine sq S ?_; clear S; intro a S
                rw [w64 (((nthG tx k).toNat - 48 : Nat) : Int) (by omega) (by omega)] at S
                refine sq S ?_; clear S; intro a S
                rw [w64 (10 * ((valF (tx.take k) 0 : Nat) : Int) + (((nthG tx k).toNat - 48 : Nat) : Int)) (by omega) (by omega), show 10 * ((valF (tx.take k) 0 : Nat) : Int) + (((nthG tx k).toNat - 48 : Nat) : Int) = ((valF (tx.take (k + 1)) 0 : Nat) : Int) from by omega] at S
                refine sq S ?_; clear S; intro a S
                refine wl_nil ?_
                refine xbn ?_
                refine xtn ?_
                refine c_region ?_
                iterate 2 (refine sq S ?_; clear S; intro a S)
                refine wl_nil ?_
                refine xtn ?_
                rw [w64 ((k : Int) + 1) (by omega) (by omega)] at S
                exact ⟨k + 1, S.uu, ⟨hkl, by omega⟩, S.sub _ _, by omega⟩
            · refine c_exit ?_
              iterate 2 (refine xte ?_)
              refine xbe ?_
              refine xtn ?_
              iterate 2 (refine c_seq ?_)
              have hkl : k = tx.length := by simp at h11; omega
              subst hkl
              rw [List.take_length] at S hval
              have hvalid : ∀ n' ms', FreshOk u n' ms' s.t r.t → ms' = ms ∧ ((valF tx 0 : Nat) : Int) = n' ∧ s.t = rootedT u s.num n' (rootT ms) := fun n' ms' hok => by
                obtain ⟨e0, e1, e4, e2⟩ := hneg n' ms' hok
                obtain ⟨-, -, -, -, -, a6, -⟩ := num_text (hel n' ms' hok) (by have := hok.1; omega) hok.1.2 (by omega)
                rw [← htx] at a6
                refine ⟨e0, a6, ?_⟩
                rw [hst, hba hbt, e2, e4]; rfl
              obtain ⟨v1, v2, -, -⟩ := okV ms hom
              refine c_drawD [(0, true), (1, false), (2, true), (3, true), (4, true), (5, true), (6, true), (7, true), (8, true), (9, true), (10, false), (11, false), (12, true), (13, true)] [] S ?_; clear S; intro w S
              refine dq S ?_; clear S; intro a S
              refine dl ?_
              refine sc S ?_; clear S; intro a w S
              refine de S ?_
              iterate 2 (refine dq S ?_; clear S; intro a S)
              iterate 6 (refine dqG S ?_; clear S; intro a S)
              refine dl ?_
              refine gCT (T := rootedT u s.num ((valF tx 0 : Nat) : Int) (rootT ms)) S (fun hc => ?_) ?_
              · exact signed16_c u s.num ((valF tx 0 : Nat) : Int) ms p c (by omega) (by omega) hmc v2 _ w (foots_lt S) (S.mem.fact (GlF p ms))
              clear S; intro q a w hq hqf S
              replace S := S.add hqf
              refine de S ?_
              refine dl ?_
              refine gC S ?_; clear S; intro a w S
              refine de S ?_
              refine dqG S ?_; clear S; intro a S
              refine dq S ?_; clear S; intro a S
              refine dn ?_
              refine xtn ?_
              refine c_cond S (fun h17 => ?_) (fun h17 => ?_)
              · refine c_seq ?_
                refine c_region ?_
                iterate 3 (refine sq S ?_; clear S; intro a S)
                refine wl_nil ?_
                refine xtn ?_
                refine c_ret ?_
                refine xtr ?_
                refine end3 S (fun _ => ?_)
                refine ⟨0, none, 0, [], false, rfl, fun w' _ => gl_nil, by simp, nofun, fun _ n' ms' hok => ?_⟩
                obtain ⟨e0, e1, e2⟩ := hvalid n' ms' hok
                have hcn : countF ((valF tx 0 : Nat) : Int) = true := by rw [e1]; simp [countF, hok.1.1, hok.1.2]
                have hq2 := hq (by simp [hcn])
                have hsm : sameF s.t q.t = true := (sameF_iff _ _).2 (by rw [hq2, e1]; exact e2)
                simp [hcn, hsm] at h17
              · refine c_skip ?_
                refine xtn ?_
                refine c_seq ?_
                refine c_region ?_
                iterate 5 (refine sq S ?_; clear S; intro a S)
                refine wl_nil ?_
                refine xtn ?_
                refine c_ret ?_
                have hlat : Stable M w (GlF p ms) := S.laterFact (Φ := GlF p ms) (by simp)
                have hcs : countF ((valF tx 0 : Nat) : Int) = true ∧ sameF s.t q.t = true := by
                  simpa using h17
                obtain ⟨hcn, hsm⟩ := hcs
                have hq2 := hq (by simp [hcn])
                have hcc : 1 ≤ ((valF tx 0 : Nat) : Int) ∧ ((valF tx 0 : Nat) : Int) ≤ 65535 := by simpa [countF] using hcn
                refine end3 S (fun _ => ?_)
                exact ⟨((valF tx 0 : Nat) : Int), p, c, ms, true, rfl, hlat, hml, fun _ => ⟨hcc, hom, hg, ⟨s.num, by rw [← hq2]; exact (sameF_iff _ _).1 hsm⟩, hrw, hgr⟩, nofun⟩
end Go.Proofs.YtieeoakdkbackaaGreatDoor

/- Layer 16: FreshReads. -/
namespace Go.Proofs.YtieeoakdkbackaaGreatDoor
open Go Go.Wk
set_option synthInstance.maxSize 100000
set_option synthInstance.maxHeartbeats 400000
set_option maxRecDepth 100000

/-- an item is taken to the front. -/
theorem St.pull16 {w0 : World} {M0 : Nat → Prop} {ds : List Deferred} {a : Act} {w : World} {l : List Value} {bs bs' : List Wk.Item} {fs : List (World → Prop)} (x : Wk.Item) [hd : DropI bs x bs'] (S : St w0 M0 ds a w l bs fs) : St w0 M0 ds a w l (x :: bs') fs := S.perm _ hd.perm
theorem row16_d (r : LRow16) (M : Nat → Prop) (w0 : World) (hM : ∀ k, M k → k < w0.heap.size) (hs : Stable M w0 (LtF r.signed)) (ht : Stable M w0 (LtF r.rows)) :
    Ret Tryz.prog 8 [vRow16 r] w0 (fun _ => False) fun v w' => ∃ r', v = vRow16 r' ∧ r'.user = r.user ∧ r'.signed.t = small14 24 r.signed.t ∧ r'.rows.t = small14 24 r.rows.t ∧ Stable M w' (LtF r'.signed) ∧ Stable M w' (LtF r'.rows) :=
  (row16_c r M w0 hM hs ht).mono fun _ _ ⟨s, t, h1, h2, h3, h4, h5⟩ => ⟨⟨r.user, s, t⟩, h1, rfl, h2, h3, h4, h5⟩
theorem freshreads_c (l : List LRow16) (p : Option Addr) (c : Nat) (w0 : World) (hl : l.length ≤ 9223372036854775807) (ht : Stable (fun _ => False) w0 LibF) (hx : Stable (fun _ => False) w0 (GlF p l)) :
    Ret Tryz.prog 3 [.slice p l.length c] w0 (fun _ => False) fun v _ => v = .bool true := by
  refine enter Tryz.func3 rfl rfl (Wd.begin (fs := [TabF, LibF, GlF p l]) (by simp; exact ⟨ht.imp fun _ h => h.1, ht, hx⟩)) (fun a S => ?_)
  simp only [Tryz.ntmps3, List.length_cons, List.length_nil, Nat.reduceAdd, Nat.reduceSub, List.replicate_succ, List.replicate_zero, List.cons_append, List.nil_append] at S
  refine c_seq ?_
  refine c_region ?_
  refine sq S ?_; clear S; intro a S
  refine wl_nil ?_
  refine xtn ?_
  iterate 2 (refine c_seq ?_)
  refine c_region ?_
  refine sr S (wakes16_c _ (S.mem.fact0 LibF)) ?_; clear S; rintro _ a w rfl S
  refine sq S ?_; clear S; intro a S
  rw [show (!true) = false from rfl] at S
  refine wl_nil ?_
  refine xtn ?_
  refine c_condF S ?_
  refine c_skip ?_
  refine xtn ?_
  iterate 2 (refine c_seq ?_)
  refine c_region ?_
  iterate 3 (refine sq S ?_; clear S; intro a S)
  refine wl_nil ?_
  refine xtn ?_
  refine c_block ?_
  refine c_fore1 S (fun (k : Nat) uu => [(2, uu 2), (0, uu 3), (0, uu 4), (0, uu 5), (0, uu 6), (0, uu 7), (0, uu 8), (0, uu 9), (0, uu 10), (0, uu 11), (0, uu 12), (4, .int .i64 (k : Nat)), (0, uu 18), (0, uu 19), (0, uu 20), (0, uu 21), (0, uu 22), (0, uu 23), (0, uu 24), (0, uu 25), (0, uu 26), (0, uu 27), (0, uu 28), (0, uu 29), (0, uu 30), (0, uu 31), (0, uu 32), (0, uu 33), (0, uu 34), (0, uu 35), (0, uu 36), (0, uu 37), (0, uu 38), (0, uu 39), (0, uu 40), (0, uu 41), (0, uu 42), (0, uu 43), (0, uu 44), (0, uu 45), (0, uu 46), (0, uu 47), (0, uu 48), (0, uu 49), (0, uu 50), (0, uu 51), (0, uu 52), (0, uu 53), (0, uu 54), (0, uu 55), (0, uu 56), (0, uu 57), (0, uu 58), (0, uu 59), (0, uu 60), (0, uu 61), (0, uu 62), (0, uu 63), (0, uu 64), (0, uu 65), (0, uu 66), (0, uu 67), (0, uu 68), (0, uu 69), (0, uu 70), (0, uu 71), (0, uu 72), (0, uu 73), (0, uu 74), (0, uu 75), (0, uu 76), (0, uu 77), (0, uu 78), (0, uu 79), (0, uu 80), (0, uu 81), (0, uu 82), (0, uu 83), (0, uu 84), (0, uu 85), (0, uu 86), (0, uu 87), (0, uu 88), (0, uu 89), (0, uu 90)]) (fun (k : Nat) => []) (fun (k : Nat) => [TabF, LibF, GlF p l]) (fun (k : Nat) => k ≤ l.length) (fun (k : Nat) => l.length - k) (0) ?_ S.uu ?_ ?_
  · exact Nat.zero_le _
  · first | exact S | exact S.sub _ _
  · clear S; rintro k uu a w hk S
    refine c_seq ?_
    refine c_region ?_
    refine sq S ?_; clear S; intro a S
    refine wl_nil ?_
    refine xtn ?_
    refine c_seq ?_
    refine c_cond S (fun h4 => ?_) (fun h4 => ?_)
    · refine c_skip ?_
      refine xtn ?_
      refine c_seq ?_
      refine c_block ?_
      refine c_seq ?_
      have hkl : k < l.length := by simp at h4; omega
      have hK : KLt k l.length := ⟨hkl⟩
      refine c_region ?_
      iterate 3 (refine sq S ?_; clear S; intro a S)
      refine sa S ?_; clear S; intro b4 a w S
      refine sq S ?_; clear S; intro a S
      refine sw S ?_; clear S; intro a w S
      refine wl_nil ?_
      refine xtn ?_
      iterate 2 (refine c_seq ?_)
      refine c_region ?_
      iterate 2 (refine sq S ?_; clear S; intro a S)
      refine wl_nil ?_
      refine xtn ?_
      refine c_cond S (fun h6 => ?_) (fun h6 => ?_)
      · refine c_exit ?_
        refine xte ?_
        refine xbx ?_
        iterate 2 (refine xte ?_)
        refine xbe ?_
        refine xtn ?_
        refine c_seq ?_
        refine c_region ?_
        refine sq S ?_; clear S; intro a S
        refine wl_nil ?_
        refine xtn ?_
        refine c_ret ?_
        refine end1 S (fun _ => rfl)
      · refine c_skip ?_
        refine xtn ?_
        refine c_seq ?_
        have hin : Stable (foots _) w (LtF (nthG l k).signed) := (S.mem.fact (GlF p l)).imp fun _ h => (h.2 _ (nthG_mem hkl)).1
        have hin2 : Stable (foots _) w (LtF (nthG l k).rows) := (S.mem.fact (GlF p l)).imp fun _ h => (h.2 _ (nthG_mem hkl)).2
        replace S := (S.add hin).add hin2
        refine c_drwe4 (.q 0 (.q 2 (.b3 1 4 5 (.b3 3 4 5 (.b2 4 5 (.l 5 (.l 6 (.l 7 (.e)))) (.l 4 (.l 6 (.l 7 (.e))))) (.b2 3 5 (.l 5 (.l 6 (.l 7 (.e)))) (.l 3 (.l 6 (.l 7 (.e))))) (.b2 3 4 (.l 4 (.l 6 (.l 7 (.e)))) (.l 3 (.l 6 (.l 7 (.e)))))) (.b2 1 5 (.b2 3 5 (.l 5 (.l 6 (.l 7 (.e)))) (.l 3 (.l 6 (.l 7 (.e))))) (.l 1 (.l 3 (.l 6 (.l 7 (.e)))))) (.b2 1 4 (.b2 3 4 (.l 4 (.l 6 (.l 7 (.e)))) (.l 3 (.l 6 (.l 7 (.e))))) (.l 1 (.l 3 (.l 6 (.l 7 (.e))))))))) S (fun (b : Nat) (d : Nat) (x : LRow16) (y : LRow16) uu => [(5, .pointer (some ⟨b, 0, none⟩)), (0, .pointer (some ⟨d, 0, none⟩)), (17, uu 24), (0, uu 25), (0, uu 26), (0, uu 27)]) [Wk.box b4 28 (cRow16 (nthG l k))] (fun (b : Nat) (d : Nat) (x : LRow16) (y : LRow16) => [Wk.box b 28 (cRow16 x), Wk.box d 28 (cRow16 y), Wk.box b4 28 (cRow16 (nthG l k))]) (fun (b : Nat) (d : Nat) (x : LRow16) (y : LRow16) => [LtF x.signed, LtF x.rows, LtF y.signed, LtF y.rows, TabF, LibF, GlF p l]) (fun (b : Nat) (d : Nat) (x : LRow16) (y : LRow16) => (x.user = (nthG l k).user ∧ x.signed.t = small14 24 (nthG l k).signed.t ∧ x.rows.t = small14 24 (nthG l k).rows.t) ∧ y.user = (nthG l k).user ∧ y.signed.t = small14 24 (nthG l k).signed.t ∧ y.rows.t = small14 24 (nthG l k).rows.t) ?_ ?_
        · intro w S
          iterate 2 (refine tq S ?_; clear S; intro a S)
          refine tb3 ?_ ?_ ?_
          · refine sr S (row16_d (nthG l k) _ w (foots_lt S) (S.t (nthG l k).signed) (S.t (nthG l k).rows)) ?_; clear S; rintro _ a w ⟨x, rfl, hxu, hxs, hxr, hf1, hf2⟩ S
            replace S := (S.add hf1).add hf2
            refine te S ?_
            refine tb3 ?_ ?_ ?_
            · refine sr S (row16_d (nthG l k) _ w (foots_lt S) (S.t (nthG l k).signed) (S.t (nthG l k).rows)) ?_; clear S; rintro _ a w ⟨y, rfl, hyu, hys, hyr, hf1, hf2⟩ S
              replace S := (S.add hf1).add hf2
              refine te S ?_
              refine tb2 ?_ ?_
              · refine sa S ?_; clear S; intro b5 a w S
                refine te S ?_
                refine tl ?_
                refine sa S ?_; clear S; intro b6 a w S
                refine te S ?_
                refine tl ?_
                refine sw S ?_; clear S; intro a w S
                refine te S ?_
                refine tl ?_
                refine sw S ?_; clear S; intro a w S
                refine te S ?_
                refine tn ?_
                have f1 := S.t x.signed
                have f2 := S.t x.rows
                have f3 := S.t y.signed
                have f4 := S.t y.rows
                replace S := (((S.add f4).add f3).add f2).add f1
                exact ⟨b5, b6, x, y, S.uu, ⟨⟨hxu, hxs, hxr⟩, hyu, hys, hyr⟩, (St.pull16 (Wk.box b5 28 (cRow16 x)) (St.pull16 (Wk.box b6 28 (cRow16 y)) S)).sub _ _⟩
              · refine sa S ?_; clear S; intro b6 a w S
                refine te S ?_
                refine tl ?_
                refine sa S ?_; clear S; intro b5 a w S
                refine te S ?_
                refine tl ?_
                refine sw S ?_; clear S; intro a w S
                refine te S ?_
                refine tl ?_
                refine sw S ?_; clear S; intro a w S
                refine te S ?_
                refine tn ?_
                have f1 := S.t x.signed
                have f2 := S.t x.rows
                have f3 := S.t y.signed
                have f4 := S.t y.rows
                replace S := (((S.add f4).add f3).add f2).add f1
                exact ⟨b5, b6, x, y, S.uu, ⟨⟨hxu, hxs, hxr⟩, hyu, hys, hyr⟩, (St.pull16 (Wk.box b5 28 (cRow16 x)) (St.pull16 (Wk.box b6 28 (cRow16 y)) S)).sub _ _⟩
            · refine sa S ?_; clear S; intro b5 a w S
              refine te S ?_
              refine tb2 ?_ ?_
              · refine sr S (row16_d (nthG l k) _ w (foots_lt S) (S.t (nthG l k).signed) (S.t (nthG l k).rows)) ?_; clear S; rintro _ a w ⟨y, rfl, hyu, hys, hyr, hf1, hf2⟩ S
                replace S := (S.add hf1).add hf2
                refine te S ?_
                refine tl ?_
                refine sa S ?_; clear S; intro b6 a w S
                refine te S ?_
                refine tl ?_
                refine sw S ?_; clear S; intro a w S
                refine te S ?_
                refine tl ?_
                refine sw S ?_; clear S; intro a w S
                refine te S ?_
                refine tn ?_
                have f1 := S.t x.signed
                have f2 := S.t x.rows
                have f3 := S.t y.signed
                have f4 := S.t y.rows
                replace S := (((S.add f4).add f3).add f2).add f1
                exact ⟨b5, b6, x, y, S.uu, ⟨⟨hxu, hxs, hxr⟩, hyu, hys, hyr⟩, (St.pull16 (Wk.box b5 28 (cRow16 x)) (St.pull16 (Wk.box b6 28 (cRow16 y)) S)).sub _ _⟩
              · refine sa S ?_; clear S; intro b6 a w S
                refine te S ?_
                refine tl ?_
                refine sr S (row16_d (nthG l k) _ w (foots_lt S) (S.t (nthG l k).signed) (S.t (nthG l k).rows)) ?_; clear S; rintro _ a w ⟨y, rfl, hyu, hys, hyr, hf1, hf2⟩ S
                replace S := (S.add hf1).add hf2
                refine te S ?_
                refine tl ?_
                refine sw S ?_; clear S; intro a w S
                refine te S ?_
                refine tl ?_
                refine sw S ?_; clear S; intro a w S
                refine te S ?_
                refine tn ?_
                have f1 := S.t x.signed
                have f2 := S.t x.rows
                have f3 := S.t y.signed
                have f4 := S.t y.rows
                replace S := (((S.add f4).add f3).add f2).add f1
                exact ⟨b5, b6, x, y, S.uu, ⟨⟨hxu, hxs, hxr⟩, hyu, hys, hyr⟩, (St.pull16 (Wk.box b5 28 (cRow16 x)) (St.pull16 (Wk.box b6 28 (cRow16 y)) S)).sub _ _⟩
            · refine sa S ?_; clear S; intro b6 a w S
              refine te S ?_
              refine tb2 ?_ ?_
              · refine sr S (row16_d (nthG l k) _ w (foots_lt S) (S.t (nthG l k).signed) (S.t (nthG l k).rows)) ?_; clear S; rintro _ a w ⟨y, rfl, hyu, hys, hyr, hf1, hf2⟩ S
                replace S := (S.add hf1).add hf2
                refine te S ?_
                refine tl ?_
                refine sa S ?_; clear S; intro b5 a w S
                refine te S ?_
                refine tl ?_
                refine sw S ?_; clear S; intro a w S
                refine te S ?_
                refine tl ?_
                refine sw S ?_; clear S; intro a w S
                refine te S ?_
                refine tn ?_
                have f1 := S.t x.signed
                have f2 := S.t x.rows
                have f3 := S.t y.signed
                have f4 := S.t y.rows
                replace S := (((S.add f4).add f3).add f2).add f1
                exact ⟨b5, b6, x, y, S.uu, ⟨⟨hxu, hxs, hxr⟩, hyu, hys, hyr⟩, (St.pull16 (Wk.box b5 28 (cRow16 x)) (St.pull16 (Wk.box b6 28 (cRow16 y)) S)).sub _ _⟩
              · refine sa S ?_; clear S; intro b5 a w S
                refine te S ?_
                refine tl ?_
                refine sr S (row16_d (nthG l k) _ w (foots_lt S) (S.t (nthG l k).signed) (S.t (nthG l k).rows)) ?_; clear S; rintro _ a w ⟨y, rfl, hyu, hys, hyr, hf1, hf2⟩ S
                replace S := (S.add hf1).add hf2
                refine te S ?_
                refine tl ?_
                refine sw S ?_; clear S; intro a w S
                refine te S ?_
                refine tl ?_
                refine sw S ?_; clear S; intro a w S
                refine te S ?_
                refine tn ?_
                have f1 := S.t x.signed
                have f2 := S.t x.rows
                have f3 := S.t y.signed
                have f4 := S.t y.rows
                replace S := (((S.add f4).add f3).add f2).add f1
                exact ⟨b5, b6, x, y, S.uu, ⟨⟨hxu, hxs, hxr⟩, hyu, hys, hyr⟩, (St.pull16 (Wk.box b5 28 (cRow16 x)) (St.pull16 (Wk.box b6 28 (cRow16 y)) S)).sub _ _⟩
          · refine sa S ?_; clear S; intro b5 a w S
            refine te S ?_
            refine tb2 ?_ ?_
            · refine sr S (row16_d (nthG l k) _ w (foots_lt S) (S.t (nthG l k).signed) (S.t (nthG l k).rows)) ?_; clear S; rintro _ a w ⟨x, rfl, hxu, hxs, hxr, hf1, hf2⟩ S
              replace S := (S.add hf1).add hf2
              refine te S ?_
              refine tb2 ?_ ?_
              · refine sr S (row16_d (nthG l k) _ w (foots_lt S) (S.t (nthG l k).signed) (S.t (nthG l k).rows)) ?_; clear S; rintro _ a w ⟨y, rfl, hyu, hys, hyr, hf1, hf2⟩ S
                replace S := (S.add hf1).add hf2
                refine te S ?_
                refine tl ?_
                refine sa S ?_; clear S; intro b6 a w S
                refine te S ?_
                refine tl ?_
                refine sw S ?_; clear S; intro a w S
                refine te S ?_
                refine tl ?_
                refine sw S ?_; clear S; intro a w S
                refine te S ?_
                refine tn ?_
                have f1 := S.t x.signed
                have f2 := S.t x.rows
                have f3 := S.t y.signed
                have f4 := S.t y.rows
                replace S := (((S.add f4).add f3).add f2).add f1
                exact ⟨b5, b6, x, y, S.uu, ⟨⟨hxu, hxs, hxr⟩, hyu, hys, hyr⟩, (St.pull16 (Wk.box b5 28 (cRow16 x)) (St.pull16 (Wk.box b6 28 (cRow16 y)) S)).sub _ _⟩
              · refine sa S ?_; clear S; intro b6 a w S
                refine te S ?_
                refine tl ?_
                refine sr S (row16_d (nthG l k) _ w (foots_lt S) (S.t (nthG l k).signed) (S.t (nthG l k).rows)) ?_; clear S; rintro _ a w ⟨y, rfl, hyu, hys, hyr, hf1, hf2⟩ S
                replace S := (S.add hf1).add hf2
                refine te S ?_
                refine tl ?_
                refine sw S ?_; clear S; intro a w S
                refine te S ?_
                refine tl ?_
                refine sw S ?_; clear S; intro a w S
                refine te S ?_
                refine tn ?_
                have f1 := S.t x.signed
                have f2 := S.t x.rows
                have f3 := S.t y.signed
                have f4 := S.t y.rows
                replace S := (((S.add f4).add f3).add f2).add f1
                exact ⟨b5, b6, x, y, S.uu, ⟨⟨hxu, hxs, hxr⟩, hyu, hys, hyr⟩, (St.pull16 (Wk.box b5 28 (cRow16 x)) (St.pull16 (Wk.box b6 28 (cRow16 y)) S)).sub _ _⟩
            · refine sa S ?_; clear S; intro b6 a w S
              refine te S ?_
              refine tl ?_
              refine sr S (row16_d (nthG l k) _ w (foots_lt S) (S.t (nthG l k).signed) (S.t (nthG l k).rows)) ?_; clear S; rintro _ a w ⟨x, rfl, hxu, hxs, hxr, hf1, hf2⟩ S
              replace S := (S.add hf1).add hf2
              refine te S ?_
              refine tl ?_
              refine sr S (row16_d (nthG l k) _ w (foots_lt S) (S.t (nthG l k).signed) (S.t (nthG l k).rows)) ?_; clear S; rintro _ a w ⟨y, rfl, hyu, hys, hyr, hf1, hf2⟩ S
              replace S := (S.add hf1).add hf2
              refine te S ?_
              refine tl ?_
              refine sw S ?_; clear S; intro a w S
              refine te S ?_
              refine tl ?_
              refine sw S ?_; clear S; intro a w S
              refine te S ?_
              refine tn ?_
              have f1 := S.t x.signed
              have f2 := S.t x.rows
              have f3 := S.t y.signed
              have f4 := S.t y.rows
              replace S := (((S.add f4).add f3).add f2).add f1
              exact ⟨b5, b6, x, y, S.uu, ⟨⟨hxu, hxs, hxr⟩, hyu, hys, hyr⟩, (St.pull16 (Wk.box b5 28 (cRow16 x)) (St.pull16 (Wk.box b6 28 (cRow16 y)) S)).sub _ _⟩
          · refine sa S ?_; clear S; intro b6 a w S
            refine te S ?_
            refine tb2 ?_ ?_
            · refine sr S (row16_d (nthG l k) _ w (foots_lt S) (S.t (nthG l k).signed) (S.t (nthG l k).rows)) ?_; clear S; rintro _ a w ⟨x, rfl, hxu, hxs, hxr, hf1, hf2⟩ S
              replace S := (S.add hf1).add hf2
              refine te S ?_
              refine tb2 ?_ ?_
              · refine sr S (row16_d (nthG l k) _ w (foots_lt S) (S.t (nthG l k).signed) (S.t (nthG l k).rows)) ?_; clear S; rintro _ a w ⟨y, rfl, hyu, hys, hyr, hf1, hf2⟩ S
                replace S := (S.add hf1).add hf2
                refine te S ?_
                refine tl ?_
                refine sa S ?_; clear S; intro b5 a w S
                refine te S ?_
                refine tl ?_
                refine sw S ?_; clear S; intro a w S
                refine te S ?_
                refine tl ?_
                refine sw S ?_; clear S; intro a w S
                refine te S ?_
                refine tn ?_
                have f1 := S.t x.signed
                have f2 := S.t x.rows
                have f3 := S.t y.signed
                have f4 := S.t y.rows
                replace S := (((S.add f4).add f3).add f2).add f1
                exact ⟨b5, b6, x, y, S.uu, ⟨⟨hxu, hxs, hxr⟩, hyu, hys, hyr⟩, (St.pull16 (Wk.box b5 28 (cRow16 x)) (St.pull16 (Wk.box b6 28 (cRow16 y)) S)).sub _ _⟩
              · refine sa S ?_; clear S; intro b5 a w S
                refine te S ?_
                refine tl ?_
                refine sr S (row16_d (nthG l k) _ w (foots_lt S) (S.t (nthG l k).signed) (S.t (nthG l k).rows)) ?_; clear S; rintro _ a w ⟨y, rfl, hyu, hys, hyr, hf1, hf2⟩ S
                replace S := (S.add hf1).add hf2
                refine te S ?_
                refine tl ?_
                refine sw S ?_; clear S; intro a w S
                refine te S ?_
                refine tl ?_
                refine sw S ?_; clear S; intro a w S
                refine te S ?_
                refine tn ?_
                have f1 := S.t x.signed
                have f2 := S.t x.rows
                have f3 := S.t y.signed
                have f4 := S.t y.rows
                replace S := (((S.add f4).add f3).add f2).add f1
                exact ⟨b5, b6, x, y, S.uu, ⟨⟨hxu, hxs, hxr⟩, hyu, hys, hyr⟩, (St.pull16 (Wk.box b5 28 (cRow16 x)) (St.pull16 (Wk.box b6 28 (cRow16 y)) S)).sub _ _⟩
            · refine sa S ?_; clear S; intro b5 a w S
              refine te S ?_
              refine tl ?_
              refine sr S (row16_d (nthG l k) _ w (foots_lt S) (S.t (nthG l k).signed) (S.t (nthG l k).rows)) ?_; clear S; rintro _ a w ⟨x, rfl, hxu, hxs, hxr, hf1, hf2⟩ S
              replace S := (S.add hf1).add hf2
              refine te S ?_
              refine tl ?_
              refine sr S (row16_d (nthG l k) _ w (foots_lt S) (S.t (nthG l k).signed) (S.t (nthG l k).rows)) ?_; clear S; rintro _ a w ⟨y, rfl, hyu, hys, hyr, hf1, hf2⟩ S
              replace S := (S.add hf1).add hf2
              refine te S ?_
              refine tl ?_
              refine sw S ?_; clear S; intro a w S
              refine te S ?_
              refine tl ?_
              refine sw S ?_; clear S; intro a w S
              refine te S ?_
              refine tn ?_
              have f1 := S.t x.signed
              have f2 := S.t x.rows
              have f3 := S.t y.signed
              have f4 := S.t y.rows
              replace S := (((S.add f4).add f3).add f2).add f1
              exact ⟨b5, b6, x, y, S.uu, ⟨⟨hxu, hxs, hxr⟩, hyu, hys, hyr⟩, (St.pull16 (Wk.box b5 28 (cRow16 x)) (St.pull16 (Wk.box b6 28 (cRow16 y)) S)).sub _ _⟩
        clear S; rintro b d x y uu a w ⟨⟨hxu, hxs, hxr⟩, hyu, hys, hyr⟩ S
        refine xtn ?_
        refine c_seq ?_
        have hss : x.signed.t = y.signed.t := hxs.trans hys.symm
        have hrr : x.rows.t = y.rows.t := hxr.trans hyr.symm
        have huu : x.user = y.user := hxu.trans hyu.symm
        refine c_region ?_
        iterate 6 (refine sq S ?_; clear S; intro a S)
        refine sr S (fread_c x.user x.signed x.rows _ w (foots_lt S) (S.mem.fact LibF) (S.t x.signed) (S.t x.rows)) ?_; clear S; rintro _ a w ⟨n1, p1, c1, m1, e1, rfl, hm1, hmc1, h1a, h1b⟩ S
        replace S := S.add hm1
        iterate 7 (refine sq S ?_; clear S; intro a S)
        refine wl_nil ?_
        refine xtn ?_
        refine c_seq ?_
        refine c_region ?_
        iterate 6 (refine sq S ?_; clear S; intro a S)
        refine sr S (rread16_c y.user y.signed y.rows _ w (foots_lt S) (S.t y.signed) (S.t y.rows)) ?_; clear S; rintro _ a w ⟨n2, p2, c2, m2, b2, rfl, hm2, hml2, h2a, h2b⟩ S
        replace S := S.add hm2
        rw [← hss, ← hrr, ← huu] at h2a h2b
        have hs1 : sameF x.signed.t y.signed.t = true := (sameF_iff _ _).2 hss
        have hs2 : sameF x.rows.t y.rows.t = true := (sameF_iff _ _).2 hrr
        have hm1l : e1 = 0 → m1.length ≤ 1000000 := fun he => by have := (okM_V (h1a he).2.1).1; omega
        iterate 7 (refine sq S ?_; clear S; intro a S)
        refine wl_nil ?_
        refine xtn ?_
        iterate 2 (refine c_seq ?_)
        refine c_region ?_
        iterate 4 (refine sq S ?_; clear S; intro a S)
        refine sc S ?_; clear S; intro a w S
        iterate 2 (refine sq S ?_; clear S; intro a S)
        iterate 4 (refine gQ S ?_; clear S; intro a S)
        refine gC S ?_; clear S; intro a w S
        refine gQ S ?_; clear S; intro a S
        refine sq S ?_; clear S; intro a S
        refine wl_nil ?_
        refine xtn ?_
        refine c_cond S (fun h10 => ?_) (fun h10 => ?_)
        · refine c_seq ?_
          refine c_region ?_
          refine sq S ?_; clear S; intro a S
          refine wl_nil ?_
          refine xtn ?_
          refine c_ret ?_
          refine xtr ?_
          refine xbr ?_
          iterate 2 (refine xtr ?_)
          refine xbr ?_
          refine xtr ?_
          exfalso
          simp [hs1, hs2] at h10
        · refine c_skip ?_
          refine xtn ?_
          iterate 2 (refine c_seq ?_)
          refine c_region ?_
          iterate 2 (refine sq S ?_; clear S; intro a S)
          refine wl_nil ?_
          refine xtn ?_
          refine c_cond S (fun h12 => ?_) (fun h12 => ?_)
          · refine c_seq ?_
            refine c_seq ?_
            refine c_region ?_
            iterate 3 (refine sq S ?_; clear S; intro a S)
            iterate 2 (refine gQ S ?_; clear S; intro a S)
            iterate 2 (refine sq S ?_; clear S; intro a S)
            iterate 3 (refine gQ S ?_; clear S; intro a S)
            refine sq S ?_; clear S; intro a S
            refine wl_nil ?_
            refine xtn ?_
            refine c_cond S (fun h13 => ?_) (fun h13 => ?_)
            · refine c_seq ?_
              refine c_region ?_
              refine sq S ?_; clear S; intro a S
              refine wl_nil ?_
              refine xtn ?_
              refine c_ret ?_
              iterate 2 (refine xtr ?_)
              refine xbr ?_
              iterate 2 (refine xtr ?_)
              refine xbr ?_
              refine xtr ?_
              exfalso
              have hb : b2 = false := by simpa using h12
              have he : e1 ≠ 0 := fun he => h2b hb _ _ (h1a he)
              obtain ⟨q1, q2, q3, -⟩ := h1b he
              subst q1 q2 q3
              simp at h13
            · refine c_skip ?_
              refine xtn ?_
              refine c_exit ?_
              refine xte ?_
              refine xbe ?_
              refine xtn ?_
              refine c_region ?_
              iterate 2 (refine sq S ?_; clear S; intro a S)
              refine wl_nil ?_
              refine xtn ?_
              rw [w64 ((k : Int) + 1) (by omega) (by omega)] at S
              exact ⟨k + 1, S.uu, hkl, S.sub _ _, by omega⟩
          · refine c_skip ?_
            refine xtn ?_
            refine c_seq ?_
            have hb : b2 = true := by simpa using h12
            have he : e1 = 0 := Classical.byContradiction fun he => (h1b he).2.2.2 _ _ (h2a hb)
            obtain ⟨rfl, rfl⟩ := (h1a he).uniq (h2a hb)
            have hm1l2 : m1.length ≤ 1000000 := hm1l he
            subst he
            refine c_region ?_
            iterate 3 (refine sq S ?_; clear S; intro a S)
            iterate 3 (refine gQ S ?_; clear S; intro a S)
            iterate 2 (refine sq S ?_; clear S; intro a S)
            iterate 2 (refine gQ S ?_; clear S; intro a S)
            refine gC (hq := (⟨fun w m => r14same_c m1 m1 p1 p2 c1 c2 w hm1l2 (m.fact0 (GlF p1 m1)) (m.fact0 (GlF p2 m1))⟩ : CallV Tryz.prog 12 [.slice p1 m1.length c1, .slice p2 m1.length c2] _ _ (.bool (decide (m1 = m1))))) S ?_; clear S; intro a w S
            refine gQ S ?_; clear S; intro a S
            refine sq S ?_; clear S; intro a S
            refine wl_nil ?_
            refine xtn ?_
            refine c_cond S (fun h15 => ?_) (fun h15 => ?_)
            · refine c_seq ?_
              refine c_region ?_
              refine sq S ?_; clear S; intro a S
              refine wl_nil ?_
              refine xtn ?_
              refine c_ret ?_
              refine xbr ?_
              iterate 2 (refine xtr ?_)
              refine xbr ?_
              refine xtr ?_
              exfalso
              simp at h15
            · refine c_skip ?_
              refine xbn ?_
              refine xtn ?_
              refine c_region ?_
              iterate 2 (refine sq S ?_; clear S; intro a S)
              refine wl_nil ?_
              refine xtn ?_
              rw [w64 ((k : Int) + 1) (by omega) (by omega)] at S
              exact ⟨k + 1, S.uu, hkl, S.sub _ _, by omega⟩
    · refine c_exit ?_
      iterate 2 (refine xte ?_)
      refine xbe ?_
      refine xtn ?_
      refine c_seq ?_
      refine c_region ?_
      refine sq S ?_; clear S; intro a S
      refine wl_nil ?_
      refine xtn ?_
      refine c_ret ?_
      refine end1 S (fun _ => rfl)
end Go.Proofs.YtieeoakdkbackaaGreatDoor

/- What rows of layer 16 are that come in. -/
namespace Go.Proofs.YtieeoakdkbackaaGreatDoor
open Go Go.Wk
open Go.ChangeShapes Go.WideShapes Go.ChangeAt Go.RowKit
set_option maxRecDepth 100000

instance troRow16 : Tro Tryz.prog 28 LRow16 := ⟨fun enc w base spare held fuel cs x h => by
  obtain ⟨hlen, hf⟩ := trod_flds Tryz.underlying28 h
  rw [show Tryz.prog.cellsOf 28 = 11 from by kernel_rfl] at hlen
  obtain ⟨n0, y0, g0⟩ := hf 0 3 0 rfl
  obtain ⟨n1, y1, g1⟩ := hf 1 26 1 rfl
  obtain ⟨n2, y2, g2⟩ := hf 2 26 6 rfl
  obtain ⟨u, e0, i0⟩ := trod_fld (α := Int) g0 rfl
  obtain ⟨s, e1, i1⟩ := trod_fld (α := LTerm) g1 rfl
  obtain ⟨t, e2, i2⟩ := trod_fld (α := LTerm) g2 rfl
  refine ⟨⟨u, s, t⟩, ?_, i1, i2⟩
  match cs, hlen with
  | [c0, c1, c2, c3, c4, c5, d1, d2, d3, d4, d5], _ =>
    have q0 : [c0] = [.int .i64 u] := e0
    have q1 : [c1, c2, c3, c4, c5] = s.cells := e1
    have q2 : [d1, d2, d3, d4, d5] = t.cells := e2
    simp only [List.cons.injEq, and_true] at q0
    show [c0] ++ [c1, c2, c3, c4, c5] ++ [d1, d2, d3, d4, d5] = [.int .i64 u] ++ s.cells ++ t.cells
    rw [q0, q1, q2], by kernel_rfl⟩
instance troRows16 : Tro Tryz.prog 22 (Sl LRow16) := troSl Tryz.underlying22 (by kernel_rfl)
end Go.Proofs.YtieeoakdkbackaaGreatDoor

/- FreshReads answers true at every input and leaves it as it was: the row, and the tied card. -/
namespace Go.Proofs.YtieeoakdkbackaaGreatDoor
open Go Go.Wk
open Go.ChangeShapes Go.WideShapes Go.ChangeAt Go.RowKit
set_option maxRecDepth 100000

theorem freshreads_lifted (os : Os) (started : os.Started) (H : Type) (enc : TypeId × Value → H) :
    ReturnsInHanded {} Tryz.checked os 3 .any (fun w args => (Rows.freshReadsSpec.pre enc Tryz.prog Tryz.f3 Rows.freshReadsRow.domain false w args ∧ laidMet Tryz.prog laidL w) ∧ sizedMet enc Tryz.prog Tryz.f3 (OpenSpec.ofChange Rows.freshReadsSpec) false w args)
      (Rows.freshReadsSpec.post enc Tryz.prog Tryz.f3 false true false false) := by
  refine returnsInHanded_of_change_and (C := Tryz.checked) (X := fun w _ => laidMet Tryz.prog laidL w) (fun _ _ _ hh h => h.of_heap hh) own started (by kernel_rfl) Tryz.func3
    (ChangeSpec.witness_at (enc := enc) (C := Tryz.checked) (os := os) (X := fun w _ => laidMet Tryz.prog laidL w) false (laidWorld os) #[.slice none 0 0] 8 rfl (by kernel_rfl) (by kernel_rfl) (by kernel_rfl) (by kernel_rfl) (by kernel_rfl) (laidWorld_met os _)) ?_
  intro W base args ds gs before hval0 hW _ _ hL _
  have hval : ∀ (j : Nat) t v, Tryz.f3.params[j]? = some t → args[j]? = some v → Value.okWide Tryz.prog W .any base t v := hval0
  have hW2 := hW
  obtain ⟨p, q, hA0, hV, rfl, _, _⟩ := hW
  have hA : DataW.TrodAll enc Tryz.prog W 0 (fun _ => true) true Tryz.f3.params.toList args.toList ds p := hA0
  rw [Tryz.params3] at hA hval
  obtain ⟨v0, d0, rfl, rfl, h0⟩ := trodAll_one hA
  obtain ⟨rfl, rfl⟩ := trodVars_none hV
  obtain ⟨l, rfl, l_l, m_l, h_l⟩ := slice_of_Trod (α := LRow16) Tryz.underlying22 h0 (hval 0 22 v0 rfl rfl)
  refine Ret.law (freshreads_c l.xs l.p l.cap W (by unfold maxLen at *; omega) (lib_of_laid hL).stable h_l.stable) fun W1 hag => ?_
  exact ⟨_, rfl, law_post (B := 4) laidOut (by kernel_rfl) rfl rfl rfl hW2 rfl rfl rfl hag⟩
theorem freshreads_row : Rows.FreshReadsSaid :=
  OpenClaim.holds_of_wide 3 Tryz.f3 rfl rfl rfl rfl rfl rfl rfl ⟨rfl, rfl, rfl, rfl, rfl⟩ rfl rfl rfl rfl rfl (by kernel_rfl) Tryz.func3 (by kernel_rfl)
    (of_decide_eq_true (by kernel_rfl)) (by unfold Func.isWrapper; rw [if_neg (of_decide_eq_false (by kernel_rfl))]; exact ⟨rfl, rfl⟩)
    (fun os started H enc _ => freshreads_lifted os started H enc)
theorem freshreads_holds : Rows.FreshReadsCardSaid :=
  Claim7.holds_tied_plain_at .later [] [.data, .data, .data, .sentinel, .sentinel] true (true, "dba50c45c7bd1deef98a1595ae95656bb3029d4810022472ec9d9d94b47cec3b") true
    freshreads_row (fun _ h => by cases h) (by kernel_rfl) (fun _ h => by cases h) freshReads_row_tie rfl ⟨rfl, rfl⟩ (by kernel_rfl) rfl
    (fun f fn hf hfn => by
      obtain rfl : f = 3 := Option.some.inj ((show Tryz.prog.funcNamed "safehouse/safehouselaw16.FreshReads" = some 3 by kernel_rfl).symm.trans hf) |>.symm
      obtain rfl : fn = Tryz.f3 := (Option.some.inj (Tryz.func3.symm.trans hfn)).symm
      exact ⟨by kernel_rfl, fun j t ht => by
        rw [Tryz.params3] at ht
        have h3 : t = 22 := by
          rcases j with _ | j
          · exact (by simpa using ht.symm)
          · simp at ht
        rcases h3 with rfl
        · exact (show Tryz.prog.wantsStandIn 22 = false by kernel_rfl)⟩)
    (by kernel_rfl)
end Go.Proofs.YtieeoakdkbackaaGreatDoor
