/- Layer 13: CapSecrets. -/
import Derived.Test.YtgielmldblopeaaPlainCapC
namespace Go.Proofs.Ytgielmldblopeaa
open Go Go.Wk
set_option synthInstance.maxSize 100000
set_option synthInstance.maxHeartbeats 400000
set_option maxRecDepth 100000

instance {p : LPerm} {u : Int} {bs fs} [h : HasI fs p] : CallV Try.prog 31 [.agg ⟨[.int .i64 p.owner, .int .i64 p.epoch, .slice p.rd.p p.rd.xs.length p.rd.cap, .slice p.wr.p p.wr.xs.length p.wr.cap, .slice p.gr.p p.gr.xs.length p.gr.cap]⟩, .int .i64 u, .slice none 0 0] bs fs (.bool (mayB p u [])) := ⟨fun w m => mayRead_c p u [] none 0 w (by simp) (m.i0 p) (fun _ _ => gl_nil)⟩
theorem gif_idx {c : Bool} {k : Nat} (hk : k ≤ 1000000) : gif c (Value.int .i64 (IntKind.i64.wrap ((k : Int) + 1 - 1))) = gif c (.int .i64 (k : Nat)) := by
  rw [w64 _ (by omega) (by omega), show (k : Int) + 1 - 1 = (k : Nat) from by omega]
theorem nth_tick (bs : List Bool) (k : Nat) : nthG bs k = bs.getD k false := rfl
theorem capsecrets_c (p : LPerm) (ub gb : List Bool) (pu pg : Option Addr) (cu cg : Nat) (w0 : World) (hp : Stable (fun _ => False) w0 (InF p)) (hu : Stable (fun _ => False) w0 (GlF pu ub)) (hg : Stable (fun _ => False) w0 (GlF pg gb)) : Ret Try.prog 6 [vPerm p, .slice pu ub.length cu, .slice pg gb.length cg] w0 (fun _ => False) fun v _ => v = .bool true := by
  refine enter Try.func6 rfl rfl (Wd.begin (fs := [InF p, GlF pu ub, GlF pg gb]) (by simp; exact ⟨hp, hu, hg⟩)) (fun a S => ?_)
  simp only [Try.ntmps6, List.length_cons, List.length_nil, Nat.reduceAdd, Nat.reduceSub, List.replicate_succ, List.replicate_zero, List.cons_append, List.nil_append] at S
  refine c_seq ?_
  refine c_region ?_
  refine sa S ?_; clear S; intro b3 a w S
  refine sq S ?_; clear S; intro a S
  refine wl_nil ?_
  refine xtn ?_
  iterate 2 (refine c_seq ?_)
  refine c_region ?_
  refine sr S (wakes13_c _) ?_; clear S; rintro _ a w rfl S
  refine sq S ?_; clear S; intro a S
  rw [show (!true) = false from rfl] at S
  refine wl_nil ?_
  refine xtn ?_
  refine c_condF S ?_
  refine c_skip ?_
  refine xtn ?_
  iterate 2 (refine c_seq ?_)
  refine c_region ?_
  refine sq S ?_; clear S; intro a S
  refine sr S (overPerm_c p _) ?_; clear S; rintro _ a w rfl S
  refine wl_nil ?_
  refine xtn ?_
  refine c_cond S (fun h3 => ?_) (fun h3 => ?_)
  · refine c_seq ?_
    refine c_region ?_
    refine sq S ?_; clear S; intro a S
    refine wl_nil ?_
    refine xtn ?_
    refine c_ret ?_
    refine xtr ?_
    refine end1 S (fun _ => rfl)
  · refine c_skip ?_
    refine xtn ?_
    refine c_seq ?_
    have hgl : p.gr.xs.length ≤ 100 := by simp [overB] at h3; omega
    refine c_region ?_
    refine sc S ?_; clear S; intro a w S
    refine sa S ?_; clear S; intro b7 a w S
    refine sw S ?_; clear S; intro a w S
    refine wl_nil ?_
    refine xtn ?_
    refine c_seq ?_
    have hsm : SmallT (freshL 1 7).t := fresh_small (by omega) (by omega)
    have hst : ∀ (M : Nat → Prop) (w : World), Stable M w (LtF (freshL 1 7)) := fun _ _ w' _ => by simp [freshL, LtIn, LsIn, LtF]
    refine c_drwe3 (.q 0 (.q 1 (.b2 2 7 (.b2 3 7 (.q 4 (.q 5 (.q 6 (.l 7 (.l 8 (.q 9 (.e))))))) (.l 3 (.q 4 (.q 5 (.q 6 (.l 8 (.q 9 (.e)))))))) (.l 2 (.l 3 (.q 4 (.q 5 (.q 6 (.l 8 (.q 9 (.e))))))))))) S (fun (b8 : Nat) (r : LTerm) (e : Int) uu => [(8, .pointer (some ⟨b8, 0, none⟩)), (0, .int .i64 e), (13, uu 23), (0, uu 24), (0, uu 25), (0, uu 26), (0, uu 27), (0, uu 28), (0, uu 29)]) [Wk.box b7 35 (freshL 1 7).cells, Wk.box b3 56 (cPerm p)] (fun (b8 : Nat) (r : LTerm) (e : Int) => [Wk.box b8 35 r.cells, Wk.box b7 35 (freshL 1 7).cells, Wk.box b3 56 (cPerm p)]) (fun (b8 : Nat) (r : LTerm) (e : Int) => [LtF r, InF p, GlF pu ub, GlF pg gb]) (fun (b8 : Nat) (r : LTerm) (e : Int) => (e = 210 ∧ permB p = false) ∨ (e = 0 ∧ permB p = true ∧ ∃ us : List Int, us.Perm (p.owner :: p.rd.xs) ∧ us.Pairwise (· < ·) ∧ r.t = listT (boxesT us p.gr.xs (freshL 1 7).t (keyT (keysL 3))) ∧ Good r.t)) ?_ ?_
    · intro w S
      iterate 2 (refine tq S ?_; clear S; intro a S)
      refine tb2 ?_ ?_
      · refine sr S (keysOf_c _ w (foots_lt S)) ?_; clear S; rintro _ a w ⟨kp, kc, rfl, hkf⟩ S
        replace S := S.add hkf
        refine te S ?_
        refine tb2 ?_ ?_
        · refine sr S (make_c p (freshL 1 7) (keysL 3) kp kc _ w (foots_lt S) (S.i p) (hst _ _) (S.gl kp) (by simp [keysL]) hsm (fun k hk => ?_) (fun g _ h1 h2 => ⟨keyL g, ?_, rfl⟩)) ?_
          · obtain ⟨i, hi, rfl⟩ := List.mem_map.1 hk
            have := List.mem_range.1 hi
            exact fresh_small (by omega) (by omega)
          · refine List.mem_map.2 ⟨(g - 1).toNat, List.mem_range.2 (by omega), ?_⟩
            rw [show (((g - 1).toNat : Nat) : Int) + 1 = g from by omega]
          clear S; rintro _ a w hmR S
          obtain ⟨r, e, rfl, hrf, hre⟩ := hmR.one
          replace S := S.add hrf
          clear hmR
          refine te S ?_
          iterate 3 (refine tq S ?_; clear S; intro a S)
          refine tl ?_
          refine sa S ?_; clear S; intro b8 a w S
          refine te S ?_
          refine tl ?_
          refine sw S ?_; clear S; intro a w S
          refine te S ?_
          refine tq S ?_; clear S; intro a S
          refine tn ?_
          exact ⟨b8, r, e, S.uu, hre, S.sub _ _⟩
        · refine sa S ?_; clear S; intro b8 a w S
          refine te S ?_
          refine tl ?_
          refine sr S (make_c p (freshL 1 7) (keysL 3) kp kc _ w (foots_lt S) (S.i p) (hst _ _) (S.gl kp) (by simp [keysL]) hsm (fun k hk => ?_) (fun g _ h1 h2 => ⟨keyL g, ?_, rfl⟩)) ?_
          · obtain ⟨i, hi, rfl⟩ := List.mem_map.1 hk
            have := List.mem_range.1 hi
            exact fresh_small (by omega) (by omega)
          · refine List.mem_map.2 ⟨(g - 1).toNat, List.mem_range.2 (by omega), ?_⟩
            rw [show (((g - 1).toNat : Nat) : Int) + 1 = g from by omega]
          clear S; rintro _ a w hmR S
          obtain ⟨r, e, rfl, hrf, hre⟩ := hmR.one
          replace S := S.add hrf
          clear hmR
          refine te S ?_
          iterate 3 (refine tq S ?_; clear S; intro a S)
          refine tl ?_
          refine sw S ?_; clear S; intro a w S
          refine te S ?_
          refine tq S ?_; clear S; intro a S
          refine tn ?_
          exact ⟨b8, r, e, S.uu, hre, S.sub _ _⟩
      · refine sa S ?_; clear S; intro b8 a w S
        refine te S ?_
        refine tl ?_
        refine sr S (keysOf_c _ w (foots_lt S)) ?_; clear S; rintro _ a w ⟨kp, kc, rfl, hkf⟩ S
        replace S := S.add hkf
        refine te S ?_
        refine tl ?_
        refine sr S (make_c p (freshL 1 7) (keysL 3) kp kc _ w (foots_lt S) (S.i p) (hst _ _) (S.gl kp) (by simp [keysL]) hsm (fun k hk => ?_) (fun g _ h1 h2 => ⟨keyL g, ?_, rfl⟩)) ?_
        · obtain ⟨i, hi, rfl⟩ := List.mem_map.1 hk
          have := List.mem_range.1 hi
          exact fresh_small (by omega) (by omega)
        · refine List.mem_map.2 ⟨(g - 1).toNat, List.mem_range.2 (by omega), ?_⟩
          rw [show (((g - 1).toNat : Nat) : Int) + 1 = g from by omega]
        clear S; rintro _ a w hmR S
        obtain ⟨r, e, rfl, hrf, hre⟩ := hmR.one
        replace S := S.add hrf
        clear hmR
        refine te S ?_
        iterate 3 (refine tq S ?_; clear S; intro a S)
        refine tl ?_
        refine sw S ?_; clear S; intro a w S
        refine te S ?_
        refine tq S ?_; clear S; intro a S
        refine tn ?_
        exact ⟨b8, r, e, S.uu, hre, S.sub _ _⟩
    clear S; rintro b8 r e uu a w hre S
    refine xtn ?_
    iterate 2 (refine c_seq ?_)
    refine c_region ?_
    iterate 2 (refine sq S ?_; clear S; intro a S)
    refine wl_nil ?_
    refine xtn ?_
    refine c_cond S (fun h7 => ?_) (fun h7 => ?_)
    · refine c_seq ?_
      refine c_region ?_
      iterate 3 (refine sq S ?_; clear S; intro a S)
      refine wl_nil ?_
      refine xtn ?_
      refine c_ret ?_
      refine xtr ?_
      rcases hre with ⟨rfl, hP⟩ | ⟨rfl, -⟩
      · refine end1 S (fun _ => ?_)
        rfl
      · simp at h7
    · refine c_skip ?_
      refine xtn ?_
      refine c_seq ?_
      obtain ⟨hP, us, hper, hur, hr, hrg⟩ : permB p = true ∧ ∃ us : List Int, us.Perm (p.owner :: p.rd.xs) ∧ us.Pairwise (· < ·) ∧ r.t = listT (boxesT us p.gr.xs (freshL 1 7).t (keyT (keysL 3))) ∧ Good r.t := by
        rcases hre with ⟨rfl, -⟩ | ⟨-, h⟩
        · simp at h7
        · exact h
      replace S := S.boxToF b3
      replace S := S.boxToF b7
      replace S := S.boxToF b8
      refine c_region ?_
      refine sq S ?_; clear S; intro a S
      refine sn S ?_; clear S; intro b35 a w S
      refine sq S ?_; clear S; intro a S
      refine wl_nil ?_
      refine xtn ?_
      refine c_seq ?_
      refine c_region ?_
      refine sq S ?_; clear S; intro a S
      refine wl_nil ?_
      refine xtn ?_
      iterate 2 (refine c_seq ?_)
      refine c_region ?_
      refine sq S ?_; clear S; intro a S
      refine wl_nil ?_
      refine xtn ?_
      refine c_block ?_
      replace S := S.boxRow b35 5 1 rfl (by simp [maxLen])
      rw [show ([Value.int .i64 r.kind, .int .i64 r.user, .int .i64 r.num, str r.text, .slice r.p r.kids.length r.cap] : List Value) = encL [r] from by simp [encL, Enc.cells, LTerm.cells]] at S
      refine c_fore5 S (fun (k : Nat) (mb : Bool) (os : List LTerm) (pk : Option Addr) (ck : Nat) uu => [(10, .slice pk os.length ck), (0, .bool mb), (0, .int .i64 ((k : Int) + 1)), (23, uu 36), (0, uu 37), (0, uu 38), (0, uu 39), (0, uu 40), (0, uu 41), (0, uu 42), (0, uu 43), (0, uu 44), (0, uu 45), (0, uu 46), (0, uu 47), (0, uu 48), (0, uu 49), (0, uu 50), (0, uu 51), (0, uu 52), (0, uu 53), (0, uu 54), (0, uu 55), (0, uu 56), (0, uu 57), (0, uu 58), (0, uu 59), (0, uu 60), (0, uu 61)]) (fun (k : Nat) (mb : Bool) (os : List LTerm) (pk : Option Addr) (ck : Nat) => [Wk.row 35 5 pk os.length ck (encL os)]) (fun (k : Nat) (mb : Bool) (os : List LTerm) (pk : Option Addr) (ck : Nat) => [AllI os, BoxF b8 35 r.cells, BoxF b7 35 (freshL 1 7).cells, BoxF b3 56 (cPerm p), LtF r, InF p, GlF pu ub, GlF pg gb]) (fun (k : Nat) (mb : Bool) (os : List LTerm) (pk : Option Addr) (ck : Nat) => k ≤ 6 ∧ os.map LTerm.t = r.t :: (ticks ub k).map secretT ∧ mb = (ticks ub k).any fun n => mayB p n []) (fun (k : Nat) (mb : Bool) (os : List LTerm) (pk : Option Addr) (ck : Nat) => 6 - k) (0) (false) ([r]) (some ⟨b35, 0, none⟩) (1) ?_ S.uu ?_ ?_
      · exact ⟨Nat.zero_le _, rfl, rfl⟩
      · have h1 := S.t r
        exact S.add (Φ := AllI (α := LTerm) [r]) (fun w' hw' x hx => by obtain rfl := List.mem_singleton.1 hx; exact h1 w' hw')
      · clear S; rintro k mb os pk ck uu a w ⟨hk, hos, hmb⟩ S
        iterate 2 (refine c_seq ?_)
        refine c_region ?_
        iterate 2 (refine sq S ?_; clear S; intro a S)
        refine wl_nil ?_
        refine xtn ?_
        refine c_cond S (fun h12 => ?_) (fun h12 => ?_)
        · refine c_skip ?_
          refine xtn ?_
          refine c_seq ?_
          refine c_block ?_
          refine c_seq ?_
          have hk5 : k < 6 := by simp at h12; omega
          have hol : os.length ≤ 20 := by have := congrArg List.length hos; simp at this; have := ticks_len ub k; omega
          have hC : CLt [decide ((k : Int) + 1 ≤ (ub.length : Int))] k ub.length := ⟨fun h => by have := h (decide ((k : Int) + 1 ≤ (ub.length : Int))) (by simp); simp at this; omega⟩
          have htk := ticks_succ ub k
          refine c_region ?_
          iterate 5 (refine sq S ?_; clear S; intro a S)
          iterate 3 (refine gQ S ?_; clear S; intro a S)
          rw [gif_idx (by omega)] at S
          iterate 2 (refine gQ S ?_; clear S; intro a S)
          refine sq S ?_; clear S; intro a S
          refine wl_nil ?_
          refine xtn ?_
          refine c_cond S (fun h14 => ?_) (fun h14 => ?_)
          · refine c_seq ?_
            refine c_region ?_
            iterate 2 (refine sq S ?_; clear S; intro a S)
            refine sc S ?_; clear S; intro a w S
            refine sn S ?_; clear S; intro b54 a w S
            refine sap S (by simp [maxLen]; omega) (by omega) ?_; clear S; rintro p15 c15 a w - S
            refine sq S ?_; clear S; intro a S
            refine wl_nil ?_
            refine xtn ?_
            refine c_region ?_
            iterate 2 (refine sq S ?_; clear S; intro a S)
            iterate 2 (refine gQ S ?_; clear S; intro a S)
            refine gC S ?_; clear S; intro a w S
            iterate 2 (refine sq S ?_; clear S; intro a S)
            refine wl_nil ?_
            refine xbn ?_
            refine xtn ?_
            refine c_region ?_
            iterate 2 (refine sq S ?_; clear S; intro a S)
            rw [w64 _ (by omega) (by omega), show (k : Int) + 1 + 1 = ((k + 1 : Nat) : Int) + 1 from by omega] at S
            refine sq S ?_; clear S; intro a S
            refine wl_nil ?_
            refine xtn ?_
            have ht : ub.getD k false = true := by simp only [Bool.and_eq_true] at h14; exact h14.2
            rw [if_pos ht] at htk
            have h1 := S.wd.facts (AllI os) (by simp)
            replace S := S.add (Φ := AllI (os ++ [secretL ((k : Int) + 1)])) (AllI.snoc h1 (fun w' _ => by simp [secretL, LtIn, LsIn, InF, Lay.inn]))
            rw [show encL os ++ [Value.int .i64 (secretL ((k : Int) + 1)).kind, .int .i64 (secretL ((k : Int) + 1)).user, .int .i64 (secretL ((k : Int) + 1)).num, str (secretL ((k : Int) + 1)).text, .slice (secretL ((k : Int) + 1)).p (secretL ((k : Int) + 1)).kids.length (secretL ((k : Int) + 1)).cap] = encL (os ++ [secretL ((k : Int) + 1)]) from by rw [encL_append]; simp [encL, Enc.cells, LTerm.cells], show os.length + 1 = (os ++ [secretL ((k : Int) + 1)]).length from by simp] at S
            exact ⟨k + 1, _, os ++ [secretL ((k : Int) + 1)], p15, c15, S.uu, ⟨hk5, by rw [htk, List.map_append, hos, List.map_append]; rfl, by rw [htk, List.any_append, hmb]; simp⟩, S.sub _ _, by omega⟩
          · refine c_skip ?_
            refine xbn ?_
            refine xtn ?_
            refine c_region ?_
            iterate 2 (refine sq S ?_; clear S; intro a S)
            rw [w64 _ (by omega) (by omega), show (k : Int) + 1 + 1 = ((k + 1 : Nat) : Int) + 1 from by omega] at S
            refine sq S ?_; clear S; intro a S
            refine wl_nil ?_
            refine xtn ?_
            have ht : ub.getD k false = false := by
              rw [Bool.and_eq_false_iff] at h14
              rcases h14 with h | h
              · have h5 : ¬ ((k : Int) + 1 ≤ (ub.length : Int)) := by simpa using h
                rw [List.getD_eq_getElem?_getD, List.getElem?_eq_none (by omega)]; rfl
              · exact h
            rw [ht, if_neg (by simp), List.append_nil] at htk
            exact ⟨k + 1, mb, os, pk, ck, S.uu, ⟨hk5, by rw [htk]; exact hos, by rw [htk]; exact hmb⟩, S.sub _ _, by omega⟩
        · refine c_exit ?_
          iterate 2 (refine xte ?_)
          refine xbe ?_
          refine xtn ?_
          iterate 2 (refine c_seq ?_)
          have hk6 : k = 6 := by simp at h12; omega
          subst hk6
          obtain ⟨m1, hm1⟩ : ∃ m1, m1 = mb := ⟨_, rfl⟩
          rw [← hm1] at hmb S
          clear hm1 mb
          refine c_region ?_
          refine sr S (keysOf_c _ w (foots_lt S)) ?_; clear S; rintro _ a w ⟨kp, kc, rfl, hkf⟩ S
          replace S := S.add hkf
          iterate 2 (refine sq S ?_; clear S; intro a S)
          refine wl_nil ?_
          refine xtn ?_
          refine c_block ?_
          refine c_fore5 S (fun (k : Nat) (mb : Bool) (os : List LTerm) (pk : Option Addr) (ck : Nat) uu => [(10, .slice pk os.length ck), (0, .bool mb), (1, uu 13), (0, uu 14), (1, uu 16), (47, .int .i64 (k : Nat)), (0, uu 65), (0, uu 66), (0, uu 67), (0, uu 68), (0, uu 69), (0, uu 70), (0, uu 71), (0, uu 72), (0, uu 73), (0, uu 74), (0, uu 75), (0, uu 76), (0, uu 77), (0, uu 78), (0, uu 79), (0, uu 80), (0, uu 81), (0, uu 82), (0, uu 83), (0, uu 84), (0, uu 85), (0, uu 86), (0, uu 87), (0, uu 88), (0, uu 89), (0, uu 90), (0, uu 91), (0, uu 92), (0, uu 93), (0, uu 94), (0, uu 95), (0, uu 96), (0, uu 97), (0, uu 98), (0, uu 99)]) (fun (k : Nat) (mb : Bool) (os : List LTerm) (pk : Option Addr) (ck : Nat) => [Wk.row 35 5 pk os.length ck (encL os)]) (fun (k : Nat) (mb : Bool) (os : List LTerm) (pk : Option Addr) (ck : Nat) => [AllI os, GlF kp (keysL 3), BoxF b7 35 (freshL 1 7).cells, BoxF b3 56 (cPerm p), InF p, GlF pg gb]) (fun (k : Nat) (mb : Bool) (os : List LTerm) (pk : Option Addr) (ck : Nat) => k ≤ 3 ∧ os.map LTerm.t = r.t :: ((ticks ub 6).map secretT ++ (ticks gb k).map kT) ∧ mb = (m1 || (ticks gb k).any fun g => decide (g ∈ p.gr.xs))) (fun (k : Nat) (mb : Bool) (os : List LTerm) (pk : Option Addr) (ck : Nat) => 3 - k) (0) (m1) (os) (pk) (ck) ?_ S.uu ?_ ?_
          · exact ⟨Nat.zero_le _, by rw [hos]; simp [ticks], by simp [ticks]⟩
          · have h1 := S.wd.facts (AllI os) (by simp)
            exact (S.add h1).sub _ _
          · clear S; rintro k mb os pk ck uu a w ⟨hk, hos2, hmb3⟩ S
            refine c_seq ?_
            refine c_region ?_
            refine sq S ?_; clear S; intro a S
            refine wl_nil ?_
            refine xtn ?_
            refine c_seq ?_
            refine c_cond S (fun h18 => ?_) (fun h18 => ?_)
            · refine c_skip ?_
              refine xtn ?_
              refine c_seq ?_
              refine c_block ?_
              refine c_seq ?_
              have hk3 : k < 3 := by simp at h18; omega
              have hol : os.length ≤ 20 := by have := congrArg List.length hos2; simp at this; have := ticks_len ub 6; have := ticks_len gb k; omega
              have hK3 : KLt k 3 := ⟨hk3⟩
              have hK4 : KLt k (keysL 3).length := ⟨by simp [keysL]; omega⟩
              have hC : CLt [decide ((k : Int) < (gb.length : Int))] k gb.length := ⟨fun h => by have := h (decide ((k : Int) < (gb.length : Int))) (by simp); simp at this; omega⟩
              have htk := ticks_succ gb k
              have hkey : nthG (keysL 3) k = keyL ((k : Int) + 1) := by
                have : k = 0 ∨ k = 1 ∨ k = 2 := by omega
                rcases this with rfl | rfl | rfl <;> rfl
              refine c_region ?_
              iterate 3 (refine sq S ?_; clear S; intro a S)
              rw [hkey] at S
              refine sa S ?_; clear S; intro b14 a w S
              refine sq S ?_; clear S; intro a S
              refine sw S ?_; clear S; intro a w S
              refine wl_nil ?_
              refine xtn ?_
              refine c_seq ?_
              refine c_region ?_
              iterate 5 (refine sq S ?_; clear S; intro a S)
              iterate 4 (refine gQ S ?_; clear S; intro a S)
              refine sq S ?_; clear S; intro a S
              refine wl_nil ?_
              refine xtn ?_
              refine c_cond S (fun h20 => ?_) (fun h20 => ?_)
              · refine c_seq ?_
                refine c_region ?_
                iterate 3 (refine sq S ?_; clear S; intro a S)
                refine sn S ?_; clear S; intro b82 a w S
                refine sap S (by simp [maxLen]; omega) (by omega) ?_; clear S; rintro p21 c21 a w - S
                refine sq S ?_; clear S; intro a S
                refine wl_nil ?_
                refine xtn ?_
                refine c_seq ?_
                refine c_region ?_
                iterate 4 (refine sq S ?_; clear S; intro a S)
                refine wl_nil ?_
                refine xtn ?_
                refine c_block ?_
                have ht : gb.getD k false = true := by simp only [Bool.and_eq_true] at h20; exact h20.2
                rw [if_pos ht] at htk
                have h1 := S.wd.facts (AllI os) (by simp)
                replace S := S.add (Φ := AllI (os ++ [(keyL ((k : Int) + 1)).key])) (AllI.snoc h1 (fun w' _ => by simp [keyL, LtIn, LsIn, InF, Lay.inn]))
                rw [show encL os ++ [Value.int .i64 (keyL ((k : Int) + 1)).key.kind, .int .i64 (keyL ((k : Int) + 1)).key.user, .int .i64 (keyL ((k : Int) + 1)).key.num, str (keyL ((k : Int) + 1)).key.text, .slice (keyL ((k : Int) + 1)).key.p (keyL ((k : Int) + 1)).key.kids.length (keyL ((k : Int) + 1)).key.cap] = encL (os ++ [(keyL ((k : Int) + 1)).key]) from by rw [encL_append]; simp [encL, Enc.cells, LTerm.cells], show os.length + 1 = (os ++ [(keyL ((k : Int) + 1)).key]).length from by simp] at S
                refine c_fore2 S (fun (j : Nat) (mb' : Bool) uu => [(11, .bool mb'), (4, uu 16), (70, .int .i64 (j : Nat)), (0, uu 88), (0, uu 89), (0, uu 90), (0, uu 91), (0, uu 92), (0, uu 93), (0, uu 94), (0, uu 95), (0, uu 96), (0, uu 97), (0, uu 98)]) (fun (j : Nat) (mb' : Bool) => [Wk.box b14 68 (cKey (keyL ((k : Int) + 1))), Wk.row 35 5 p21 (os ++ [(keyL ((k : Int) + 1)).key]).length c21 (encL (os ++ [(keyL ((k : Int) + 1)).key]))]) (fun (j : Nat) (mb' : Bool) => [AllI (os ++ [(keyL ((k : Int) + 1)).key]), GlF kp (keysL 3), BoxF b7 35 (freshL 1 7).cells, BoxF b3 56 (cPerm p), InF p, GlF pg gb]) (fun (j : Nat) (mb' : Bool) => j ≤ p.gr.xs.length ∧ mb' = (mb || decide ((k : Int) + 1 ∈ p.gr.xs.take j))) (fun (j : Nat) (mb' : Bool) => p.gr.xs.length - j) (0) (mb) ?_ S.uu ?_ ?_
                · exact ⟨Nat.zero_le _, by simp⟩
                · first | exact S | exact S.sub _ _
                · clear S; rintro j mb' uu a w ⟨hj, hmb2⟩ S
                  refine c_seq ?_
                  refine c_region ?_
                  refine sq S ?_; clear S; intro a S
                  refine wl_nil ?_
                  refine xtn ?_
                  refine c_seq ?_
                  refine c_cond S (fun h23 => ?_) (fun h23 => ?_)
                  · refine c_skip ?_
                    refine xtn ?_
                    refine c_seq ?_
                    refine c_block ?_
                    refine c_seq ?_
                    have hjl : j < p.gr.xs.length := by simp at h23; omega
                    have hKj : KLt j p.gr.xs.length := ⟨hjl⟩
                    refine c_region ?_
                    iterate 3 (refine sq S ?_; clear S; intro a S)
                    refine wl_nil ?_
                    refine xtn ?_
                    refine c_region ?_
                    iterate 2 (refine sq S ?_; clear S; intro a S)
                    iterate 4 (refine gQ S ?_; clear S; intro a S)
                    iterate 2 (refine sq S ?_; clear S; intro a S)
                    refine wl_nil ?_
                    refine xbn ?_
                    refine xtn ?_
                    refine c_region ?_
                    refine sq S ?_; clear S; intro a S
                    rw [w64 _ (by omega) (by omega), show (j : Int) + 1 = ((j + 1 : Nat) : Int) from rfl] at S
                    refine sq S ?_; clear S; intro a S
                    refine wl_nil ?_
                    refine xtn ?_
                    refine ⟨j + 1, _, S.uu, ⟨hjl, ?_⟩, S.sub _ _, by omega⟩
                    rw [hmb2, nthG_take hjl, Bool.or_assoc]
                    congr 1
                    rw [Bool.eq_iff_iff]
                    simp only [Bool.or_eq_true, decide_eq_true_eq, List.mem_append, List.mem_singleton]
                    exact or_congr Iff.rfl eq_comm
                  · refine c_exit ?_
                    iterate 2 (refine xte ?_)
                    refine xbe ?_
                    refine xbn ?_
                    refine xtn ?_
                    refine c_region ?_
                    iterate 2 (refine sq S ?_; clear S; intro a S)
                    refine wl_nil ?_
                    refine xtn ?_
                    rw [List.take_of_length_le (by simp at h23; omega)] at hmb2
                    rw [w64 ((k : Int) + 1) (by omega) (by omega)] at S
                    exact ⟨k + 1, mb', os ++ [(keyL ((k : Int) + 1)).key], p21, c21, S.uu, ⟨hk3, by rw [htk, List.map_append, hos2, List.map_append, List.cons_append, List.append_assoc]; rfl, by rw [htk, List.any_append, hmb2, hmb3, Bool.or_assoc]; simp⟩, S.sub _ _, by omega⟩
              · refine c_skip ?_
                refine xbn ?_
                refine xtn ?_
                refine c_region ?_
                iterate 2 (refine sq S ?_; clear S; intro a S)
                refine wl_nil ?_
                refine xtn ?_
                have ht : gb.getD k false = false := by
                  rw [Bool.and_eq_false_iff] at h20
                  rcases h20 with h | h
                  · have h5 : ¬ ((k : Int) < (gb.length : Int)) := by simpa using h
                    rw [List.getD_eq_getElem?_getD, List.getElem?_eq_none (by omega)]; rfl
                  · exact h
                rw [ht, if_neg (by simp), List.append_nil] at htk
                rw [w64 ((k : Int) + 1) (by omega) (by omega)] at S
                exact ⟨k + 1, mb, os, pk, ck, S.uu, ⟨hk3, by rw [htk]; exact hos2, by rw [htk]; exact hmb3⟩, S.sub _ _, by omega⟩
            · refine c_exit ?_
              iterate 2 (refine xte ?_)
              refine xbe ?_
              refine xtn ?_
              refine c_seq ?_
              have hk3 : k = 3 := by simp at h18; omega
              subst hk3
              have hO := permOk hP
              have hU : ∀ n ∈ us, 1 ≤ n ∧ n ≤ 6 := fun n hn => by
                rcases List.mem_cons.1 (hper.mem_iff.1 hn) with rfl | h
                · exact hO.owner
                · exact hO.rdU n h
              have hosl : os.length ≤ 20 := by have := congrArg List.length hos2; simp at this; have := ticks_len ub 6; have := ticks_len gb 3; omega
              have hK : os.map LTerm.t = knownT (listT (boxesT us p.gr.xs (stT 7) (keyT (keysL 3)))) (ticks ub 6) (ticks gb 3) := by rw [hos2, hr]; rfl
              have hder := cap_may (m := 7) (ub := ub) (gb := gb) (kt := keyT (keysL 3)) hP hper (fun g hg => keyT_keysL hg)
              have hgood : ∀ t ∈ os.map LTerm.t, Good t := by
                rw [hos2]
                intro t ht
                rcases List.mem_cons.1 ht with rfl | ht
                · exact hrg
                · rcases List.mem_append.1 ht with ht | ht
                  · obtain ⟨n, hn, rfl⟩ := List.mem_map.1 ht
                    have := ticks_mem hn
                    exact good_secret (by omega)
                  · obtain ⟨n, hn, rfl⟩ := List.mem_map.1 ht
                    have := ticks_mem hn
                    exact good_fresh (by omega) (by omega)
              have hz := can_der0 (K := os.map LTerm.t) (t := (freshL 1 7).t) (by simp; omega) hgood hsm.1
              have hall := S.wd.facts (AllI os) (by simp)
              replace S := S.rowToGl (e := 35) (sz := 5) (n := os.length) (c := ck) pk os hall
              replace S := S.add (Φ := LtF (freshL 1 7)) (hst _ _)
              refine c_region ?_
              iterate 2 (refine sq S ?_; clear S; intro a S)
              refine sr S (can_cl os (freshL 1 7) pk ck _ ((S.gl0 pk (xs := os)).imp fun _ h => gl_ls h) (S.t0 _)) ?_; clear S; rintro _ a w rfl S
              rw [hz.1, hz.2] at S
              iterate 5 (refine sq S ?_; clear S; intro a S)
              refine wl_nil ?_
              refine xtn ?_
              refine c_seq ?_
              refine c_region ?_
              iterate 3 (refine sq S ?_; clear S; intro a S)
              iterate 3 (refine gQ S ?_; clear S; intro a S)
              iterate 2 (refine sq S ?_; clear S; intro a S)
              refine wl_nil ?_
              refine xtn ?_
              refine c_ret ?_
              have e1 : derB (os.map LTerm.t) (freshL 1 7).t = mb := by
                rw [hK, hmb3, hmb]; exact hder
              refine end1 S (fun _ => ?_)
              rw [e1]; simp
end Go.Proofs.Ytgielmldblopeaa
