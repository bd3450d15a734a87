/- Layer 13: CapReads. -/
import Derived.Test.YtgielmldblopeaaLawCapA
namespace Go.Proofs.Ytgielmldblopeaa
open Go Go.Wk
set_option synthInstance.maxSize 100000
set_option synthInstance.maxHeartbeats 400000
set_option maxRecDepth 100000

theorem MakeR.one {M : Nat → Prop} {p : LPerm} {s : Term} {keys : List LKey} {v : Value} {w : World} (h : MakeR M p s keys v w) : ∃ (r : LTerm) (e : Int), v = .tuple ⟨[vL r, .int .i64 e]⟩ ∧ Stable M w (LtF r) ∧
    ((e = 210 ∧ permB p = false) ∨ (e = 0 ∧ permB p = true ∧ ∃ us : List Int, us.Perm (p.owner :: p.rd.xs) ∧ us.Pairwise (· < ·) ∧ r.t = listT (boxesT us p.gr.xs s (keyT keys)) ∧ Good r.t)) := by
  rcases h with ⟨h1, rfl⟩ | ⟨h1, us, r, h2, h3, rfl, h4, h5, h6⟩
  · exact ⟨zeroL, 210, rfl, fun w' _ => by simp [zeroL, LtIn, LsIn, LtF], .inl ⟨rfl, h1⟩⟩
  · exact ⟨r, 0, rfl, h6, .inr ⟨rfl, h1, us, h2, h3, h4, h5⟩⟩
theorem OpenR.one {M : Nat → Prop} {b : Bool} {s : Term} {v : Value} {w : World} (h : OpenR M (if b = true then some s else none) v w) : ∃ (x : LTerm) (e : Int), v = .tuple ⟨[vL x, .int .i64 e]⟩ ∧ Stable M w (LtF x) ∧ (b = true → e = 0 ∧ x.t = s) ∧ (b = false → e = 4) := by
  cases b with
  | true => obtain ⟨r, h1, h2, h3⟩ := openR_some h; exact ⟨r, 0, h1, h3, fun _ => ⟨rfl, h2⟩, nofun⟩
  | false => exact ⟨zeroL, 4, openR_none h, fun w' _ => by simp [zeroL, LtIn, LsIn, LtF], nofun, fun _ => rfl⟩
theorem keysFor_take {l : List LBel} {n : Int} {i : Nat} (hi : i < l.length) : keysFor (l.take (i + 1)) n = keysFor (l.take i) n ++ (if okKey n (nthG l i) = true then [keyL (nthG l i).group] else []) := by
  rw [nthG_take hi, keysFor, List.filter_append, List.map_append]
  congr 1
  cases h : okKey n (nthG l i) <;> simp [h]
theorem keysFor_in (l : List LBel) (n : Int) (w : World) : ∀ k ∈ keysFor l n, LtIn w k.key := fun k hk => by
  obtain ⟨i, -, rfl⟩ := List.mem_map.1 hk
  simp [keyL, LTerm.mk, LtIn, LsIn]
theorem keysFor_len (l : List LBel) (n : Int) : (keysFor l n).length ≤ l.length := by
  rw [keysFor, List.length_map]; exact List.length_filter_le _ _
theorem nthG_keysL {g : Int} (h : 1 ≤ g ∧ g ≤ 3) : nthG (keysL 3) (g - 1).toNat = keyL g := by
  have : g = 1 ∨ g = 2 ∨ g = 3 := by omega
  rcases this with rfl | rfl | rfl <;> rfl
theorem capreads_c (p : LPerm) (l : List LBel) (pl : Option Addr) (cl : Nat) (num : Int) (w0 : World) (hp : Stable (fun _ => False) w0 (InF p)) (hg : Stable (fun _ => False) w0 (GlF pl l)) (hll : l.length ≤ 9223372036854775807) : Ret Try.prog 5 [vPerm p, .slice pl l.length cl, .int .i64 num] w0 (fun _ => False) fun v _ => v = .bool true := by
  refine enter Try.func5 rfl rfl (Wd.begin (fs := [InF p, GlF pl l]) (by simp; exact ⟨hp, hg⟩)) (fun a S => ?_)
  simp only [Try.ntmps5, List.length_cons, List.length_nil, Nat.reduceAdd, Nat.reduceSub, List.replicate_succ, List.replicate_zero, List.cons_append, List.nil_append] at S
  refine c_seq ?_
  refine c_region ?_
  refine sa S ?_; clear S; intro b3 a w S
  refine sq S ?_; clear S; intro a S
  refine wl_nil ?_
  refine xtn ?_
  iterate 2 (refine c_seq ?_)
  refine c_region ?_
  refine sr S (wakes13_c _) ?_; clear S; rintro _ a w rfl S
  refine sq S ?_; clear S; intro a S
  rw [show (!true) = false from rfl] at S
  refine wl_nil ?_
  refine xtn ?_
  refine c_condF S ?_
  refine c_skip ?_
  refine xtn ?_
  iterate 2 (refine c_seq ?_)
  refine c_region ?_
  refine sq S ?_; clear S; intro a S
  refine sr S (overPerm_c p _) ?_; clear S; rintro _ a w rfl S
  refine sq S ?_; clear S; intro a S
  iterate 3 (refine gQ S ?_; clear S; intro a S)
  refine sq S ?_; clear S; intro a S
  refine wl_nil ?_
  refine xtn ?_
  refine c_cond S (fun h3 => ?_) (fun h3 => ?_)
  · refine c_seq ?_
    refine c_region ?_
    refine sq S ?_; clear S; intro a S
    refine wl_nil ?_
    refine xtn ?_
    refine c_ret ?_
    refine xtr ?_
    refine end1 S (fun _ => rfl)
  · refine c_skip ?_
    refine xtn ?_
    refine c_seq ?_
    have hl100 : l.length ≤ 100 := by simp at h3; omega
    refine c_region ?_
    iterate 2 (refine sq S ?_; clear S; intro a S)
    have hz : NZ (100 : Int) := ⟨by decide⟩
    refine sq S ?_; clear S; intro a S
    obtain ⟨m, hm⟩ : ∃ m, m = (max num 0).tmod 100 := ⟨_, rfl⟩
    have hm1 : 0 ≤ m ∧ m < 100 := by rw [hm]; exact ⟨Int.tmod_nonneg _ (by omega), Int.tmod_lt_of_pos _ (by omega)⟩
    rw [← hm] at S
    clear hz
    refine sc S ?_; clear S; intro a w S
    refine sa S ?_; clear S; intro b7 a w S
    refine sw S ?_; clear S; intro a w S
    refine wl_nil ?_
    refine xtn ?_
    refine c_seq ?_
    have hsm : SmallT (freshL 1 m).t := fresh_small (by omega) (by omega)
    have hst : ∀ (M : Nat → Prop) (w : World), Stable M w (LtF (freshL 1 m)) := fun _ _ w' _ => by simp [freshL, LtIn, LsIn, LtF]
    refine c_drwe3 (.q 0 (.q 1 (.b2 2 7 (.b2 3 7 (.q 4 (.q 5 (.q 6 (.l 7 (.l 8 (.q 9 (.e))))))) (.l 3 (.q 4 (.q 5 (.q 6 (.l 8 (.q 9 (.e)))))))) (.l 2 (.l 3 (.q 4 (.q 5 (.q 6 (.l 8 (.q 9 (.e))))))))))) S (fun (b8 : Nat) (r : LTerm) (e : Int) uu => [(8, .pointer (some ⟨b8, 0, none⟩)), (0, .int .i64 e), (19, uu 29), (0, uu 30), (0, uu 31), (0, uu 32), (0, uu 33), (0, uu 34), (0, uu 35)]) [Wk.box b7 35 (freshL 1 m).cells, Wk.box b3 56 (cPerm p)] (fun (b8 : Nat) (r : LTerm) (e : Int) => [Wk.box b8 35 r.cells, Wk.box b7 35 (freshL 1 m).cells, Wk.box b3 56 (cPerm p)]) (fun (b8 : Nat) (r : LTerm) (e : Int) => [LtF r, InF p, GlF pl l]) (fun (b8 : Nat) (r : LTerm) (e : Int) => (e = 210 ∧ permB p = false) ∨ (e = 0 ∧ permB p = true ∧ ∃ us : List Int, us.Perm (p.owner :: p.rd.xs) ∧ us.Pairwise (· < ·) ∧ r.t = listT (boxesT us p.gr.xs (freshL 1 m).t (keyT (keysL 3))) ∧ Good r.t)) ?_ ?_
    · intro w S
      iterate 2 (refine tq S ?_; clear S; intro a S)
      refine tb2 ?_ ?_
      · refine sr S (keysOf_c _ w (foots_lt S)) ?_; clear S; rintro _ a w ⟨kp, kc, rfl, hkf⟩ S
        replace S := S.add hkf
        refine te S ?_
        refine tb2 ?_ ?_
        · refine sr S (make_c p (freshL 1 m) (keysL 3) kp kc _ w (foots_lt S) (S.i p) (hst _ _) (S.gl kp) (by simp [keysL]) hsm (fun k hk => ?_) (fun g _ h1 h2 => ⟨keyL g, ?_, rfl⟩)) ?_
          · obtain ⟨i, hi, rfl⟩ := List.mem_map.1 hk
            have := List.mem_range.1 hi
            exact fresh_small (by omega) (by omega)
          · refine List.mem_map.2 ⟨(g - 1).toNat, List.mem_range.2 (by omega), ?_⟩
            rw [show (((g - 1).toNat : Nat) : Int) + 1 = g from by omega]
          clear S; rintro _ a w hmR S
          obtain ⟨r, e, rfl, hrf, hre⟩ := hmR.one
          replace S := S.add hrf
          clear hmR
          refine te S ?_
          iterate 3 (refine tq S ?_; clear S; intro a S)
          refine tl ?_
          refine sa S ?_; clear S; intro b8 a w S
          refine te S ?_
          refine tl ?_
          refine sw S ?_; clear S; intro a w S
          refine te S ?_
          refine tq S ?_; clear S; intro a S
          refine tn ?_
          exact ⟨b8, r, e, S.uu, hre, S.sub _ _⟩
        · refine sa S ?_; clear S; intro b8 a w S
          refine te S ?_
          refine tl ?_
          refine sr S (make_c p (freshL 1 m) (keysL 3) kp kc _ w (foots_lt S) (S.i p) (hst _ _) (S.gl kp) (by simp [keysL]) hsm (fun k hk => ?_) (fun g _ h1 h2 => ⟨keyL g, ?_, rfl⟩)) ?_
          · obtain ⟨i, hi, rfl⟩ := List.mem_map.1 hk
            have := List.mem_range.1 hi
            exact fresh_small (by omega) (by omega)
          · refine List.mem_map.2 ⟨(g - 1).toNat, List.mem_range.2 (by omega), ?_⟩
            rw [show (((g - 1).toNat : Nat) : Int) + 1 = g from by omega]
          clear S; rintro _ a w hmR S
          obtain ⟨r, e, rfl, hrf, hre⟩ := hmR.one
          replace S := S.add hrf
          clear hmR
          refine te S ?_
          iterate 3 (refine tq S ?_; clear S; intro a S)
          refine tl ?_
          refine sw S ?_; clear S; intro a w S
          refine te S ?_
          refine tq S ?_; clear S; intro a S
          refine tn ?_
          exact ⟨b8, r, e, S.uu, hre, S.sub _ _⟩
      · refine sa S ?_; clear S; intro b8 a w S
        refine te S ?_
        refine tl ?_
        refine sr S (keysOf_c _ w (foots_lt S)) ?_; clear S; rintro _ a w ⟨kp, kc, rfl, hkf⟩ S
        replace S := S.add hkf
        refine te S ?_
        refine tl ?_
        refine sr S (make_c p (freshL 1 m) (keysL 3) kp kc _ w (foots_lt S) (S.i p) (hst _ _) (S.gl kp) (by simp [keysL]) hsm (fun k hk => ?_) (fun g _ h1 h2 => ⟨keyL g, ?_, rfl⟩)) ?_
        · obtain ⟨i, hi, rfl⟩ := List.mem_map.1 hk
          have := List.mem_range.1 hi
          exact fresh_small (by omega) (by omega)
        · refine List.mem_map.2 ⟨(g - 1).toNat, List.mem_range.2 (by omega), ?_⟩
          rw [show (((g - 1).toNat : Nat) : Int) + 1 = g from by omega]
        clear S; rintro _ a w hmR S
        obtain ⟨r, e, rfl, hrf, hre⟩ := hmR.one
        replace S := S.add hrf
        clear hmR
        refine te S ?_
        iterate 3 (refine tq S ?_; clear S; intro a S)
        refine tl ?_
        refine sw S ?_; clear S; intro a w S
        refine te S ?_
        refine tq S ?_; clear S; intro a S
        refine tn ?_
        exact ⟨b8, r, e, S.uu, hre, S.sub _ _⟩
    clear S; rintro b8 r e uu a w hre S
    refine xtn ?_
    iterate 2 (refine c_seq ?_)
    refine c_region ?_
    iterate 2 (refine sq S ?_; clear S; intro a S)
    refine wl_nil ?_
    refine xtn ?_
    refine c_cond S (fun h7 => ?_) (fun h7 => ?_)
    · refine c_seq ?_
      refine c_region ?_
      iterate 3 (refine sq S ?_; clear S; intro a S)
      refine gQ S ?_; clear S; intro a S
      refine gC S ?_; clear S; intro a w S
      refine gQ S ?_; clear S; intro a S
      iterate 2 (refine sq S ?_; clear S; intro a S)
      refine wl_nil ?_
      refine xtn ?_
      refine c_ret ?_
      refine xtr ?_
      rcases hre with ⟨rfl, hP⟩ | ⟨rfl, -⟩
      · refine end1 S (fun _ => ?_)
        simp [permF, hP]
      · simp at h7
    · refine c_skip ?_
      refine xtn ?_
      iterate 2 (refine c_seq ?_)
      obtain ⟨hP, us, hper, hur, hr, hrg⟩ : permB p = true ∧ ∃ us : List Int, us.Perm (p.owner :: p.rd.xs) ∧ us.Pairwise (· < ·) ∧ r.t = listT (boxesT us p.gr.xs (freshL 1 m).t (keyT (keysL 3))) ∧ Good r.t := by
        rcases hre with ⟨rfl, -⟩ | ⟨-, h⟩
        · simp at h7
        · exact h
      have hO := permOk hP
      have hU : ∀ n ∈ us, 1 ≤ n ∧ n ≤ 6 := fun n hn => by
        rcases List.mem_cons.1 (hper.mem_iff.1 hn) with rfl | h
        · exact hO.owner
        · exact hO.rdU n h
      have hne : us ≠ [] := List.ne_nil_of_mem (hper.mem_iff.2 (List.mem_cons_self ..))
      replace S := S.boxToF b3
      replace S := S.boxToF b7
      replace S := S.boxToF b8
      refine c_region ?_
      refine sq S ?_; clear S; intro a S
      refine wl_nil ?_
      refine xtn ?_
      refine c_block ?_
      refine c_fore1 S (fun (n : Nat) uu => [(6, uu 6), (3, .int .i64 (n : Nat)), (0, uu 11), (1, uu 13), (0, uu 14), (0, uu 15), (29, uu 45), (0, uu 46), (0, uu 47), (0, uu 48), (0, uu 49), (0, uu 50), (0, uu 51), (0, uu 52), (0, uu 53), (0, uu 54), (0, uu 55), (0, uu 56), (0, uu 57), (0, uu 58), (0, uu 59), (0, uu 60), (0, uu 61), (0, uu 62), (0, uu 63), (0, uu 64), (0, uu 65), (0, uu 66), (0, uu 67), (0, uu 68), (0, uu 69), (0, uu 70), (0, uu 71), (0, uu 72), (0, uu 73), (0, uu 74), (0, uu 75), (0, uu 76), (0, uu 77), (0, uu 78), (0, uu 79), (0, uu 80), (0, uu 81), (0, uu 82), (0, uu 83), (0, uu 84), (0, uu 85), (0, uu 86), (0, uu 87), (0, uu 88), (0, uu 89), (0, uu 90), (0, uu 91), (0, uu 92), (0, uu 93), (0, uu 94), (0, uu 95), (0, uu 96), (0, uu 97), (0, uu 98), (0, uu 99)]) (fun (n : Nat) => []) (fun (n : Nat) => [BoxF b8 35 r.cells, BoxF b7 35 (freshL 1 m).cells, BoxF b3 56 (cPerm p), LtF r, InF p, GlF pl l]) (fun (n : Nat) => 1 ≤ n ∧ n ≤ 7) (fun (n : Nat) => 7 - n) (1) ?_ S.uu ?_ ?_
      · exact ⟨Nat.le_refl _, by omega⟩
      · first | exact S | exact S.sub _ _
      · clear S; rintro n uu a w ⟨hn1, hn7⟩ S
        iterate 2 (refine c_seq ?_)
        refine c_region ?_
        iterate 2 (refine sq S ?_; clear S; intro a S)
        refine wl_nil ?_
        refine xtn ?_
        refine c_cond S (fun h10 => ?_) (fun h10 => ?_)
        · refine c_skip ?_
          refine xtn ?_
          refine c_seq ?_
          refine c_block ?_
          refine c_seq ?_
          have hn6 : n ≤ 6 := by simp at h10; omega
          refine c_region ?_
          refine sq S ?_; clear S; intro a S
          refine wl_nil ?_
          refine xtn ?_
          iterate 2 (refine c_seq ?_)
          refine c_region ?_
          iterate 3 (refine sq S ?_; clear S; intro a S)
          refine wl_nil ?_
          refine xtn ?_
          refine c_block ?_
          replace S := S.addNil 68 6
          refine c_fore4 S (fun (k : Nat) (kx : List LKey) (kp : Option Addr) (kc : Nat) uu => [(11, .slice kp kx.length kc), (1, uu 13), (37, .int .i64 (k : Nat)), (0, uu 52), (0, uu 53), (0, uu 54), (0, uu 55), (0, uu 56), (0, uu 57), (0, uu 58), (0, uu 59), (0, uu 60), (0, uu 61), (0, uu 62), (0, uu 63), (0, uu 64), (0, uu 65), (0, uu 66), (0, uu 67), (0, uu 68), (0, uu 69), (0, uu 70), (0, uu 71), (0, uu 72), (0, uu 73), (0, uu 74), (0, uu 75), (0, uu 76), (0, uu 77), (0, uu 78)]) (fun (k : Nat) (kx : List LKey) (kp : Option Addr) (kc : Nat) => [Wk.row 68 6 kp kx.length kc (encL kx)]) (fun (k : Nat) (kx : List LKey) (kp : Option Addr) (kc : Nat) => [BoxF b8 35 r.cells, BoxF b7 35 (freshL 1 m).cells, BoxF b3 56 (cPerm p), LtF r, InF p, GlF pl l]) (fun (k : Nat) (kx : List LKey) (kp : Option Addr) (kc : Nat) => k ≤ l.length ∧ kx = keysFor (l.take k) n) (fun (k : Nat) (kx : List LKey) (kp : Option Addr) (kc : Nat) => l.length - k) (0) ([]) (none) (0) ?_ S.uu ?_ ?_
          · exact ⟨Nat.zero_le _, rfl⟩
          · first | exact S | exact S.sub _ _
          · clear S; rintro k kx kp kc uu a w ⟨hi, hkx⟩ S
            refine c_seq ?_
            refine c_region ?_
            refine sq S ?_; clear S; intro a S
            refine wl_nil ?_
            refine xtn ?_
            refine c_seq ?_
            refine c_cond S (fun h14 => ?_) (fun h14 => ?_)
            · refine c_skip ?_
              refine xtn ?_
              refine c_seq ?_
              refine c_block ?_
              refine c_seq ?_
              have hil : k < l.length := by simp at h14; omega
              have hK : KLt k l.length := ⟨hil⟩
              have hkl : kx.length ≤ 100 := by rw [hkx]; exact Nat.le_trans (keysFor_len _ _) (by simp; omega)
              have htk := keysFor_take (n := n) hil
              refine c_region ?_
              iterate 2 (refine sq S ?_; clear S; intro a S)
              refine sa S ?_; clear S; intro b13 a w S
              refine sw S ?_; clear S; intro a w S
              refine wl_nil ?_
              refine xtn ?_
              refine c_seq ?_
              refine c_region ?_
              iterate 5 (refine sq S ?_; clear S; intro a S)
              iterate 3 (refine gQ S ?_; clear S; intro a S)
              iterate 2 (refine sq S ?_; clear S; intro a S)
              iterate 3 (refine gQ S ?_; clear S; intro a S)
              refine sq S ?_; clear S; intro a S
              refine wl_nil ?_
              refine xtn ?_
              refine c_cond S (fun h16 => ?_) (fun h16 => ?_)
              · have hok : okKey n (nthG l k) = true := h16
                have hg3 : 1 ≤ (nthG l k).group ∧ (nthG l k).group ≤ 3 := by
                  simp only [okKey, Bool.and_eq_true, decide_eq_true_eq] at hok
                  exact ⟨hok.1.2, hok.2⟩
                have hK3 : KLt ((nthG l k).group - 1).toNat 3 := ⟨by omega⟩
                have hK4 : KLt ((nthG l k).group - 1).toNat (keysL 3).length := ⟨by simp [keysL]; omega⟩
                rw [hok, if_pos rfl] at htk
                refine c_drwe2 (.q 0 (.q 2 (.q 3 (.q 4 (.l 1 (.l 5 (.l 6 (.l 7 (.l 8 (.q 9 (.e))))))))))) S (fun (p17 : Option Addr) (c17 : Nat) uu => [(11, .slice p17 (kx.length + 1) c17), (57, uu 69), (0, uu 70), (0, uu 71), (0, uu 72), (0, uu 73), (0, uu 74), (0, uu 75), (0, uu 76), (0, uu 77)]) [Wk.box b13 66 [.int .i64 (nthG l k).group, .int .i64 (nthG l k).user]] (fun (p17 : Option Addr) (c17 : Nat) => [Wk.row 68 6 p17 (kx.length + 1) c17 (encL (kx ++ [keyL (nthG l k).group]))]) (fun (p17 : Option Addr) (c17 : Nat) => [BoxF b8 35 r.cells, BoxF b7 35 (freshL 1 m).cells, BoxF b3 56 (cPerm p), LtF r, InF p, GlF pl l]) (fun (p17 : Option Addr) (c17 : Nat) => True) ?_ ?_
                · intro w S
                  iterate 4 (refine tq S ?_; clear S; intro a S)
                  rw [w64 _ (by omega) (by omega), show (nthG l k).group - 1 = (((nthG l k).group - 1).toNat : Int) from by omega] at S
                  refine tl ?_
                  refine sr S (keysOf_c _ w (foots_lt S)) ?_; clear S; rintro _ a w ⟨kq, kd, rfl, hkf⟩ S
                  replace S := S.add hkf
                  refine te S ?_
                  refine tl ?_
                  refine sq S ?_; clear S; intro a S
                  refine te S ?_
                  refine tl ?_
                  refine sq S ?_; clear S; intro a S
                  rw [nthG_keysL hg3] at S
                  refine te S ?_
                  refine tl ?_
                  refine sn S ?_; clear S; intro b76 a w S
                  refine te S ?_
                  refine tl ?_
                  refine sap S (by simp [maxLen]; omega) (by omega) ?_; clear S; rintro p17 c17 a w - S
                  rw [show encL kx ++ [Value.int .i64 (keyL (nthG l k).group).group, .int .i64 (keyL (nthG l k).group).key.kind, .int .i64 (keyL (nthG l k).group).key.user, .int .i64 (keyL (nthG l k).group).key.num, str (keyL (nthG l k).group).key.text, .slice (keyL (nthG l k).group).key.p (keyL (nthG l k).group).key.kids.length (keyL (nthG l k).group).key.cap] = encL (kx ++ [keyL (nthG l k).group]) from by rw [encL_append]; rfl] at S
                  refine te S ?_
                  refine tq S ?_; clear S; intro a S
                  refine tn ?_
                  exact ⟨p17, c17, S.uu, trivial, S.sub _ _⟩
                clear S; rintro p17 c17 uu a w hrel S
                refine xbn ?_
                refine xtn ?_
                refine c_region ?_
                iterate 2 (refine sq S ?_; clear S; intro a S)
                refine wl_nil ?_
                refine xtn ?_
                rw [show kx.length + 1 = (kx ++ [keyL (nthG l k).group]).length from by simp] at S
                rw [w64 ((k : Int) + 1) (by omega) (by omega)] at S
                exact ⟨k + 1, kx ++ [keyL (nthG l k).group], p17, c17, S.uu, ⟨hil, by rw [hkx, htk]⟩, S.sub _ _, by omega⟩
              · refine c_skip ?_
                refine xbn ?_
                refine xtn ?_
                refine c_region ?_
                iterate 2 (refine sq S ?_; clear S; intro a S)
                refine wl_nil ?_
                refine xtn ?_
                have hok : okKey n (nthG l k) = false := h16
                rw [hok, if_neg (by simp), List.append_nil] at htk
                rw [w64 ((k : Int) + 1) (by omega) (by omega)] at S
                exact ⟨k + 1, kx, kp, kc, S.uu, ⟨hil, by rw [hkx, htk]⟩, S.sub _ _, by omega⟩
            · refine c_exit ?_
              iterate 2 (refine xte ?_)
              refine xbe ?_
              refine xtn ?_
              refine c_seq ?_
              rw [List.take_of_length_le (by simp at h14; omega)] at hkx
              have hkl : kx.length ≤ 100 := by rw [hkx]; exact Nat.le_trans (keysFor_len _ _) hl100
              replace S := S.rowToGl (e := 68) (sz := 6) (n := kx.length) (c := kc) kp kx (fun w' _ => by rw [hkx]; exact keysFor_in l n w')
              refine c_region ?_
              iterate 3 (refine sq S ?_; clear S; intro a S)
              refine sr S (openM_c r us p.gr.xs _ _ hU hO.grU hur hO.gr hr hrg hne n kx kp kc (by omega) _ w (foots_lt S) (S.t r) (S.gl kp)) ?_; clear S; rintro _ a w h S
              rw [hkx, may_open hP hper ⟨by omega, by omega⟩ (fun g hg => keyT_keysL hg)] at h
              obtain ⟨x, e2, rfl, hxf, hx1, hx2⟩ := h.one
              replace S := S.add hxf
              clear h
              iterate 3 (refine sq S ?_; clear S; intro a S)
              refine sa S ?_; clear S; intro b14 a w S
              refine sw S ?_; clear S; intro a w S
              refine sq S ?_; clear S; intro a S
              refine wl_nil ?_
              refine xtn ?_
              refine c_seq ?_
              refine c_region ?_
              iterate 3 (refine sq S ?_; clear S; intro a S)
              refine sr S (mayRead_c p n l pl cl _ (by omega) (S.i0 p) (S.gl0 pl)) ?_; clear S; rintro _ a w rfl S
              refine wl_nil ?_
              refine xtn ?_
              refine c_cond S (fun h20 => ?_) (fun h20 => ?_)
              · refine c_seq ?_
                refine c_region ?_
                iterate 3 (refine sq S ?_; clear S; intro a S)
                iterate 2 (refine gQ S ?_; clear S; intro a S)
                refine gC S ?_; clear S; intro a w S
                refine gQ S ?_; clear S; intro a S
                refine sq S ?_; clear S; intro a S
                refine wl_nil ?_
                refine xtn ?_
                refine c_cond S (fun h21 => ?_) (fun h21 => ?_)
                · refine c_seq ?_
                  refine c_region ?_
                  refine sq S ?_; clear S; intro a S
                  refine wl_nil ?_
                  refine xtn ?_
                  refine c_ret ?_
                  refine xbr ?_
                  iterate 2 (refine xtr ?_)
                  refine xbr ?_
                  refine xtr ?_
                  exfalso
                  obtain ⟨q1, q2⟩ := hx1 h20
                  have : sameF x.t (freshL 1 m).t = true := (sameF_iff _ _).2 q2
                  rw [q1, this] at h21
                  simp at h21
                · refine c_skip ?_
                  refine xbn ?_
                  refine xtn ?_
                  refine c_region ?_
                  iterate 2 (refine sq S ?_; clear S; intro a S)
                  rw [w64 _ (by omega) (by omega), show (n : Int) + 1 = ((n + 1 : Nat) : Int) from rfl] at S
                  refine sq S ?_; clear S; intro a S
                  refine wl_nil ?_
                  refine xtn ?_
                  exact ⟨n + 1, S.uu, ⟨by omega, by omega⟩, S.sub _ _, by omega⟩
              · refine c_seq ?_
                refine c_region ?_
                iterate 2 (refine sq S ?_; clear S; intro a S)
                refine wl_nil ?_
                refine xtn ?_
                refine c_cond S (fun h23 => ?_) (fun h23 => ?_)
                · refine c_seq ?_
                  refine c_region ?_
                  refine sq S ?_; clear S; intro a S
                  refine wl_nil ?_
                  refine xtn ?_
                  refine c_ret ?_
                  refine xbr ?_
                  iterate 2 (refine xtr ?_)
                  refine xbr ?_
                  refine xtr ?_
                  exfalso
                  rw [hx2 h20] at h23
                  simp at h23
                · refine c_skip ?_
                  refine xbn ?_
                  refine xtn ?_
                  refine c_region ?_
                  iterate 2 (refine sq S ?_; clear S; intro a S)
                  rw [w64 _ (by omega) (by omega), show (n : Int) + 1 = ((n + 1 : Nat) : Int) from rfl] at S
                  refine sq S ?_; clear S; intro a S
                  refine wl_nil ?_
                  refine xtn ?_
                  exact ⟨n + 1, S.uu, ⟨by omega, by omega⟩, S.sub _ _, by omega⟩
        · refine c_exit ?_
          iterate 2 (refine xte ?_)
          refine xbe ?_
          refine xtn ?_
          refine c_seq ?_
          refine c_region ?_
          refine sq S ?_; clear S; intro a S
          refine wl_nil ?_
          refine xtn ?_
          refine c_ret ?_
          refine end1 S (fun _ => rfl)
end Go.Proofs.Ytgielmldblopeaa
