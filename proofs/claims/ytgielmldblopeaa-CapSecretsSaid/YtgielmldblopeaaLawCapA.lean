/- Layer 13: keysOf, overPerm, wakes. -/
import Derived.Test.YtgielmldblopeaaPlainCapB
namespace Go.Proofs.Ytgielmldblopeaa
open Go Go.Wk
set_option synthInstance.maxSize 100000
set_option synthInstance.maxHeartbeats 400000
set_option maxRecDepth 100000

theorem keysL_in (n : Nat) (w : World) : ∀ k ∈ keysL n, LtIn w k.key := fun k hk => by
  obtain ⟨i, -, rfl⟩ := List.mem_map.1 hk
  simp [keyL, LTerm.mk, LtIn, LsIn]
theorem keysL_succ (n : Nat) : keysL (n + 1) = keysL n ++ [keyL ((n : Int) + 1)] := by simp [keysL, List.range_succ]
theorem keysL_len (n : Nat) : (keysL n).length = n := by simp [keysL]
theorem keysOf_c (M : Nat → Prop) (w0 : World) (hM : ∀ k, M k → k < w0.heap.size) : Ret Try.prog 28 [] w0 (fun _ => False) fun v w' => ∃ p c, v = .slice p 3 c ∧ Stable M w' (GlF p (keysL 3)) := by
  refine enter Try.func28 rfl rfl (Wd.beginM (M := M) (fs := []) hM nofun) (fun a S => ?_)
  simp only [Try.ntmps28, List.length_cons, List.length_nil, Nat.reduceAdd, Nat.reduceSub, List.replicate_succ, List.replicate_zero, List.cons_append, List.nil_append] at S
  refine c_seq ?_
  refine c_region ?_
  refine sq S ?_; clear S; intro a S
  refine wl_nil ?_
  refine xtn ?_
  refine c_seq ?_
  refine c_region ?_
  refine sq S ?_; clear S; intro a S
  refine wl_nil ?_
  refine xtn ?_
  iterate 2 (refine c_seq ?_)
  refine c_region ?_
  refine sq S ?_; clear S; intro a S
  refine wl_nil ?_
  refine xtn ?_
  refine c_block ?_
  replace S := S.addNil 68 6
  refine c_forf3 S (fun (j : Nat) (p : Option Addr) (c : Nat) uu => [(1, .slice p j c), (0, .int .i64 ((j : Int) + 1)), (0, uu 3), (0, uu 4), (0, uu 5), (0, uu 6), (0, uu 7), (0, uu 8), (0, uu 9), (0, uu 10), (0, uu 11), (0, uu 12), (0, uu 13), (0, uu 14)]) (fun (j : Nat) (p : Option Addr) (c : Nat) => [Wk.row 68 6 p j c (encL (keysL j)), ext M]) (fun (j : Nat) (p : Option Addr) (c : Nat) => j ≤ 3) (fun (j : Nat) (p : Option Addr) (c : Nat) => 3 - j) (0) (none) (0) ?_ S.uu ?_ ?_
  · exact Nat.zero_le _
  · first | exact S | exact S.sub _ _
  · clear S; rintro j p c uu a w hj S
    iterate 2 (refine c_seq ?_)
    refine c_region ?_
    iterate 2 (refine sq S ?_; clear S; intro a S)
    refine wl_nil ?_
    refine xtn ?_
    refine c_cond S (fun h3 => ?_) (fun h3 => ?_)
    · refine c_skip ?_
      refine xtn ?_
      refine c_seq ?_
      refine c_block ?_
      have hj3 : j < 3 := by simp at h3; omega
      refine c_region ?_
      iterate 4 (refine sq S ?_; clear S; intro a S)
      rw [w64 _ (by omega) (by omega)] at S
      refine sc S ?_; clear S; intro a w S
      refine sq S ?_; clear S; intro a S
      refine sn S ?_; clear S; intro b13 a w S
      refine sap S (by simp [maxLen]; omega) (by omega) ?_; clear S; rintro p5 c5 a w - S
      refine sq S ?_; clear S; intro a S
      refine wl_nil ?_
      refine xbn ?_
      refine xtn ?_
      refine c_region ?_
      iterate 2 (refine sq S ?_; clear S; intro a S)
      rw [w64 _ (by omega) (by omega), show (j : Int) + 1 + 1 = ((j + 1 : Nat) : Int) + 1 from by omega] at S
      refine sq S ?_; clear S; intro a S
      refine wl_nil ?_
      refine xtn ?_
      rw [show encL (keysL j) ++ [Value.int .i64 ((j : Int) + 1), .int .i64 (freshL 6 (100 + ((j : Int) + 1))).kind, .int .i64 (freshL 6 (100 + ((j : Int) + 1))).user, .int .i64 (freshL 6 (100 + ((j : Int) + 1))).num, str (freshL 6 (100 + ((j : Int) + 1))).text, .slice (freshL 6 (100 + ((j : Int) + 1))).p (freshL 6 (100 + ((j : Int) + 1))).kids.length (freshL 6 (100 + ((j : Int) + 1))).cap] = encL (keysL (j + 1)) from by rw [keysL_succ, encL_append]; rfl] at S
      exact ⟨j + 1, p5, c5, S.uu, hj3, S.sub _ _, by omega⟩
    · refine c_exit ?_
      iterate 2 (refine xte ?_)
      refine xbe ?_
      refine xtn ?_
      refine c_seq ?_
      refine c_region ?_
      iterate 2 (refine sq S ?_; clear S; intro a S)
      refine wl_nil ?_
      refine xtn ?_
      refine c_ret ?_
      have hj3 : j = 3 := by simp at h3; omega
      subst hj3
      have hrow := S.row p 3
      have hnew := S.rowNew p 3
      refine end1 S (fun _ => ?_)
      exact ⟨p, c, rfl, gl_own hrow (fun w' _ => keysL_in 3 w') (fun ad h hm => (hnew ad h).elim (fun h => h.elim) (fun h2 => by have := hM _ hm; omega))⟩
def overB (p : LPerm) : Bool := decide (100 < (p.rd.xs.length : Int)) || decide (100 < (p.wr.xs.length : Int)) || decide (100 < (p.gr.xs.length : Int))
theorem overPerm_c (p : LPerm) (w0 : World) : Ret Try.prog 25 [vPerm p, .slice none 0 0] w0 (fun _ => False) fun v _ => v = .bool (overB p) := by
  refine enter Try.func25 rfl rfl (Wd.start w0) (fun a S => ?_)
  simp only [Try.ntmps25, List.length_cons, List.length_nil, Nat.reduceAdd, Nat.reduceSub, List.replicate_succ, List.replicate_zero, List.cons_append, List.nil_append] at S
  refine c_seq ?_
  refine c_region ?_
  refine sa S ?_; clear S; intro b2 a w S
  refine sq S ?_; clear S; intro a S
  refine wl_nil ?_
  refine xtn ?_
  iterate 2 (refine c_seq ?_)
  refine c_region ?_
  iterate 5 (refine sq S ?_; clear S; intro a S)
  iterate 4 (refine gQ S ?_; clear S; intro a S)
  iterate 2 (refine sq S ?_; clear S; intro a S)
  iterate 4 (refine gQ S ?_; clear S; intro a S)
  iterate 2 (refine sq S ?_; clear S; intro a S)
  iterate 3 (refine gQ S ?_; clear S; intro a S)
  refine sq S ?_; clear S; intro a S
  refine wl_nil ?_
  refine xtn ?_
  refine c_cond S (fun h1 => ?_) (fun h1 => ?_)
  · refine c_seq ?_
    refine c_region ?_
    refine sq S ?_; clear S; intro a S
    refine wl_nil ?_
    refine xtn ?_
    refine c_ret ?_
    refine xtr ?_
    have e : overB p = true := by simpa [overB] using h1
    refine end1 S (fun _ => ?_)
    rw [e]
  · refine c_skip ?_
    refine xtn ?_
    iterate 2 (refine c_seq ?_)
    refine c_region ?_
    iterate 3 (refine sq S ?_; clear S; intro a S)
    refine wl_nil ?_
    refine xtn ?_
    refine c_block ?_
    refine c_forf1 S (fun (k : Nat) uu => [(4, uu 4), (1, uu 6), (23, .int .i64 ((0 : Nat) : Int)), (0, uu 31), (0, uu 32), (0, uu 33), (0, uu 34), (0, uu 35), (0, uu 36), (0, uu 37)]) (fun (k : Nat) => [Wk.box b2 56 (cPerm p)]) (fun (k : Nat) => True) (fun (k : Nat) => 0) (0) ?_ S.uu ?_ ?_
    · trivial
    · first | exact S | exact S.sub _ _
    · clear S; rintro k uu a w hrel S
      refine c_seq ?_
      refine c_region ?_
      refine sq S ?_; clear S; intro a S
      rw [show decide (((0 : Nat) : Int) < ((0 : Nat) : Int)) = false from rfl] at S
      refine wl_nil ?_
      refine xtn ?_
      refine c_seq ?_
      refine c_condF S ?_
      refine c_exit ?_
      iterate 2 (refine xte ?_)
      refine xbe ?_
      refine xtn ?_
      refine c_seq ?_
      refine c_region ?_
      refine sq S ?_; clear S; intro a S
      refine wl_nil ?_
      refine xtn ?_
      refine c_ret ?_
      have e : overB p = false := by simpa [overB] using h1
      refine end1 S (fun _ => ?_)
      rw [e]
theorem openR_some {M : Nat → Prop} {T : Term} {v : Value} {w : World} (h : OpenR M (some T) v w) : ∃ r, v = .tuple ⟨[vL r, .int .i64 0]⟩ ∧ r.t = T ∧ Stable M w (LtF r) := by
  rcases h with ⟨h, -⟩ | ⟨T', r, h1, h2, h3, h4⟩
  · cases h
  · cases h1; exact ⟨r, h2, h3, h4⟩
theorem openR_none {M : Nat → Prop} {v : Value} {w : World} (h : OpenR M none v w) : v = .tuple ⟨[vL zeroL, .int .i64 4]⟩ := by
  rcases h with ⟨-, h⟩ | ⟨T', r, h1, -⟩
  · exact h
  · cases h1
theorem openM_c (r : LTerm) (us gs : List Int) (s : Term) (kt : Int → Term) (hU : ∀ n ∈ us, 1 ≤ n ∧ n ≤ 6) (hG : ∀ g ∈ gs, 1 ≤ g ∧ g ≤ 3) (hur : us.Pairwise (· < ·)) (hgr : gs.Pairwise (· < ·)) (hr : r.t = listT (boxesT us gs s kt)) (hg : Good r.t) (hne : us ≠ []) (n : Int) (keys : List LKey) (kp : Option Addr) (kc : Nat) (hkl : keys.length ≤ 1000) (M : Nat → Prop) (w0 : World) (hM : ∀ k, M k → k < w0.heap.size) (hf : Stable M w0 (LtF r)) (hk : Stable M w0 (GlF kp keys)) :
    Ret Try.prog 30 [vL r, .int .i64 n, .slice kp keys.length kc] w0 (fun _ => False) fun v w' => OpenR M (openF (sbOf us gs s kt) n (keys.map LKey.s)) v w' := by
  have h1 := rising_len hur hU
  have h2 := rising_len hgr hG
  exact open_c r (sbOf us gs s kt) n keys kp kc hkl (by rw [hr, sbOf_t hU]) hg (by simp [sbOf]; omega) (sbOf_ok hU hG) (sbOf_rise hU hG hur hgr) (by rw [sbOf]; intro h; rw [List.append_eq_nil_iff, List.map_eq_nil_iff] at h; exact hne h.1) M w0 hM hf hk
theorem wakes13_c (w0 : World) : Ret Try.prog 24 [] w0 (fun _ => False) fun v _ => v = .bool true := by
  refine enter Try.func24 rfl rfl (Wd.start w0) (fun a S => ?_)
  simp only [Try.ntmps24, List.length_cons, List.length_nil, Nat.reduceAdd, Nat.reduceSub, List.replicate_succ, List.replicate_zero, List.cons_append, List.nil_append] at S
  refine c_seq ?_
  refine c_region ?_
  refine sq S ?_; clear S; intro a S
  refine wl_nil ?_
  refine xtn ?_
  refine c_seq ?_
  refine c_region ?_
  refine sc S ?_; clear S; intro a w S
  refine sa S ?_; clear S; intro b1 a w S
  refine sw S ?_; clear S; intro a w S
  refine wl_nil ?_
  refine xtn ?_
  refine c_seq ?_
  refine c_region ?_
  refine sn S ?_; clear S; intro b10 a w S
  iterate 2 (refine sq S ?_; clear S; intro a S)
  obtain ⟨pp, hpp⟩ : ∃ pp : LPerm, pp = ⟨1, 1, ⟨some ⟨b10, 0, none⟩, 1, [2]⟩, ⟨none, 0, []⟩, ⟨none, 0, []⟩⟩ := ⟨_, rfl⟩
  have hP : permB pp = true := by rw [hpp]; rfl
  have hs : SmallT (freshL 1 1).t := fresh_small (by omega) (by omega)
  replace S := S.boxRow b10 1 1 rfl (by simp [maxLen])
  rw [show ([Value.int .i64 2] : List Value) = encL [(2 : Int)] from rfl] at S
  replace S := S.rowToGl (e := 3) (sz := 1) (n := 1) (c := 1) (some ⟨b10, 0, none⟩) [(2 : Int)] (fun _ _ _ _ => trivial)
  have hi : Stable (foots _) w (InF pp) := (S.gl (some ⟨b10, 0, none⟩) (xs := [(2 : Int)])).imp fun w' h => by rw [hpp]; exact ⟨⟨Nat.le_refl 1, (by decide : (1 : Nat) ≤ maxLen), h⟩, ⟨Nat.le_refl 0, Nat.zero_le _, gl_nil⟩, ⟨Nat.le_refl 0, Nat.zero_le _, gl_nil⟩⟩
  have hst : ∀ M : Nat → Prop, Stable M w (LtF (freshL 1 1)) := fun _ w' _ => by simp [freshL, LtIn, LsIn, LtF]
  have hmk := make_c pp (freshL 1 1) [] none 0 _ w (foots_lt S) hi (hst _) (fun _ _ => gl_nil) (by simp) hs nofun (by rw [hpp]; nofun)
  have hpv : vPerm pp = .agg ⟨[.int .i64 1, .int .i64 1, .slice (some ⟨b10, 0, none⟩) 1 1, .slice none 0 0, .slice none 0 0]⟩ := by rw [hpp]; rfl
  rw [hpv] at hmk
  refine sr S hmk ?_; clear S hi hst hmk; rintro _ a w hmR S
  rcases hmR with ⟨h, -⟩ | ⟨-, us, r, hper, hur, rfl, hr, hrg, hrf⟩
  · rw [h] at hP; cases hP
  replace S := S.add hrf
  have hgr : pp.gr.xs = [] := by rw [hpp]
  have hU : ∀ n ∈ us, 1 ≤ n ∧ n ≤ 6 := fun n hn => by
    have := hper.mem_iff.1 hn
    rw [hpp] at this
    simp at this; omega
  have hm2 : (2 : Int) ∈ us := hper.mem_iff.2 (by rw [hpp]; simp)
  have hm3 : (3 : Int) ∉ us := fun h => by have := hper.mem_iff.1 h; rw [hpp] at this; simp at this
  have hne : us ≠ [] := List.ne_nil_of_mem hm2
  rw [hgr] at hr
  obtain ⟨kt, hkt⟩ : ∃ kt, kt = keyT ([] : List LKey) := ⟨_, rfl⟩
  rw [← hkt] at hr
  iterate 3 (refine sq S ?_; clear S; intro a S)
  refine sa S ?_; clear S; intro b2 a w S
  refine sw S ?_; clear S; intro a w S
  refine sq S ?_; clear S; intro a S
  refine wl_nil ?_
  refine xtn ?_
  refine c_seq ?_
  refine c_region ?_
  refine sq S ?_; clear S; intro a S
  refine sr S (openM_c r us [] _ kt hU (by simp) hur .nil hr hrg hne 2 [] none 0 (by simp) _ w (foots_lt S) (S.t r) (fun _ _ => gl_nil)) ?_; clear S; rintro _ a w h S
  rw [openF_sb hU (by simp) (by omega) _ (by simp), if_pos (.inl hm2)] at h
  obtain ⟨x, rfl, hx, hxf⟩ := openR_some h
  replace S := S.add hxf
  clear h
  iterate 3 (refine sq S ?_; clear S; intro a S)
  refine sa S ?_; clear S; intro b4 a w S
  refine sw S ?_; clear S; intro a w S
  refine sq S ?_; clear S; intro a S
  refine wl_nil ?_
  refine xtn ?_
  refine c_seq ?_
  refine c_region ?_
  refine sq S ?_; clear S; intro a S
  refine sr S (openM_c r us [] _ kt hU (by simp) hur .nil hr hrg hne 3 [] none 0 (by simp) _ w (foots_lt S) (S.t r) (fun _ _ => gl_nil)) ?_; clear S; rintro _ a w h S
  rw [openF_sb hU (by simp) (by omega) _ (by simp), if_neg (by rintro (h | ⟨g, h, -⟩); exact hm3 h; cases h)] at h
  obtain rfl := openR_none h
  clear h
  iterate 3 (refine sq S ?_; clear S; intro a S)
  refine sa S ?_; clear S; intro b6 a w S
  refine sw S ?_; clear S; intro a w S
  refine sq S ?_; clear S; intro a S
  refine wl_nil ?_
  refine xtn ?_
  refine c_seq ?_
  refine c_region ?_
  iterate 3 (refine sq S ?_; clear S; intro a S)
  iterate 2 (refine gQ S ?_; clear S; intro a S)
  iterate 2 (refine sq S ?_; clear S; intro a S)
  iterate 2 (refine gQ S ?_; clear S; intro a S)
  refine gC S ?_; clear S; intro a w S
  iterate 2 (refine sq S ?_; clear S; intro a S)
  iterate 2 (refine gQ S ?_; clear S; intro a S)
  iterate 2 (refine sq S ?_; clear S; intro a S)
  refine wl_nil ?_
  refine xtn ?_
  refine c_ret ?_
  have e : sameF x.t (freshL 1 1).t = true := (sameF_iff _ _).2 hx
  refine end1 S (fun _ => ?_)
  rw [e]; rfl
end Go.Proofs.Ytgielmldblopeaa
