/- Packages safehouseref05 (Same, Text, Pair) and safehouseref09. -/
import Derived.Test.YtkpfhdojkffflaaRefTerm
namespace Go.Proofs.Ytkpfhdojkffflaa
open Go Go.Wk
set_option synthInstance.maxSize 100000
set_option synthInstance.maxHeartbeats 400000
set_option maxRecDepth 100000

theorem sameF_mk (x y : LTerm) : sameF x.t y.t = (decide (x.kind = y.kind) && decide (x.user = y.user) && decide (x.num = y.num) && decide (x.text = y.text) && sameLF (x.kids.map LTerm.t) (y.kids.map LTerm.t)) := by
  rw [x.t_eq, y.t_eq, sameF]
theorem rsame_all (N : Nat) : ∀ (x y : LTerm) (w0 : World), SizeOf.sizeOf x ≤ N → Stable (fun _ => False) w0 (LtF x) → Stable (fun _ => False) w0 (LtF y) →
    Ret Try.prog 12 [vL x, vL y] w0 (fun _ => False) fun v _ => v = .bool (sameF x.t y.t) := by
  induction N with
  | zero => intro x _ _ h; cases x; simp at h
  | succ N ih =>
  intro x y w0 hN hx hy
  have e0 := sameF_mk x y
  have hlen := LTerm.len_le hx
  refine enter Try.func12 rfl rfl (Wd.begin (fs := [LtF x, LtF y]) (by simp; exact ⟨hx, hy⟩)) (fun a S => ?_)
  simp only [Try.ntmps12, List.length_cons, List.length_nil, Nat.reduceAdd, Nat.reduceSub, List.replicate_succ, List.replicate_zero, List.cons_append, List.nil_append] at S
  refine c_seq ?_
  refine c_region ?_
  refine sa S ?_; clear S; intro b2 a w S
  refine sa S ?_; clear S; intro b3 a w S
  refine sq S ?_; clear S; intro a S
  refine wl_nil ?_
  refine xtn ?_
  iterate 2 (refine c_seq ?_)
  refine c_region ?_
  iterate 6 (refine sq S ?_; clear S; intro a S)
  iterate 5 (refine gQ S ?_; clear S; intro a S)
  iterate 2 (refine sq S ?_; clear S; intro a S)
  iterate 5 (refine gQ S ?_; clear S; intro a S)
  iterate 2 (refine sq S ?_; clear S; intro a S)
  iterate 5 (refine gQ S ?_; clear S; intro a S)
  iterate 2 (refine sq S ?_; clear S; intro a S)
  iterate 7 (refine gQ S ?_; clear S; intro a S)
  refine sq S ?_; clear S; intro a S
  refine wl_nil ?_
  refine xtn ?_
  refine c_cond S (fun h1 => ?_) (fun h1 => ?_)
  · refine c_seq ?_
    refine c_region ?_
    refine sq S ?_; clear S; intro a S
    refine wl_nil ?_
    refine xtn ?_
    refine c_ret ?_
    refine xtr ?_
    refine end1 S (fun _ => ?_)
    have h3 : ¬ (x.kind = y.kind ∧ x.user = y.user ∧ x.num = y.num ∧ x.text = y.text ∧ x.kids.length = y.kids.length) := by
      rintro ⟨q1, q2, q3, q4, q5⟩; simp [q1, q2, q3, q4, q5] at h1
    rw [e0]
    congr 1
    cases hs : (decide (x.kind = y.kind) && decide (x.user = y.user) && decide (x.num = y.num) && decide (x.text = y.text) && sameLF (x.kids.map LTerm.t) (y.kids.map LTerm.t)) with
    | false => rfl
    | true =>
      simp at hs
      obtain ⟨⟨⟨⟨q1, q2⟩, q3⟩, q4⟩, q5⟩ := hs
      have := congrArg List.length ((sameLF_iff _ _).1 q5)
      exact absurd ⟨q1, q2, q3, q4, by simpa using this⟩ h3
  · refine c_skip ?_
    refine xtn ?_
    iterate 2 (refine c_seq ?_)
    refine c_region ?_
    refine sq S ?_; clear S; intro a S
    refine wl_nil ?_
    refine xtn ?_
    refine c_block ?_
    have h3 : (x.kind = y.kind ∧ x.user = y.user ∧ x.num = y.num ∧ x.text = y.text) ∧ x.kids.length = y.kids.length := by simp [and_assoc] at h1; simpa [and_assoc, Int.ofNat_inj] using h1
    obtain ⟨⟨q1, q2, q3, q4⟩, q5⟩ := h3
    have e1 : sameF x.t y.t = sameLF (x.kids.map LTerm.t) (y.kids.map LTerm.t) := by rw [e0]; simp [q1, q2, q3, q4]
    refine c_loop (ι := Nat) (fun k a w => k ≤ x.kids.length ∧ sameLF ((x.kids.drop k).map LTerm.t) ((y.kids.drop k).map LTerm.t) = sameF x.t y.t ∧ ∃ uu : Nat → Value,  St w0 (fun _ => False) [] a w ((vL x) :: (vL y) :: (.pointer (some ⟨b2, 0, none⟩)) :: (.pointer (some ⟨b3, 0, none⟩)) :: (.bool false) :: (.int .i64 (k : Nat)) :: uu 6 :: uu 7 :: uu 8 :: uu 9 :: uu 10 :: uu 11 :: uu 12 :: uu 13 :: uu 14 :: uu 15 :: uu 16 :: uu 17 :: uu 18 :: uu 19 :: uu 20 :: uu 21 :: uu 22 :: uu 23 :: uu 24 :: uu 25 :: uu 26 :: uu 27 :: uu 28 :: uu 29 :: uu 30 :: uu 31 :: uu 32 :: uu 33 :: uu 34 :: uu 35 :: uu 36 :: uu 37 :: uu 38 :: uu 39 :: uu 40 :: uu 41 :: uu 42 :: uu 43 :: uu 44 :: uu 45 :: uu 46 :: uu 47 :: uu 48 :: uu 49 :: uu 50 :: uu 51 :: uu 52 :: uu 53 :: uu 54 :: uu 55 :: uu 56 :: uu 57 :: uu 58 :: uu 59 :: []) [box b3 24 y.cells, box b2 24 x.cells] [LtF x, LtF y]) (fun k => x.kids.length - k) 0 ?_ ?_
    · exact ⟨Nat.zero_le _, e1.symm, S.uu, S⟩
    · clear S
      rintro k a w ⟨hk, hrel, uu, S⟩
      have hK : k < x.kids.length → KLt k x.kids.length ∧ KLt k y.kids.length := fun h => ⟨⟨h⟩, ⟨by omega⟩⟩
      iterate 2 (refine c_seq ?_)
      refine c_region ?_
      iterate 5 (refine sq S ?_; clear S; intro a S)
      refine wl_nil ?_
      refine xtn ?_
      refine c_cond S (fun h4 => ?_) (fun h4 => ?_)
      · refine c_skip ?_
        refine xtn ?_
        refine c_seq ?_
        refine c_block ?_
        have hkl : k < x.kids.length := by simpa using h4
        obtain ⟨hK1, hK2⟩ := hK hkl
        refine c_seq ?_
        refine c_drawD [(0, true), (1, true), (2, true), (3, true), (4, true), (5, true), (6, true), (7, true), (8, true), (9, true), (10, false), (11, true)] [] S ?_; clear S; intro w S
        iterate 10 (refine dq S ?_; clear S; intro a S)
        refine dl ?_
        rw [nth_drop hkl, nth_drop (show k < y.kids.length by omega), List.map_cons, List.map_cons, sameLF] at hrel
        refine sr S (ih (nthL x.kids k) (nthL y.kids k) w (by have := LTerm.kid_lt (nth_mem hkl); omega) (S.t0 _) (S.t0 _)) ?_; clear S; rintro _ a w rfl S
        refine de S ?_
        refine dq S ?_; clear S; intro a S
        refine dn ?_
        refine xtn ?_
        refine c_cond S (fun h6 => ?_) (fun h6 => ?_)
        · refine c_seq ?_
          refine c_region ?_
          refine sq S ?_; clear S; intro a S
          refine wl_nil ?_
          refine xtn ?_
          refine c_ret ?_
          refine xbr ?_
          iterate 2 (refine xtr ?_)
          refine xbr ?_
          refine xtr ?_
          refine end1 S (fun _ => ?_)
          have h9 : sameF (nthL x.kids k).t (nthL y.kids k).t = false := by simpa using h6
          simp [← hrel, h9]
        · refine c_skip ?_
          refine xbn ?_
          refine xtn ?_
          refine c_region ?_
          iterate 3 (refine sq S ?_; clear S; intro a S)
          refine wl_nil ?_
          refine xtn ?_
          have h9 : sameF (nthL x.kids k).t (nthL y.kids k).t = true := by simpa using h6
          rw [h9, Bool.true_and] at hrel
          rw [w64 ((k : Int) + 1) (by omega) (by omega)] at S
          exact ⟨k + 1, ⟨hkl, hrel, S.uu, S⟩, by omega⟩
      · refine c_exit ?_
        iterate 2 (refine xte ?_)
        refine xbe ?_
        refine xtn ?_
        refine c_seq ?_
        refine c_region ?_
        refine sq S ?_; clear S; intro a S
        refine wl_nil ?_
        refine xtn ?_
        refine c_ret ?_
        refine end1 S (fun _ => ?_)
        have h9 : x.kids.length ≤ k := by simpa using h4
        rw [List.drop_of_length_le h9, List.drop_of_length_le (by omega)] at hrel
        simp [← hrel, sameLF]
theorem rsame_c (x y : LTerm) (w : World) (hx : Stable (fun _ => False) w (LtF x)) (hy : Stable (fun _ => False) w (LtF y)) : Ret Try.prog 12 [vL x, vL y] w (fun _ => False) fun v _ => v = .bool (sameF x.t y.t) := rsame_all _ x y w (Nat.le_refl _) hx hy
instance {x y : LTerm} {bs fs} [HasT fs x] [HasT fs y] : CallV Try.prog 12 [vL x, vL y] bs fs (.bool (sameF x.t y.t)) := ⟨fun w m => rsame_c x y w (m.t0 _) (m.t0 _)⟩

theorem rtext_c (s : List UInt8) (w0 : World) : Ret Try.prog 38 [str s] w0 (fun _ => False) fun v _ => v = vL (textL s) := by
  refine enter Try.func38 rfl rfl (Wd.start w0) (fun a S => ?_)
  simp only [Try.ntmps38, List.length_cons, List.length_nil, Nat.reduceAdd, Nat.reduceSub, List.replicate_succ, List.replicate_zero, List.cons_append, List.nil_append] at S
  refine c_seq ?_
  refine c_region ?_
  refine sa S ?_; clear S; intro b2 a w S
  refine wl_nil ?_
  refine xtn ?_
  refine c_seq ?_
  refine c_region ?_
  iterate 2 (refine sq S ?_; clear S; intro a S)
  refine sw S ?_; clear S; intro a w S
  refine wl_nil ?_
  refine xtn ?_
  refine c_ret ?_
  refine end1 S (fun _ => ?_)
  rfl
instance {s : List UInt8} {bs fs} : CallV Try.prog 38 [str s] bs fs (vL (textL s)) := ⟨fun w _ => rtext_c s w⟩
theorem rpair_c (x y : LTerm) (M : Nat → Prop) (w0 : World) (hM : ∀ k, M k → k < w0.heap.size) (hx : Stable M w0 (LtF x)) (hy : Stable M w0 (LtF y)) : Ret Try.prog 37 [vL x, vL y] w0 (fun _ => False) fun v w' => IsT M w' v (.pair x.t y.t) := by
  refine enter Try.func37 rfl rfl (Wd.beginM (M := M) (fs := [LtF x, LtF y]) hM (by simp; exact ⟨hx, hy⟩)) (fun a S => ?_)
  simp only [Try.ntmps37, List.length_cons, List.length_nil, Nat.reduceAdd, Nat.reduceSub, List.replicate_succ, List.replicate_zero, List.cons_append, List.nil_append] at S
  refine c_seq ?_
  refine c_region ?_
  refine sa S ?_; clear S; intro b2 a w S
  refine sa S ?_; clear S; intro b3 a w S
  refine sa S ?_; clear S; intro b4 a w S
  refine wl_nil ?_
  refine xtn ?_
  refine c_seq ?_
  refine c_region ?_
  iterate 2 (refine sq S ?_; clear S; intro a S)
  refine sn S ?_; clear S; intro b7 a w S
  refine sq S ?_; clear S; intro a S
  refine sw S ?_; clear S; intro a w S
  refine wl_nil ?_
  refine xtn ?_
  refine c_ret ?_
  refine end1 S (fun _ => ?_)
  refine ⟨pairL (some ⟨b7, 0, none⟩) x y, rfl, rfl, fun w' hw' => ?_⟩
  have h1 := S.laterFact (Φ := LtF x) (by simp) w' hw'
  have h2 := S.laterFact (Φ := LtF y) (by simp) w' hw'
  exact ⟨by simp, by simp [maxLen], LsIn.of_block [x, y] (S.laterBox hw' b7) (by simpa using ⟨h1, h2⟩)⟩
theorem rhash_c (s : List UInt8) (t : LTerm) (M : Nat → Prop) (w0 : World) (hM : ∀ k, M k → k < w0.heap.size) (hf : Stable M w0 (LtF t)) : Ret Try.prog 24 [str s, vL t] w0 (fun _ => False) fun v w' => IsT M w' v (.hash (.pair (.text s) t.t)) := by
  refine enter Try.func24 rfl rfl (Wd.beginM (M := M) (fs := [LtF t]) hM (by simpa using hf)) (fun a S => ?_)
  simp only [Try.ntmps24, List.length_cons, List.length_nil, Nat.reduceAdd, Nat.reduceSub, List.replicate_succ, List.replicate_zero, List.cons_append, List.nil_append] at S
  refine c_seq ?_
  refine c_region ?_
  refine sa S ?_; clear S; intro b3 a w S
  refine sa S ?_; clear S; intro b4 a w S
  refine wl_nil ?_
  refine xtn ?_
  refine c_seq ?_
  refine c_drawD [(0, true), (2, true), (1, false), (3, false), (4, false), (5, true), (6, false)] [b4] S ?_; clear S; intro w S
  iterate 2 (refine dq S ?_; clear S; intro a S)
  refine dl ?_
  refine sc S ?_; clear S; intro a w S
  refine de S ?_
  refine dl ?_
  refine sr S (rpair_c (textL s) t _ w (foots_lt S) (fun w _ => textL_in w _) (S.fact (by simp))) ?_; clear S; rintro _ a w ⟨p, rfl, hp, hfp⟩ S
  replace S := S.add hfp
  refine de S ?_
  refine dl ?_
  refine sn S ?_; clear S; intro b9 a w S
  refine de S ?_
  refine dq S ?_; clear S; intro a S
  refine dl ?_
  refine sw S ?_; clear S; intro a w S
  refine de S ?_
  refine dn ?_
  refine xtn ?_
  refine c_ret ?_
  refine end1 S (fun _ => ?_)
  refine ⟨hashL (some ⟨b9, 0, none⟩) p, rfl, by rw [LTerm.t_eq]; simp [LTerm.kind, LTerm.user, LTerm.num, LTerm.text, LTerm.kids, hp]; rfl, fun w' hw' => ?_⟩
  have h1 := S.laterFact (Φ := LtF p) (by simp) w' hw'
  exact ⟨by simp, by simp [maxLen], LsIn.of_block [p] (S.laterBox hw' b9) (fun x hx => by obtain rfl := List.mem_singleton.1 hx; exact h1)⟩

def rBackF (t : Term) (m n : Int) : Term × Int :=
  if rightF t = false then (zeroT, 150)
  else if m < 1 ∨ 8 < m ∨ n < 1 ∨ m < n then (zeroT, 2)
  else if rightF (iter stepF (m - n).toNat t) = false then (zeroT, 150) else (iter stepF (m - n).toNat t, 0)
theorem rback_c (t : LTerm) (m n : Int) (M : Nat → Prop) (w0 : World) (hM : ∀ k, M k → k < w0.heap.size) (hf : Stable M w0 (LtF t)) : Ret Try.prog 10 [vL t, .int .i64 m, .int .i64 n] w0 (fun _ => False) fun v w' => TE M w' v (rBackF t.t m n).1 (rBackF t.t m n).2 := by
  refine enter Try.func10 rfl rfl (Wd.beginM (M := M) (fs := [LtF t]) hM (by simpa using hf)) (fun a S => ?_)
  simp only [Try.ntmps10, List.length_cons, List.length_nil, Nat.reduceAdd, Nat.reduceSub, List.replicate_succ, List.replicate_zero, List.cons_append, List.nil_append] at S
  refine c_seq ?_
  refine c_region ?_
  refine sa S ?_; clear S; intro b3 a w S
  refine sa S ?_; clear S; intro b6 a w S
  refine sq S ?_; clear S; intro a S
  refine wl_nil ?_
  refine xtn ?_
  iterate 2 (refine c_seq ?_)
  refine c_region ?_
  refine sq S ?_; clear S; intro a S
  refine sc S ?_; clear S; intro a w S
  refine sq S ?_; clear S; intro a S
  refine wl_nil ?_
  refine xtn ?_
  refine c_cond S (fun h1 => ?_) (fun h1 => ?_)
  · refine c_seq ?_
    refine c_region ?_
    refine sq S ?_; clear S; intro a S
    refine sw S ?_; clear S; intro a w S
    refine sq S ?_; clear S; intro a S
    refine wl_nil ?_
    refine xtn ?_
    refine c_ret ?_
    refine xtr ?_
    refine end2 S (fun _ => ?_)
    have h2 : rightF t.t = false := by simpa using h1
    have e : rBackF t.t m n = (zeroT, 150) := by unfold rBackF; rw [if_pos h2]
    exact ⟨zeroL, by rw [e] <;> rfl, by rw [e] <;> rfl, fun w _ => zeroL_in w⟩
  · refine c_skip ?_
    refine xtn ?_
    iterate 2 (refine c_seq ?_)
    refine c_region ?_
    iterate 3 (refine sq S ?_; clear S; intro a S)
    iterate 2 (refine gQ S ?_; clear S; intro a S)
    iterate 2 (refine sq S ?_; clear S; intro a S)
    iterate 2 (refine gQ S ?_; clear S; intro a S)
    iterate 2 (refine sq S ?_; clear S; intro a S)
    iterate 3 (refine gQ S ?_; clear S; intro a S)
    refine sq S ?_; clear S; intro a S
    refine wl_nil ?_
    refine xtn ?_
    refine c_cond S (fun h3 => ?_) (fun h3 => ?_)
    · refine c_seq ?_
      refine c_region ?_
      refine sq S ?_; clear S; intro a S
      refine sw S ?_; clear S; intro a w S
      refine sq S ?_; clear S; intro a S
      refine wl_nil ?_
      refine xtn ?_
      refine c_ret ?_
      refine xtr ?_
      refine end2 S (fun _ => ?_)
      have h2 : ¬ rightF t.t = false := by simpa using h1
      have h4 : m < 1 ∨ 8 < m ∨ n < 1 ∨ m < n := by simpa [or_assoc] using h3
      have e : rBackF t.t m n = (zeroT, 2) := by unfold rBackF; rw [if_neg h2, if_pos h4]
      exact ⟨zeroL, by rw [e] <;> rfl, by rw [e] <;> rfl, fun w _ => zeroL_in w⟩
    · refine c_skip ?_
      refine xtn ?_
      iterate 2 (refine c_seq ?_)
      refine c_region ?_
      iterate 2 (refine sq S ?_; clear S; intro a S)
      refine wl_nil ?_
      refine xtn ?_
      refine c_block ?_
      have h2 : ¬ rightF t.t = false := by simpa using h1
      have h4 : ¬ (m < 1 ∨ 8 < m ∨ n < 1 ∨ m < n) := by simpa [and_assoc] using h3
      have h5 : 1 ≤ n ∧ n ≤ m ∧ m ≤ 8 := by omega
      refine c_loop (ι := Nat) (fun k a w => k ≤ (m - n).toNat ∧ ∃ (r : LTerm) (x : Int), r.t = iter stepF k t.t ∧ x = m - k ∧ ∃ uu : Nat → Value,  St w0 (fun _ => False) [] a w ((vL t) :: (.int .i64 m) :: (.int .i64 n) :: (.pointer (some ⟨b3, 0, none⟩)) :: uu 4 :: uu 5 :: (.pointer (some ⟨b6, 0, none⟩)) :: (.int .i64 0) :: (.int .i64 x) :: uu 9 :: uu 10 :: uu 11 :: uu 12 :: uu 13 :: uu 14 :: uu 15 :: uu 16 :: uu 17 :: uu 18 :: uu 19 :: uu 20 :: uu 21 :: uu 22 :: uu 23 :: uu 24 :: uu 25 :: uu 26 :: uu 27 :: uu 28 :: uu 29 :: uu 30 :: uu 31 :: uu 32 :: uu 33 :: uu 34 :: uu 35 :: uu 36 :: uu 37 :: uu 38 :: uu 39 :: uu 40 :: uu 41 :: []) [box b6 24 [.int .i64 0, .int .i64 0, .int .i64 0, str [], .slice none 0 0], box b3 24 r.cells, ext M] [LtF r]) (fun k => (m - n).toNat - k) 0 ?_ ?_
      · exact ⟨Nat.zero_le _, t, m, rfl, by omega, S.uu, S⟩
      · clear S
        rintro k a w ⟨hk, r, x, hr, hx, uu, S⟩
        iterate 2 (refine c_seq ?_)
        refine c_region ?_
        iterate 3 (refine sq S ?_; clear S; intro a S)
        refine wl_nil ?_
        refine xtn ?_
        refine c_cond S (fun h6 => ?_) (fun h6 => ?_)
        · refine c_skip ?_
          refine xtn ?_
          refine c_seq ?_
          refine c_block ?_
          refine c_region ?_
          refine sq S ?_; clear S; intro a S
          refine sr S (rhash_c stateS r _ w (foots_lt S) (S.t _)) ?_; clear S; rintro _ a w ⟨r', rfl, hr', hf'⟩ S
          replace S := S.add hf'
          refine sw S ?_; clear S; intro a w S
          refine wl_nil ?_
          refine xbn ?_
          refine xtn ?_
          refine c_region ?_
          iterate 3 (refine sq S ?_; clear S; intro a S)
          refine wl_nil ?_
          refine xtn ?_
          have hkl : n < x := by simpa using h6
          rw [w64 (x - 1) (by omega) (by omega)] at S
          replace S := S.sub _ [LtF r'] (hb := subLr)
          exact ⟨k + 1, ⟨by omega, r', x - 1, by rw [hr', hr]; rfl, by omega, S.uu, S⟩, by omega⟩
        · refine c_exit ?_
          iterate 2 (refine xte ?_)
          refine xbe ?_
          refine xtn ?_
          refine c_seq ?_
          obtain rfl : k = (m - n).toNat := by simp at h6; omega
          refine c_seq ?_
          refine c_region ?_
          refine sq S ?_; clear S; intro a S
          refine sc S ?_; clear S; intro a w S
          refine sq S ?_; clear S; intro a S
          refine wl_nil ?_
          refine xtn ?_
          refine c_cond S (fun h9 => ?_) (fun h9 => ?_)
          · refine c_seq ?_
            refine c_region ?_
            refine sq S ?_; clear S; intro a S
            refine sw S ?_; clear S; intro a w S
            refine sq S ?_; clear S; intro a S
            refine wl_nil ?_
            refine xtn ?_
            refine c_ret ?_
            refine xtr ?_
            refine end2 S (fun _ => ?_)
            have h7 : rightF r.t = false := by simpa using h9
            rw [hr] at h7
            have e : rBackF t.t m n = (zeroT, 150) := by unfold rBackF; rw [if_neg h2, if_neg h4, if_pos h7]
            exact ⟨zeroL, by rw [e] <;> rfl, by rw [e] <;> rfl, fun w _ => zeroL_in w⟩
          · refine c_skip ?_
            refine xtn ?_
            refine c_seq ?_
            refine c_region ?_
            refine sq S ?_; clear S; intro a S
            refine sw S ?_; clear S; intro a w S
            refine sq S ?_; clear S; intro a S
            refine wl_nil ?_
            refine xtn ?_
            refine c_ret ?_
            refine end2 S (fun _ => ?_)
            have h7 : ¬ rightF r.t = false := by simpa using h9
            rw [hr] at h7
            have e : rBackF t.t m n = (iter stepF (m - n).toNat t.t, 0) := by unfold rBackF; rw [if_neg h2, if_neg h4, if_neg h7]
            exact ⟨r, by rw [e] <;> rfl, by rw [e, hr] <;> rfl, S.laterT r⟩
def rKeyF (t : Term) : Term × Int := if rightF t = false ∨ rightF (lastF t) = false then (zeroT, 150) else (lastF t, 0)
theorem rkey_c (t : LTerm) (M : Nat → Prop) (w0 : World) (hM : ∀ k, M k → k < w0.heap.size) (hf : Stable M w0 (LtF t)) : Ret Try.prog 14 [vL t] w0 (fun _ => False) fun v w' => TE M w' v (rKeyF t.t).1 (rKeyF t.t).2 := by
  refine enter Try.func14 rfl rfl (Wd.beginM (M := M) (fs := [LtF t]) hM (by simpa using hf)) (fun a S => ?_)
  simp only [Try.ntmps14, List.length_cons, List.length_nil, Nat.reduceAdd, Nat.reduceSub, List.replicate_succ, List.replicate_zero, List.cons_append, List.nil_append] at S
  refine c_seq ?_
  refine c_region ?_
  refine sa S ?_; clear S; intro b1 a w S
  refine sa S ?_; clear S; intro b2 a w S
  refine sq S ?_; clear S; intro a S
  refine wl_nil ?_
  refine xtn ?_
  iterate 2 (refine c_seq ?_)
  refine c_region ?_
  refine sq S ?_; clear S; intro a S
  refine sc S ?_; clear S; intro a w S
  iterate 2 (refine sq S ?_; clear S; intro a S)
  refine gS S (fun hg S => ?_) (fun hg S => ?_)
  · refine gF' S ?_; clear S; intro a S
    iterate 3 (refine gF' S ?_; clear S; intro a S)
    refine sq S ?_; clear S; intro a S
    refine wl_nil ?_
    refine xtn ?_
    refine c_condT S ?_
    refine c_seq ?_
    refine c_region ?_
    refine sq S ?_; clear S; intro a S
    refine sw S ?_; clear S; intro a w S
    refine sq S ?_; clear S; intro a S
    refine wl_nil ?_
    refine xtn ?_
    refine c_ret ?_
    refine xtr ?_
    refine end2 S (fun _ => ?_)
    have e : rKeyF t.t = (zeroT, 150) := by unfold rKeyF; rw [if_pos (.inl (by simpa using hg))]
    exact ⟨zeroL, by rw [e] <;> rfl, by rw [e] <;> rfl, fun w _ => zeroL_in w⟩
  · refine gT' S ?_
    refine sq S ?_; clear S; intro a S
    refine gT' S ?_
    refine sr S (rhash_c keyS t _ w (foots_lt S) (S.t _)) ?_; clear S; rintro _ a w ⟨r, rfl, hr, hf'⟩ S
    replace S := S.add hf'
    refine gT' S ?_
    refine sc S ?_; clear S; intro a w S
    refine gT' S ?_
    iterate 2 (refine sq S ?_; clear S; intro a S)
    refine wl_nil ?_
    refine xtn ?_
    refine c_cond S (fun h1 => ?_) (fun h1 => ?_)
    · refine c_seq ?_
      refine c_region ?_
      refine sq S ?_; clear S; intro a S
      refine sw S ?_; clear S; intro a w S
      refine sq S ?_; clear S; intro a S
      refine wl_nil ?_
      refine xtn ?_
      refine c_ret ?_
      refine xtr ?_
      refine end2 S (fun _ => ?_)
      have h7 : rightF r.t = false := by simpa using h1
      rw [hr] at h7
      have e : rKeyF t.t = (zeroT, 150) := by unfold rKeyF; rw [if_pos (.inr h7)]
      exact ⟨zeroL, by rw [e] <;> rfl, by rw [e] <;> rfl, fun w _ => zeroL_in w⟩
    · refine c_skip ?_
      refine xtn ?_
      refine c_seq ?_
      refine c_region ?_
      refine sq S ?_; clear S; intro a S
      refine sr S (rhash_c keyS t _ w (foots_lt S) (S.t _)) ?_; clear S; rintro _ a w ⟨q, rfl, hq, hfq⟩ S
      replace S := S.add hfq
      refine sw S ?_; clear S; intro a w S
      refine sq S ?_; clear S; intro a S
      refine wl_nil ?_
      refine xtn ?_
      refine c_ret ?_
      refine end2 S (fun _ => ?_)
      have h7 : ¬ rightF r.t = false := by simpa using h1
      rw [hr] at h7
      have e : rKeyF t.t = (lastF t.t, 0) := by unfold rKeyF; rw [if_neg]; rintro (h | h); simp [h] at hg; exact h7 h
      exact ⟨q, by rw [e] <;> rfl, by rw [e, hq] <;> rfl, S.laterT q⟩
end Go.Proofs.Ytkpfhdojkffflaa
