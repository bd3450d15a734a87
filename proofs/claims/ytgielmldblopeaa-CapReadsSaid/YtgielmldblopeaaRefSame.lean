/- Package safehouseref05: Same, Text, Pair, SameAll. -/
import Derived.Test.YtgielmldblopeaaRefTerm
import Derived.Test.YtgielmldblopeaaW5
namespace Go.Proofs.Ytgielmldblopeaa
open Go Go.Wk
set_option synthInstance.maxSize 100000
set_option synthInstance.maxHeartbeats 400000
set_option maxRecDepth 100000

theorem sameF_mk (x y : LTerm) : sameF x.t y.t = (decide (x.kind = y.kind) && decide (x.user = y.user) && decide (x.num = y.num) && decide (x.text = y.text) && sameLF (x.kids.map LTerm.t) (y.kids.map LTerm.t)) := by
  rw [x.t_eq, y.t_eq, sameF]
theorem rsame_all (N : Nat) : ∀ (x y : LTerm) (w0 : World), SizeOf.sizeOf x ≤ N → Stable (fun _ => False) w0 (LtF x) → Stable (fun _ => False) w0 (LtF y) →
    Ret Try.prog 47 [vL x, vL y] w0 (fun _ => False) fun v _ => v = .bool (sameF x.t y.t) := by
  induction N with
  | zero => intro x _ _ h; cases x; simp at h
  | succ N ih =>
  intro x y w0 hN hx hy
  have e0 := sameF_mk x y
  have hlen := LTerm.len_le hx
  refine enter Try.func47 rfl rfl (Wd.begin (fs := [LtF x, LtF y]) (by simp; exact ⟨hx, hy⟩)) (fun a S => ?_)
  simp only [Try.ntmps47, List.length_cons, List.length_nil, Nat.reduceAdd, Nat.reduceSub, List.replicate_succ, List.replicate_zero, List.cons_append, List.nil_append] at S
  refine c_seq ?_
  refine c_region ?_
  refine sa S ?_; clear S; intro b2 a w S
  refine sa S ?_; clear S; intro b3 a w S
  refine sq S ?_; clear S; intro a S
  refine wl_nil ?_
  refine xtn ?_
  iterate 2 (refine c_seq ?_)
  refine c_region ?_
  iterate 6 (refine sq S ?_; clear S; intro a S)
  iterate 5 (refine gQ S ?_; clear S; intro a S)
  iterate 2 (refine sq S ?_; clear S; intro a S)
  iterate 5 (refine gQ S ?_; clear S; intro a S)
  iterate 2 (refine sq S ?_; clear S; intro a S)
  iterate 5 (refine gQ S ?_; clear S; intro a S)
  iterate 2 (refine sq S ?_; clear S; intro a S)
  iterate 7 (refine gQ S ?_; clear S; intro a S)
  refine sq S ?_; clear S; intro a S
  refine wl_nil ?_
  refine xtn ?_
  refine c_cond S (fun h1 => ?_) (fun h1 => ?_)
  · refine c_seq ?_
    refine c_region ?_
    refine sq S ?_; clear S; intro a S
    refine wl_nil ?_
    refine xtn ?_
    refine c_ret ?_
    refine xtr ?_
    refine end1 S (fun _ => ?_)
    have h3 : ¬ (x.kind = y.kind ∧ x.user = y.user ∧ x.num = y.num ∧ x.text = y.text ∧ x.kids.length = y.kids.length) := by
      rintro ⟨q1, q2, q3, q4, q5⟩; simp [q1, q2, q3, q4, q5] at h1
    rw [e0]
    congr 1
    cases hs : (decide (x.kind = y.kind) && decide (x.user = y.user) && decide (x.num = y.num) && decide (x.text = y.text) && sameLF (x.kids.map LTerm.t) (y.kids.map LTerm.t)) with
    | false => rfl
    | true =>
      simp at hs
      obtain ⟨⟨⟨⟨q1, q2⟩, q3⟩, q4⟩, q5⟩ := hs
      have := congrArg List.length ((sameLF_iff _ _).1 q5)
      exact absurd ⟨q1, q2, q3, q4, by simpa using this⟩ h3
  · refine c_skip ?_
    refine xtn ?_
    iterate 2 (refine c_seq ?_)
    refine c_region ?_
    refine sq S ?_; clear S; intro a S
    refine wl_nil ?_
    refine xtn ?_
    refine c_block ?_
    have h3 : (x.kind = y.kind ∧ x.user = y.user ∧ x.num = y.num ∧ x.text = y.text) ∧ x.kids.length = y.kids.length := by simp [and_assoc] at h1; simpa [and_assoc, Int.ofNat_inj] using h1
    obtain ⟨⟨q1, q2, q3, q4⟩, q5⟩ := h3
    have e1 : sameF x.t y.t = sameLF (x.kids.map LTerm.t) (y.kids.map LTerm.t) := by rw [e0]; simp [q1, q2, q3, q4]
    refine c_loop (ι := Nat) (fun k a w => k ≤ x.kids.length ∧ sameLF ((x.kids.drop k).map LTerm.t) ((y.kids.drop k).map LTerm.t) = sameF x.t y.t ∧ ∃ uu : Nat → Value,  St w0 (fun _ => False) [] a w ((vL x) :: (vL y) :: (.pointer (some ⟨b2, 0, none⟩)) :: (.pointer (some ⟨b3, 0, none⟩)) :: (.bool false) :: (.int .i64 (k : Nat)) :: uu 6 :: uu 7 :: uu 8 :: uu 9 :: uu 10 :: uu 11 :: uu 12 :: uu 13 :: uu 14 :: uu 15 :: uu 16 :: uu 17 :: uu 18 :: uu 19 :: uu 20 :: uu 21 :: uu 22 :: uu 23 :: uu 24 :: uu 25 :: uu 26 :: uu 27 :: uu 28 :: uu 29 :: uu 30 :: uu 31 :: uu 32 :: uu 33 :: uu 34 :: uu 35 :: uu 36 :: uu 37 :: uu 38 :: uu 39 :: uu 40 :: uu 41 :: uu 42 :: uu 43 :: uu 44 :: uu 45 :: uu 46 :: uu 47 :: uu 48 :: uu 49 :: uu 50 :: uu 51 :: uu 52 :: uu 53 :: uu 54 :: uu 55 :: uu 56 :: uu 57 :: uu 58 :: uu 59 :: []) [box b3 35 y.cells, box b2 35 x.cells] [LtF x, LtF y]) (fun k => x.kids.length - k) 0 ?_ ?_
    · exact ⟨Nat.zero_le _, e1.symm, S.uu, S⟩
    · clear S
      rintro k a w ⟨hk, hrel, uu, S⟩
      have hK : k < x.kids.length → KLt k x.kids.length ∧ KLt k y.kids.length := fun h => ⟨⟨h⟩, ⟨by omega⟩⟩
      iterate 2 (refine c_seq ?_)
      refine c_region ?_
      iterate 5 (refine sq S ?_; clear S; intro a S)
      refine wl_nil ?_
      refine xtn ?_
      refine c_cond S (fun h4 => ?_) (fun h4 => ?_)
      · refine c_skip ?_
        refine xtn ?_
        refine c_seq ?_
        refine c_block ?_
        have hkl : k < x.kids.length := by simpa using h4
        obtain ⟨hK1, hK2⟩ := hK hkl
        refine c_seq ?_
        refine c_drawD [(0, true), (1, true), (2, true), (3, true), (4, true), (5, true), (6, true), (7, true), (8, true), (9, true), (10, false), (11, true)] [] S ?_; clear S; intro w S
        iterate 10 (refine dq S ?_; clear S; intro a S)
        refine dl ?_
        rw [nth_drop hkl, nth_drop (show k < y.kids.length by omega), List.map_cons, List.map_cons, sameLF] at hrel
        refine sr S (ih (nthL x.kids k) (nthL y.kids k) w (by have := LTerm.kid_lt (nth_mem hkl); omega) (S.t0 _) (S.t0 _)) ?_; clear S; rintro _ a w rfl S
        refine de S ?_
        refine dq S ?_; clear S; intro a S
        refine dn ?_
        refine xtn ?_
        refine c_cond S (fun h6 => ?_) (fun h6 => ?_)
        · refine c_seq ?_
          refine c_region ?_
          refine sq S ?_; clear S; intro a S
          refine wl_nil ?_
          refine xtn ?_
          refine c_ret ?_
          refine xbr ?_
          iterate 2 (refine xtr ?_)
          refine xbr ?_
          refine xtr ?_
          refine end1 S (fun _ => ?_)
          have h9 : sameF (nthL x.kids k).t (nthL y.kids k).t = false := by simpa using h6
          simp [← hrel, h9]
        · refine c_skip ?_
          refine xbn ?_
          refine xtn ?_
          refine c_region ?_
          iterate 3 (refine sq S ?_; clear S; intro a S)
          refine wl_nil ?_
          refine xtn ?_
          have h9 : sameF (nthL x.kids k).t (nthL y.kids k).t = true := by simpa using h6
          rw [h9, Bool.true_and] at hrel
          rw [w64 ((k : Int) + 1) (by omega) (by omega)] at S
          exact ⟨k + 1, ⟨hkl, hrel, S.uu, S⟩, by omega⟩
      · refine c_exit ?_
        iterate 2 (refine xte ?_)
        refine xbe ?_
        refine xtn ?_
        refine c_seq ?_
        refine c_region ?_
        refine sq S ?_; clear S; intro a S
        refine wl_nil ?_
        refine xtn ?_
        refine c_ret ?_
        refine end1 S (fun _ => ?_)
        have h9 : x.kids.length ≤ k := by simpa using h4
        rw [List.drop_of_length_le h9, List.drop_of_length_le (by omega)] at hrel
        simp [← hrel, sameLF]
theorem rsame_c (x y : LTerm) (w : World) (hx : Stable (fun _ => False) w (LtF x)) (hy : Stable (fun _ => False) w (LtF y)) : Ret Try.prog 47 [vL x, vL y] w (fun _ => False) fun v _ => v = .bool (sameF x.t y.t) := rsame_all _ x y w (Nat.le_refl _) hx hy
instance {x y : LTerm} {bs fs} [HasT fs x] [HasT fs y] : CallV Try.prog 47 [vL x, vL y] bs fs (.bool (sameF x.t y.t)) := ⟨fun w m => rsame_c x y w (m.t0 _) (m.t0 _)⟩

theorem rsameall_c (p q : Option Addr) (c e : Nat) (xs ys : List LTerm) (w0 : World) (hl : xs.length ≤ 1000000000) (hx : Stable (fun _ => False) w0 (LsF p 0 xs)) (hy : Stable (fun _ => False) w0 (LsF q 0 ys)) :
    Ret Try.prog 18 [.slice p xs.length c, .slice q ys.length e] w0 (fun _ => False) fun v _ => v = .bool (sameLF (xs.map LTerm.t) (ys.map LTerm.t)) := by
  refine enter Try.func18 rfl rfl (Wd.begin (fs := [LsF p 0 xs, LsF q 0 ys]) (by simp; exact ⟨hx, hy⟩)) (fun a S => ?_)
  simp only [Try.ntmps18, List.length_cons, List.length_nil, Nat.reduceAdd, Nat.reduceSub, List.replicate_succ, List.replicate_zero, List.cons_append, List.nil_append] at S
  refine c_seq ?_
  refine c_region ?_
  refine sq S ?_; clear S; intro a S
  refine wl_nil ?_
  refine xtn ?_
  iterate 2 (refine c_seq ?_)
  refine c_region ?_
  iterate 5 (refine sq S ?_; clear S; intro a S)
  refine wl_nil ?_
  refine xtn ?_
  refine c_cond S (fun h1 => ?_) (fun h1 => ?_)
  · refine c_seq ?_
    refine c_region ?_
    refine sq S ?_; clear S; intro a S
    refine wl_nil ?_
    refine xtn ?_
    refine c_ret ?_
    refine xtr ?_
    refine end1 S (fun _ => ?_)
    rw [sameLF_len (by simp at h1 ⊢; omega)]
  · refine c_skip ?_
    refine xtn ?_
    iterate 2 (refine c_seq ?_)
    refine c_region ?_
    refine sq S ?_; clear S; intro a S
    refine wl_nil ?_
    refine xtn ?_
    refine c_block ?_
    have hle : xs.length = ys.length := by simp at h1; omega
    refine c_forb1 S (fun (k : Nat) uu => [(4, uu 4), (0, .int .i64 (k : Nat)), (5, uu 11), (0, uu 12), (0, uu 13), (0, uu 14), (0, uu 15), (0, uu 16), (0, uu 17), (0, uu 18), (0, uu 19), (0, uu 20), (0, uu 21), (0, uu 22), (0, uu 23), (0, uu 24), (0, uu 25), (0, uu 26)]) (fun (k : Nat) => k ≤ xs.length ∧ sameLF ((xs.drop k).map LTerm.t) ((ys.drop k).map LTerm.t) = sameLF (xs.map LTerm.t) (ys.map LTerm.t)) (fun (k : Nat) => xs.length - k) (0) ?_ S.uu ?_ ?_
    · exact ⟨Nat.zero_le _, rfl⟩
    · first | exact S | exact S.sub _ _
    · clear S; rintro k uu a w ⟨hk, hrel⟩ S
      iterate 2 (refine c_seq ?_)
      refine c_region ?_
      iterate 4 (refine sq S ?_; clear S; intro a S)
      refine wl_nil ?_
      refine xtn ?_
      refine c_cond S (fun h4 => ?_) (fun h4 => ?_)
      · refine c_skip ?_
        refine xtn ?_
        refine c_seq ?_
        refine c_block ?_
        have hkl : k < xs.length := by simpa using h4
        have hK1 : KLt k xs.length := ⟨hkl⟩
        have hK2 : KLt k ys.length := ⟨by omega⟩
        rw [nth_drop hkl, nth_drop (show k < ys.length by omega), List.map_cons, List.map_cons, sameLF] at hrel
        refine c_seq ?_
        refine c_drawD [(0, true), (1, true), (2, true), (3, true), (4, true), (5, true), (6, true), (7, true), (8, false), (9, true)] [] S ?_; clear S; intro w S
        iterate 8 (refine dq S ?_; clear S; intro a S)
        refine dl ?_
        refine sc S ?_; clear S; intro a w S
        refine de S ?_
        refine dq S ?_; clear S; intro a S
        refine dn ?_
        refine xtn ?_
        refine c_cond S (fun h6 => ?_) (fun h6 => ?_)
        · refine c_seq ?_
          refine c_region ?_
          refine sq S ?_; clear S; intro a S
          refine wl_nil ?_
          refine xtn ?_
          refine c_ret ?_
          refine xbr ?_
          iterate 2 (refine xtr ?_)
          refine xbr ?_
          refine xtr ?_
          have h9 : sameF (nthL xs k).t (nthL ys k).t = false := by simpa using h6
          refine end1 S (fun _ => ?_)
          rw [← hrel, h9]; rfl
        · refine c_skip ?_
          refine xbn ?_
          refine xtn ?_
          refine c_region ?_
          iterate 3 (refine sq S ?_; clear S; intro a S)
          refine wl_nil ?_
          refine xtn ?_
          have h9 : sameF (nthL xs k).t (nthL ys k).t = true := by simpa using h6
          rw [h9, Bool.true_and] at hrel
          rw [w64 ((k : Int) + 1) (by omega) (by omega)] at S
          exact ⟨k + 1, S.uu, ⟨hkl, hrel⟩, S.sub _ _, by omega⟩
      · refine c_exit ?_
        iterate 2 (refine xte ?_)
        refine xbe ?_
        refine xtn ?_
        refine c_seq ?_
        refine c_region ?_
        refine sq S ?_; clear S; intro a S
        refine wl_nil ?_
        refine xtn ?_
        refine c_ret ?_
        have h9 : xs.length ≤ k := by simpa using h4
        rw [List.drop_of_length_le h9, List.drop_of_length_le (by omega)] at hrel
        refine end1 S (fun _ => ?_)
        rw [← hrel]; rfl
end Go.Proofs.Ytgielmldblopeaa
