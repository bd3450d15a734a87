/- Package close: opens. -/
import Derived.Test.YtgielmldblopeaaCloseB
import Derived.Test.YtgielmldblopeaaW4
namespace Go.Proofs.Ytgielmldblopeaa
open Go Go.Wk
set_option synthInstance.maxSize 100000
set_option synthInstance.maxHeartbeats 400000
set_option maxRecDepth 100000

/-- what a term gives, when it is taken apart. -/
def givesF (H : List UInt8 → Bool) (t : LTerm) : List LTerm :=
  if t.kind = 4 ∨ t.kind = 8 then t.kids
  else if t.kind = 6 then (if canF H (nthL t.kids 0).t then t.kids.drop 1 else [])
  else if t.kind = 7 then (if H (nameF (secretT t.user)) then t.kids else [])
  else []
theorem secretL_t (u : Int) : (secretL u).t = secretT u := rfl
def opV (b1 b2 : Nat) : Value := .func (.func 147) #[] ⟨[.pointer (some ⟨b1, 0, none⟩), .pointer (some ⟨b2, 0, none⟩)]⟩
theorem opens_c (t : LTerm) (b : Nat) (w0 : World) : Ret Try.prog 113 [.map (some b), vL t] w0 (fun _ => False) fun v w' =>
    ∃ b1 b2, v = opV b1 b2 ∧ w0.heap.size ≤ b1 ∧ w0.heap.size ≤ b2 ∧ BoxF b1 35 t.cells w' ∧ BoxF b2 119 [.map (some b)] w' := by
  refine enter Try.func113 rfl rfl (Wd.start w0) (fun a S => ?_)
  simp only [Try.ntmps113, List.length_cons, List.length_nil, Nat.reduceAdd, Nat.reduceSub, List.replicate_succ, List.replicate_zero, List.cons_append, List.nil_append] at S
  refine c_seq ?_
  refine c_region ?_
  refine sa S ?_; clear S; intro b2 a w S
  refine sa S ?_; clear S; intro b3 a w S
  refine sq S ?_; clear S; intro a S
  refine wl_nil ?_
  refine xtn ?_
  refine c_seq ?_
  refine c_region ?_
  iterate 2 (refine sq S ?_; clear S; intro a S)
  refine wl_nil ?_
  refine xtn ?_
  refine c_ret ?_
  have h1 := S.boxF b3
  have h2 := S.boxF b2
  have n1 := S.boxNew b3
  have n2 := S.boxNew b2
  refine end1 S (fun _ => ?_)
  exact ⟨b3, b2, rfl, n1.elim (fun h => h.elim) id, n2.elim (fun h => h.elim) id, h1, h2⟩
theorem opens_it (b1 b2 b : Nat) (t : LTerm) (km : List (List UInt8 × LTerm)) (w0 : World) (M : Nat → Prop) (hM : ∀ k, M k → k < w0.heap.size) (f1 : Stable M w0 (BoxF b1 35 t.cells)) (f2 : Stable M w0 (BoxF b2 119 [.map (some b)]))
    (f3 : Stable M w0 (MpF b (kvM km))) (f4 : Stable M w0 (LtF t)) (hk6 : t.kind = 6 → 0 < t.kids.length) :
    IterRet Try.prog 147 [.pointer (some ⟨b1, 0, none⟩), .pointer (some ⟨b2, 0, none⟩)] w0 M (fun (x : LTerm) vs _ _ => vs = [vL x]) (givesF (inM km) t) := by
  intro L J Jx hy hJ
  have hF : ∀ Φ ∈ [BoxF b1 35 t.cells, BoxF b2 119 [.map (some b)], MpF b (kvM km), LtF t], Stable M w0 Φ := by simp; exact ⟨f1, f2, f3, f4⟩
  have hlen := LTerm.len_le f4
  have hcap := LtIn.iff.1 f4.now
  refine (callsIn_wide (n := 0)).2 ?_
  refine enter Try.func147 rfl rfl (Wd.beginM (M := M) (fs := [BoxF b1 35 t.cells, BoxF b2 119 [.map (some b)], MpF b (kvM km), LtF t]) hM hF) (fun a S => ?_)
  simp only [Try.ntmps147, List.length_cons, List.length_nil, Nat.reduceAdd, Nat.reduceSub, List.replicate_succ, List.replicate_zero, List.cons_append, List.nil_append] at S
  refine c_seq ?_
  refine c_region ?_
  refine sq S ?_; clear S; intro a S
  refine wl_nil ?_
  refine xtn ?_
  refine c_merge (fun a w => ∃ (p : Option Addr) (n c : Nat), n ≤ c ∧ n ≤ 9223372036854775807 ∧ (givesF (inM km) t).length = n ∧ (∀ w, LtIn w t → LsIn w p 0 (givesF (inM km) t)) ∧ ∃ uu : Nat → Value,  St w0 (fun _ => False) [] a w ((.func (.yield L) #[] #[]) :: (.pointer (some ⟨b1, 0, none⟩)) :: (.pointer (some ⟨b2, 0, none⟩)) :: uu 3 :: (.slice p n c) :: uu 5 :: uu 6 :: uu 7 :: uu 8 :: uu 9 :: uu 10 :: uu 11 :: uu 12 :: uu 13 :: uu 14 :: uu 15 :: uu 16 :: uu 17 :: uu 18 :: uu 19 :: uu 20 :: uu 21 :: uu 22 :: uu 23 :: uu 24 :: uu 25 :: uu 26 :: uu 27 :: uu 28 :: uu 29 :: uu 30 :: uu 31 :: uu 32 :: uu 33 :: uu 34 :: uu 35 :: uu 36 :: uu 37 :: uu 38 :: uu 39 :: uu 40 :: uu 41 :: uu 42 :: uu 43 :: uu 44 :: []) [ext M] [BoxF b1 35 t.cells, BoxF b2 119 [.map (some b)], MpF b (kvM km), LtF t]) ?_ ?_
  · refine c_seq ?_
    refine c_region ?_
    iterate 2 (refine sq S ?_; clear S; intro a S)
    refine wl_nil ?_
    refine xtn ?_
    refine c_block ?_
    iterate 2 (refine c_seq ?_)
    refine c_region ?_
    iterate 2 (refine sq S ?_; clear S; intro a S)
    refine wl_nil ?_
    refine xtn ?_
    refine c_cond S (fun h2 => ?_) (fun h2 => ?_)
    · refine c_skip ?_
      refine xtn ?_
      refine c_cond S (fun h2 => ?_) (fun h2 => ?_)
      · refine c_region ?_
        iterate 3 (refine sq S ?_; clear S; intro a S)
        refine wl_nil ?_
        refine xbn ?_
        refine xtn ?_
        first
        | exact ⟨none, 0, 0, Nat.le_refl _, by omega, by clear S hy hJ hF f1 f2 f3 f4 hM hlen hcap; simp_all [givesF, secretL_t, canF_secret], fun w _ => by rw [show givesF (inM km) t = [] from by clear S hy hJ hF f1 f2 f3 f4 hM hlen hcap; simp_all [givesF, secretL_t, canF_secret]]; simp [LsIn], ⟨S.uu, S⟩⟩
        | exact ⟨t.p, _, t.cap, hcap.1, hlen, by clear S hy hJ hF f1 f2 f3 f4 hM hlen hcap; simp_all [givesF, secretL_t, canF_secret], fun w hw => by rw [show givesF (inM km) t = t.kids from by clear S hy hJ hF f1 f2 f3 f4 hM hlen hcap; simp_all [givesF, secretL_t, canF_secret]]; exact (LtIn.iff.1 hw).2.2, ⟨S.uu, S⟩⟩
        | exact ⟨_, _, _, Nat.sub_le_sub_right hcap.1 1, Nat.le_trans (Nat.sub_le ..) hlen, by clear S hy hJ hF f1 f2 f3 f4 hM hlen hcap; simp_all [givesF, secretL_t, canF_secret], fun w hw => by rw [show givesF (inM km) t = t.kids.drop 1 from by clear S hy hJ hF f1 f2 f3 f4 hM hlen hcap; simp_all [givesF, secretL_t, canF_secret]]; exact LsIn.cut (LtIn.iff.1 hw).2.2 (LtIn.iff.1 hw).1, ⟨S.uu, S⟩⟩
      · refine c_seq ?_
        refine c_region ?_
        iterate 2 (refine sq S ?_; clear S; intro a S)
        refine wl_nil ?_
        refine xtn ?_
        refine c_cond S (fun h5 => ?_) (fun h5 => ?_)
        · refine c_seq ?_
          have e6 : t.kind = 6 := by simpa using h5
          have hK : KLt 0 t.kids.length := ⟨hk6 e6⟩
          refine c_drawD [(0, true), (1, true), (2, true), (3, true), (4, true), (5, false)] [] S ?_; clear S; intro w S
          iterate 5 (refine dq S ?_; clear S; intro a S)
          refine dl ?_
          refine sc S ?_; clear S; intro a w S
          refine de S ?_
          refine dn ?_
          refine xtn ?_
          refine c_cond S (fun h6 => ?_) (fun h6 => ?_)
          · refine c_region ?_
            iterate 2 (refine sq S ?_; clear S; intro a S)
            refine ssl S ?_ ?_ ?_ ?_; exact Nat.le_refl _; exact hcap.1; exact hk6 e6; clear S; intro a S
            refine sq S ?_; clear S; intro a S
            refine wl_nil ?_
            refine xbn ?_
            refine xtn ?_
            first
            | exact ⟨none, 0, 0, Nat.le_refl _, by omega, by clear S hy hJ hF f1 f2 f3 f4 hM hlen hcap; simp_all [givesF, secretL_t, canF_secret], fun w _ => by rw [show givesF (inM km) t = [] from by clear S hy hJ hF f1 f2 f3 f4 hM hlen hcap; simp_all [givesF, secretL_t, canF_secret]]; simp [LsIn], ⟨S.uu, S⟩⟩
            | exact ⟨t.p, _, t.cap, hcap.1, hlen, by clear S hy hJ hF f1 f2 f3 f4 hM hlen hcap; simp_all [givesF, secretL_t, canF_secret], fun w hw => by rw [show givesF (inM km) t = t.kids from by clear S hy hJ hF f1 f2 f3 f4 hM hlen hcap; simp_all [givesF, secretL_t, canF_secret]]; exact (LtIn.iff.1 hw).2.2, ⟨S.uu, S⟩⟩
            | exact ⟨_, _, _, Nat.sub_le_sub_right hcap.1 1, Nat.le_trans (Nat.sub_le ..) hlen, by clear S hy hJ hF f1 f2 f3 f4 hM hlen hcap; simp_all [givesF, secretL_t, canF_secret], fun w hw => by rw [show givesF (inM km) t = t.kids.drop 1 from by clear S hy hJ hF f1 f2 f3 f4 hM hlen hcap; simp_all [givesF, secretL_t, canF_secret]]; exact LsIn.cut (LtIn.iff.1 hw).2.2 (LtIn.iff.1 hw).1, ⟨S.uu, S⟩⟩
          · refine c_skip ?_
            refine xbn ?_
            refine xtn ?_
            first
            | exact ⟨none, 0, 0, Nat.le_refl _, by omega, by clear S hy hJ hF f1 f2 f3 f4 hM hlen hcap; simp_all [givesF, secretL_t, canF_secret], fun w _ => by rw [show givesF (inM km) t = [] from by clear S hy hJ hF f1 f2 f3 f4 hM hlen hcap; simp_all [givesF, secretL_t, canF_secret]]; simp [LsIn], ⟨S.uu, S⟩⟩
            | exact ⟨t.p, _, t.cap, hcap.1, hlen, by clear S hy hJ hF f1 f2 f3 f4 hM hlen hcap; simp_all [givesF, secretL_t, canF_secret], fun w hw => by rw [show givesF (inM km) t = t.kids from by clear S hy hJ hF f1 f2 f3 f4 hM hlen hcap; simp_all [givesF, secretL_t, canF_secret]]; exact (LtIn.iff.1 hw).2.2, ⟨S.uu, S⟩⟩
            | exact ⟨_, _, _, Nat.sub_le_sub_right hcap.1 1, Nat.le_trans (Nat.sub_le ..) hlen, by clear S hy hJ hF f1 f2 f3 f4 hM hlen hcap; simp_all [givesF, secretL_t, canF_secret], fun w hw => by rw [show givesF (inM km) t = t.kids.drop 1 from by clear S hy hJ hF f1 f2 f3 f4 hM hlen hcap; simp_all [givesF, secretL_t, canF_secret]]; exact LsIn.cut (LtIn.iff.1 hw).2.2 (LtIn.iff.1 hw).1, ⟨S.uu, S⟩⟩
        · refine c_seq ?_
          refine c_region ?_
          iterate 2 (refine sq S ?_; clear S; intro a S)
          refine wl_nil ?_
          refine xtn ?_
          refine c_cond S (fun h8 => ?_) (fun h8 => ?_)
          · refine c_seq ?_
            refine c_drawD [(0, true), (1, true), (2, true), (3, false), (4, false)] [] S ?_; clear S; intro w S
            iterate 3 (refine dq S ?_; clear S; intro a S)
            refine dl ?_
            refine sc S ?_; clear S; intro a w S
            refine de S ?_
            refine dl ?_
            refine sc S ?_; clear S; intro a w S
            refine de S ?_
            refine dn ?_
            refine xtn ?_
            refine c_cond S (fun h9 => ?_) (fun h9 => ?_)
            · refine c_region ?_
              iterate 3 (refine sq S ?_; clear S; intro a S)
              refine wl_nil ?_
              refine xbn ?_
              refine xtn ?_
              first
              | exact ⟨none, 0, 0, Nat.le_refl _, by omega, by clear S hy hJ hF f1 f2 f3 f4 hM hlen hcap; simp_all [givesF, secretL_t, canF_secret], fun w _ => by rw [show givesF (inM km) t = [] from by clear S hy hJ hF f1 f2 f3 f4 hM hlen hcap; simp_all [givesF, secretL_t, canF_secret]]; simp [LsIn], ⟨S.uu, S⟩⟩
              | exact ⟨t.p, _, t.cap, hcap.1, hlen, by clear S hy hJ hF f1 f2 f3 f4 hM hlen hcap; simp_all [givesF, secretL_t, canF_secret], fun w hw => by rw [show givesF (inM km) t = t.kids from by clear S hy hJ hF f1 f2 f3 f4 hM hlen hcap; simp_all [givesF, secretL_t, canF_secret]]; exact (LtIn.iff.1 hw).2.2, ⟨S.uu, S⟩⟩
              | exact ⟨_, _, _, Nat.sub_le_sub_right hcap.1 1, Nat.le_trans (Nat.sub_le ..) hlen, by clear S hy hJ hF f1 f2 f3 f4 hM hlen hcap; simp_all [givesF, secretL_t, canF_secret], fun w hw => by rw [show givesF (inM km) t = t.kids.drop 1 from by clear S hy hJ hF f1 f2 f3 f4 hM hlen hcap; simp_all [givesF, secretL_t, canF_secret]]; exact LsIn.cut (LtIn.iff.1 hw).2.2 (LtIn.iff.1 hw).1, ⟨S.uu, S⟩⟩
            · refine c_skip ?_
              refine xbn ?_
              refine xtn ?_
              first
              | exact ⟨none, 0, 0, Nat.le_refl _, by omega, by clear S hy hJ hF f1 f2 f3 f4 hM hlen hcap; simp_all [givesF, secretL_t, canF_secret], fun w _ => by rw [show givesF (inM km) t = [] from by clear S hy hJ hF f1 f2 f3 f4 hM hlen hcap; simp_all [givesF, secretL_t, canF_secret]]; simp [LsIn], ⟨S.uu, S⟩⟩
              | exact ⟨t.p, _, t.cap, hcap.1, hlen, by clear S hy hJ hF f1 f2 f3 f4 hM hlen hcap; simp_all [givesF, secretL_t, canF_secret], fun w hw => by rw [show givesF (inM km) t = t.kids from by clear S hy hJ hF f1 f2 f3 f4 hM hlen hcap; simp_all [givesF, secretL_t, canF_secret]]; exact (LtIn.iff.1 hw).2.2, ⟨S.uu, S⟩⟩
              | exact ⟨_, _, _, Nat.sub_le_sub_right hcap.1 1, Nat.le_trans (Nat.sub_le ..) hlen, by clear S hy hJ hF f1 f2 f3 f4 hM hlen hcap; simp_all [givesF, secretL_t, canF_secret], fun w hw => by rw [show givesF (inM km) t = t.kids.drop 1 from by clear S hy hJ hF f1 f2 f3 f4 hM hlen hcap; simp_all [givesF, secretL_t, canF_secret]]; exact LsIn.cut (LtIn.iff.1 hw).2.2 (LtIn.iff.1 hw).1, ⟨S.uu, S⟩⟩
          · refine c_skip ?_
            refine xbn ?_
            refine xtn ?_
            first
            | exact ⟨none, 0, 0, Nat.le_refl _, by omega, by clear S hy hJ hF f1 f2 f3 f4 hM hlen hcap; simp_all [givesF, secretL_t, canF_secret], fun w _ => by rw [show givesF (inM km) t = [] from by clear S hy hJ hF f1 f2 f3 f4 hM hlen hcap; simp_all [givesF, secretL_t, canF_secret]]; simp [LsIn], ⟨S.uu, S⟩⟩
            | exact ⟨t.p, _, t.cap, hcap.1, hlen, by clear S hy hJ hF f1 f2 f3 f4 hM hlen hcap; simp_all [givesF, secretL_t, canF_secret], fun w hw => by rw [show givesF (inM km) t = t.kids from by clear S hy hJ hF f1 f2 f3 f4 hM hlen hcap; simp_all [givesF, secretL_t, canF_secret]]; exact (LtIn.iff.1 hw).2.2, ⟨S.uu, S⟩⟩
            | exact ⟨_, _, _, Nat.sub_le_sub_right hcap.1 1, Nat.le_trans (Nat.sub_le ..) hlen, by clear S hy hJ hF f1 f2 f3 f4 hM hlen hcap; simp_all [givesF, secretL_t, canF_secret], fun w hw => by rw [show givesF (inM km) t = t.kids.drop 1 from by clear S hy hJ hF f1 f2 f3 f4 hM hlen hcap; simp_all [givesF, secretL_t, canF_secret]]; exact LsIn.cut (LtIn.iff.1 hw).2.2 (LtIn.iff.1 hw).1, ⟨S.uu, S⟩⟩
    · refine c_region ?_
      iterate 2 (refine sq S ?_; clear S; intro a S)
      refine wl_nil ?_
      refine xtn ?_
      refine c_cond S (fun h3 => ?_) (fun h3 => ?_)
      · refine c_region ?_
        iterate 3 (refine sq S ?_; clear S; intro a S)
        refine wl_nil ?_
        refine xbn ?_
        refine xtn ?_
        first
        | exact ⟨none, 0, 0, Nat.le_refl _, by omega, by clear S hy hJ hF f1 f2 f3 f4 hM hlen hcap; simp_all [givesF, secretL_t, canF_secret], fun w _ => by rw [show givesF (inM km) t = [] from by clear S hy hJ hF f1 f2 f3 f4 hM hlen hcap; simp_all [givesF, secretL_t, canF_secret]]; simp [LsIn], ⟨S.uu, S⟩⟩
        | exact ⟨t.p, _, t.cap, hcap.1, hlen, by clear S hy hJ hF f1 f2 f3 f4 hM hlen hcap; simp_all [givesF, secretL_t, canF_secret], fun w hw => by rw [show givesF (inM km) t = t.kids from by clear S hy hJ hF f1 f2 f3 f4 hM hlen hcap; simp_all [givesF, secretL_t, canF_secret]]; exact (LtIn.iff.1 hw).2.2, ⟨S.uu, S⟩⟩
        | exact ⟨_, _, _, Nat.sub_le_sub_right hcap.1 1, Nat.le_trans (Nat.sub_le ..) hlen, by clear S hy hJ hF f1 f2 f3 f4 hM hlen hcap; simp_all [givesF, secretL_t, canF_secret], fun w hw => by rw [show givesF (inM km) t = t.kids.drop 1 from by clear S hy hJ hF f1 f2 f3 f4 hM hlen hcap; simp_all [givesF, secretL_t, canF_secret]]; exact LsIn.cut (LtIn.iff.1 hw).2.2 (LtIn.iff.1 hw).1, ⟨S.uu, S⟩⟩
      · refine c_seq ?_
        refine c_region ?_
        iterate 2 (refine sq S ?_; clear S; intro a S)
        refine wl_nil ?_
        refine xtn ?_
        refine c_cond S (fun h5 => ?_) (fun h5 => ?_)
        · refine c_seq ?_
          have e6 : t.kind = 6 := by simpa using h5
          have hK : KLt 0 t.kids.length := ⟨hk6 e6⟩
          refine c_drawD [(0, true), (1, true), (2, true), (3, true), (4, true), (5, false)] [] S ?_; clear S; intro w S
          iterate 5 (refine dq S ?_; clear S; intro a S)
          refine dl ?_
          refine sc S ?_; clear S; intro a w S
          refine de S ?_
          refine dn ?_
          refine xtn ?_
          refine c_cond S (fun h6 => ?_) (fun h6 => ?_)
          · refine c_region ?_
            iterate 2 (refine sq S ?_; clear S; intro a S)
            refine ssl S ?_ ?_ ?_ ?_; exact Nat.le_refl _; exact hcap.1; exact hk6 e6; clear S; intro a S
            refine sq S ?_; clear S; intro a S
            refine wl_nil ?_
            refine xbn ?_
            refine xtn ?_
            first
            | exact ⟨none, 0, 0, Nat.le_refl _, by omega, by clear S hy hJ hF f1 f2 f3 f4 hM hlen hcap; simp_all [givesF, secretL_t, canF_secret], fun w _ => by rw [show givesF (inM km) t = [] from by clear S hy hJ hF f1 f2 f3 f4 hM hlen hcap; simp_all [givesF, secretL_t, canF_secret]]; simp [LsIn], ⟨S.uu, S⟩⟩
            | exact ⟨t.p, _, t.cap, hcap.1, hlen, by clear S hy hJ hF f1 f2 f3 f4 hM hlen hcap; simp_all [givesF, secretL_t, canF_secret], fun w hw => by rw [show givesF (inM km) t = t.kids from by clear S hy hJ hF f1 f2 f3 f4 hM hlen hcap; simp_all [givesF, secretL_t, canF_secret]]; exact (LtIn.iff.1 hw).2.2, ⟨S.uu, S⟩⟩
            | exact ⟨_, _, _, Nat.sub_le_sub_right hcap.1 1, Nat.le_trans (Nat.sub_le ..) hlen, by clear S hy hJ hF f1 f2 f3 f4 hM hlen hcap; simp_all [givesF, secretL_t, canF_secret], fun w hw => by rw [show givesF (inM km) t = t.kids.drop 1 from by clear S hy hJ hF f1 f2 f3 f4 hM hlen hcap; simp_all [givesF, secretL_t, canF_secret]]; exact LsIn.cut (LtIn.iff.1 hw).2.2 (LtIn.iff.1 hw).1, ⟨S.uu, S⟩⟩
          · refine c_skip ?_
            refine xbn ?_
            refine xtn ?_
            first
            | exact ⟨none, 0, 0, Nat.le_refl _, by omega, by clear S hy hJ hF f1 f2 f3 f4 hM hlen hcap; simp_all [givesF, secretL_t, canF_secret], fun w _ => by rw [show givesF (inM km) t = [] from by clear S hy hJ hF f1 f2 f3 f4 hM hlen hcap; simp_all [givesF, secretL_t, canF_secret]]; simp [LsIn], ⟨S.uu, S⟩⟩
            | exact ⟨t.p, _, t.cap, hcap.1, hlen, by clear S hy hJ hF f1 f2 f3 f4 hM hlen hcap; simp_all [givesF, secretL_t, canF_secret], fun w hw => by rw [show givesF (inM km) t = t.kids from by clear S hy hJ hF f1 f2 f3 f4 hM hlen hcap; simp_all [givesF, secretL_t, canF_secret]]; exact (LtIn.iff.1 hw).2.2, ⟨S.uu, S⟩⟩
            | exact ⟨_, _, _, Nat.sub_le_sub_right hcap.1 1, Nat.le_trans (Nat.sub_le ..) hlen, by clear S hy hJ hF f1 f2 f3 f4 hM hlen hcap; simp_all [givesF, secretL_t, canF_secret], fun w hw => by rw [show givesF (inM km) t = t.kids.drop 1 from by clear S hy hJ hF f1 f2 f3 f4 hM hlen hcap; simp_all [givesF, secretL_t, canF_secret]]; exact LsIn.cut (LtIn.iff.1 hw).2.2 (LtIn.iff.1 hw).1, ⟨S.uu, S⟩⟩
        · refine c_seq ?_
          refine c_region ?_
          iterate 2 (refine sq S ?_; clear S; intro a S)
          refine wl_nil ?_
          refine xtn ?_
          refine c_cond S (fun h8 => ?_) (fun h8 => ?_)
          · refine c_seq ?_
            refine c_drawD [(0, true), (1, true), (2, true), (3, false), (4, false)] [] S ?_; clear S; intro w S
            iterate 3 (refine dq S ?_; clear S; intro a S)
            refine dl ?_
            refine sc S ?_; clear S; intro a w S
            refine de S ?_
            refine dl ?_
            refine sc S ?_; clear S; intro a w S
            refine de S ?_
            refine dn ?_
            refine xtn ?_
            refine c_cond S (fun h9 => ?_) (fun h9 => ?_)
            · refine c_region ?_
              iterate 3 (refine sq S ?_; clear S; intro a S)
              refine wl_nil ?_
              refine xbn ?_
              refine xtn ?_
              first
              | exact ⟨none, 0, 0, Nat.le_refl _, by omega, by clear S hy hJ hF f1 f2 f3 f4 hM hlen hcap; simp_all [givesF, secretL_t, canF_secret], fun w _ => by rw [show givesF (inM km) t = [] from by clear S hy hJ hF f1 f2 f3 f4 hM hlen hcap; simp_all [givesF, secretL_t, canF_secret]]; simp [LsIn], ⟨S.uu, S⟩⟩
              | exact ⟨t.p, _, t.cap, hcap.1, hlen, by clear S hy hJ hF f1 f2 f3 f4 hM hlen hcap; simp_all [givesF, secretL_t, canF_secret], fun w hw => by rw [show givesF (inM km) t = t.kids from by clear S hy hJ hF f1 f2 f3 f4 hM hlen hcap; simp_all [givesF, secretL_t, canF_secret]]; exact (LtIn.iff.1 hw).2.2, ⟨S.uu, S⟩⟩
              | exact ⟨_, _, _, Nat.sub_le_sub_right hcap.1 1, Nat.le_trans (Nat.sub_le ..) hlen, by clear S hy hJ hF f1 f2 f3 f4 hM hlen hcap; simp_all [givesF, secretL_t, canF_secret], fun w hw => by rw [show givesF (inM km) t = t.kids.drop 1 from by clear S hy hJ hF f1 f2 f3 f4 hM hlen hcap; simp_all [givesF, secretL_t, canF_secret]]; exact LsIn.cut (LtIn.iff.1 hw).2.2 (LtIn.iff.1 hw).1, ⟨S.uu, S⟩⟩
            · refine c_skip ?_
              refine xbn ?_
              refine xtn ?_
              first
              | exact ⟨none, 0, 0, Nat.le_refl _, by omega, by clear S hy hJ hF f1 f2 f3 f4 hM hlen hcap; simp_all [givesF, secretL_t, canF_secret], fun w _ => by rw [show givesF (inM km) t = [] from by clear S hy hJ hF f1 f2 f3 f4 hM hlen hcap; simp_all [givesF, secretL_t, canF_secret]]; simp [LsIn], ⟨S.uu, S⟩⟩
              | exact ⟨t.p, _, t.cap, hcap.1, hlen, by clear S hy hJ hF f1 f2 f3 f4 hM hlen hcap; simp_all [givesF, secretL_t, canF_secret], fun w hw => by rw [show givesF (inM km) t = t.kids from by clear S hy hJ hF f1 f2 f3 f4 hM hlen hcap; simp_all [givesF, secretL_t, canF_secret]]; exact (LtIn.iff.1 hw).2.2, ⟨S.uu, S⟩⟩
              | exact ⟨_, _, _, Nat.sub_le_sub_right hcap.1 1, Nat.le_trans (Nat.sub_le ..) hlen, by clear S hy hJ hF f1 f2 f3 f4 hM hlen hcap; simp_all [givesF, secretL_t, canF_secret], fun w hw => by rw [show givesF (inM km) t = t.kids.drop 1 from by clear S hy hJ hF f1 f2 f3 f4 hM hlen hcap; simp_all [givesF, secretL_t, canF_secret]]; exact LsIn.cut (LtIn.iff.1 hw).2.2 (LtIn.iff.1 hw).1, ⟨S.uu, S⟩⟩
          · refine c_skip ?_
            refine xbn ?_
            refine xtn ?_
            first
            | exact ⟨none, 0, 0, Nat.le_refl _, by omega, by clear S hy hJ hF f1 f2 f3 f4 hM hlen hcap; simp_all [givesF, secretL_t, canF_secret], fun w _ => by rw [show givesF (inM km) t = [] from by clear S hy hJ hF f1 f2 f3 f4 hM hlen hcap; simp_all [givesF, secretL_t, canF_secret]]; simp [LsIn], ⟨S.uu, S⟩⟩
            | exact ⟨t.p, _, t.cap, hcap.1, hlen, by clear S hy hJ hF f1 f2 f3 f4 hM hlen hcap; simp_all [givesF, secretL_t, canF_secret], fun w hw => by rw [show givesF (inM km) t = t.kids from by clear S hy hJ hF f1 f2 f3 f4 hM hlen hcap; simp_all [givesF, secretL_t, canF_secret]]; exact (LtIn.iff.1 hw).2.2, ⟨S.uu, S⟩⟩
            | exact ⟨_, _, _, Nat.sub_le_sub_right hcap.1 1, Nat.le_trans (Nat.sub_le ..) hlen, by clear S hy hJ hF f1 f2 f3 f4 hM hlen hcap; simp_all [givesF, secretL_t, canF_secret], fun w hw => by rw [show givesF (inM km) t = t.kids.drop 1 from by clear S hy hJ hF f1 f2 f3 f4 hM hlen hcap; simp_all [givesF, secretL_t, canF_secret]]; exact LsIn.cut (LtIn.iff.1 hw).2.2 (LtIn.iff.1 hw).1, ⟨S.uu, S⟩⟩
  · clear S; rintro a w ⟨p, n, c, hnc, hn63, hlenG, hls, uu, S⟩
    replace S := S.add (Φ := LsF p 0 (givesF (inM km) t)) ((S.fact (Φ := LtF t) (by simp)).imp hls)
    refine c_seq ?_
    refine c_region ?_
    iterate 3 (refine sq S ?_; clear S; intro a S)
    refine wl_nil ?_
    refine xtn ?_
    refine c_block ?_
    refine c_loop (ι := Nat) (fun k a w => k ≤ n ∧ ∃ N w1, J k w1 ∧ ∃ uu : Nat → Value,  St w1 (fun _ => False) [] a w ((.func (.yield L) #[] #[]) :: (.pointer (some ⟨b1, 0, none⟩)) :: (.pointer (some ⟨b2, 0, none⟩)) :: uu 3 :: uu 4 :: uu 5 :: uu 6 :: uu 7 :: uu 8 :: uu 9 :: uu 10 :: uu 11 :: uu 12 :: uu 13 :: uu 14 :: uu 15 :: uu 16 :: uu 17 :: uu 18 :: uu 19 :: uu 20 :: uu 21 :: uu 22 :: uu 23 :: uu 24 :: uu 25 :: uu 26 :: uu 27 :: uu 28 :: uu 29 :: uu 30 :: uu 31 :: uu 32 :: uu 33 :: (.slice p n c) :: (.int .i64 n) :: (.int .i64 (k : Nat)) :: uu 37 :: uu 38 :: uu 39 :: uu 40 :: uu 41 :: uu 42 :: uu 43 :: uu 44 :: []) [ext N] [LsF p 0 (givesF (inM km) t), BoxF b1 35 t.cells, BoxF b2 119 [.map (some b)], MpF b (kvM km), LtF t]) (fun k => n - k) 0 ?_ ?_
    · exact ⟨Nat.zero_le _, M, w0, hJ, S.uu, S⟩
    · clear S
      rintro k a w ⟨hk, N, w1, hJk, uu, S⟩
      refine c_seq ?_
      refine c_region ?_
      refine sq S ?_; clear S; intro a S
      refine wl_nil ?_
      refine xtn ?_
      refine c_seq ?_
      refine c_cond S (fun h12 => ?_) (fun h12 => ?_)
      · refine c_skip ?_
        refine xtn ?_
        refine c_seq ?_
        refine c_block ?_
        refine c_seq ?_
        have hkl : k < n := by simp at h12; omega
        have hK : KLt k n := ⟨hkl⟩
        have hK2 : KLt k (givesF (inM km) t).length := ⟨by omega⟩
        refine c_region ?_
        iterate 2 (refine sq S ?_; clear S; intro a S)
        refine sa S ?_; clear S; intro b6 a w S
        refine sw S ?_; clear S; intro a w S
        refine wl_nil ?_
        refine xtn ?_
        refine c_seq ?_
        refine c_region ?_
        iterate 2 (refine sq S ?_; clear S; intro a S)
        refine sy S (M := M) (wI := w0) (fs0 := [LsF p 0 (givesF (inM km) t), BoxF b1 35 t.cells, BoxF b2 119 [.map (some b)], MpF b (kvM km), LtF t]) (by simp; exact ⟨f4.imp hls, f1, f2, f3, f4⟩)
          (hy k _ _ w1 w (nth_get (by omega)) hJk S.wd.agree rfl) ?_; clear S; intro ok N' a w2 hT hX S
        refine sq S ?_; clear S; intro a S
        refine wl_nil ?_
        refine xtn ?_
        refine c_cond S (fun h14 => ?_) (fun h14 => ?_)
        · refine c_ret ?_
          refine xbr ?_
          iterate 2 (refine xtr ?_)
          refine xbr ?_
          exact endI S ⟨w2, S.wd.agree, .inr (hX (by simpa using h14))⟩
        · refine c_skip ?_
          refine xbn ?_
          refine xtn ?_
          refine c_region ?_
          iterate 2 (refine sq S ?_; clear S; intro a S)
          refine wl_nil ?_
          refine xtn ?_
          rw [w64 ((k : Int) + 1) (by omega) (by omega)] at S
          exact ⟨k + 1, ⟨hkl, N', w2, hT (by simpa using h14), S.uu, S⟩, by omega⟩
      · refine c_exit ?_
        iterate 2 (refine xte ?_)
        refine xbe ?_
        refine endI S ⟨w1, S.wd.agree, .inl ?_⟩
        have h6 : n ≤ k := by simp at h12; omega
        rw [hlenG, show n = k from by omega]; exact hJk
end Go.Proofs.Ytgielmldblopeaa
