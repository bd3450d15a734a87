/- Package safehouseref05: what its functions compute. -/
import Derived.Test.YtgielmldblopeaaTermD
namespace Go.Proofs.Ytgielmldblopeaa
open Go Go.Wk
set_option synthInstance.maxSize 100000
set_option synthInstance.maxHeartbeats 400000
set_option maxRecDepth 100000

def rKids (k : Int) : Int := if k < 1 ∨ 8 < k then -1 else if k ≤ 3 then 0 else if k = 4 ∨ k = 6 then 2 else 1
theorem rkids_c (k : Int) (w : World) : Ret Try.prog 130 [.int .i64 k] w (fun _ => False) fun v _ => v = .int .i64 (rKids k) := by
  refine enter Try.func130 rfl rfl (Wd.start w) (fun a S => ?_)
  simp only [Try.ntmps130, List.length_cons, List.length_nil, Nat.reduceAdd, Nat.reduceSub, List.replicate_succ, List.replicate_zero, List.cons_append, List.nil_append] at S
  refine c_seq ?_
  refine c_region ?_
  refine sq S ?_; clear S; intro a S
  refine wl_nil ?_
  refine xtn ?_
  iterate 2 (refine c_seq ?_)
  refine c_region ?_
  iterate 3 (refine sq S ?_; clear S; intro a S)
  iterate 2 (refine gQ S ?_; clear S; intro a S)
  refine sq S ?_; clear S; intro a S
  refine wl_nil ?_
  refine xtn ?_
  refine c_cond S (fun h1 => ?_) (fun h1 => ?_)
  · refine c_seq ?_
    refine c_region ?_
    refine sq S ?_; clear S; intro a S
    refine wl_nil ?_
    refine xtn ?_
    refine c_ret ?_
    refine xtr ?_
    refine end1 S (fun _ => ?_)
    clear S; congr 1; unfold rKids; simp at *
    (repeat' split) <;> omega
  · refine c_skip ?_
    refine xtn ?_
    iterate 2 (refine c_seq ?_)
    refine c_region ?_
    iterate 2 (refine sq S ?_; clear S; intro a S)
    refine wl_nil ?_
    refine xtn ?_
    refine c_cond S (fun h3 => ?_) (fun h3 => ?_)
    · refine c_seq ?_
      refine c_region ?_
      refine sq S ?_; clear S; intro a S
      refine wl_nil ?_
      refine xtn ?_
      refine c_ret ?_
      refine xtr ?_
      refine end1 S (fun _ => ?_)
      clear S; congr 1; unfold rKids; simp at *
      (repeat' split) <;> omega
    · refine c_skip ?_
      refine xtn ?_
      iterate 2 (refine c_seq ?_)
      refine c_region ?_
      iterate 3 (refine sq S ?_; clear S; intro a S)
      iterate 2 (refine gQ S ?_; clear S; intro a S)
      refine sq S ?_; clear S; intro a S
      refine wl_nil ?_
      refine xtn ?_
      refine c_cond S (fun h5 => ?_) (fun h5 => ?_)
      · refine c_seq ?_
        refine c_region ?_
        refine sq S ?_; clear S; intro a S
        refine wl_nil ?_
        refine xtn ?_
        refine c_ret ?_
        refine xtr ?_
        refine end1 S (fun _ => ?_)
        clear S; congr 1; unfold rKids; simp at *
        (repeat' split) <;> omega
      · refine c_skip ?_
        refine xtn ?_
        refine c_seq ?_
        refine c_region ?_
        refine sq S ?_; clear S; intro a S
        refine wl_nil ?_
        refine xtn ?_
        refine c_ret ?_
        refine end1 S (fun _ => ?_)
        clear S; congr 1; unfold rKids; simp at *
        (repeat' split) <;> omega
instance {k : Int} {bs fs} : CallV Try.prog 130 [.int .i64 k] bs fs (.int .i64 (rKids k)) := ⟨fun w _ => rkids_c k w⟩
def rUser (k : Int) : Bool := decide (k = 2) || decide (k = 3) || decide (k = 7) || decide (k = 8)
theorem ruser_c (k : Int) (w : World) : Ret Try.prog 131 [.int .i64 k] w (fun _ => False) fun v _ => v = .bool (rUser k) := by
  refine enter Try.func131 rfl rfl (Wd.start w) (fun a S => ?_)
  simp only [Try.ntmps131, List.length_cons, List.length_nil, Nat.reduceAdd, Nat.reduceSub, List.replicate_succ, List.replicate_zero, List.cons_append, List.nil_append] at S
  refine c_seq ?_
  refine c_region ?_
  refine sq S ?_; clear S; intro a S
  refine wl_nil ?_
  refine xtn ?_
  refine c_seq ?_
  refine c_region ?_
  iterate 3 (refine sq S ?_; clear S; intro a S)
  iterate 2 (refine gQ S ?_; clear S; intro a S)
  iterate 2 (refine sq S ?_; clear S; intro a S)
  iterate 2 (refine gQ S ?_; clear S; intro a S)
  iterate 2 (refine sq S ?_; clear S; intro a S)
  iterate 2 (refine gQ S ?_; clear S; intro a S)
  iterate 2 (refine sq S ?_; clear S; intro a S)
  refine wl_nil ?_
  refine xtn ?_
  refine c_ret ?_
  refine end1 S (fun _ => ?_)
  rfl
instance {k : Int} {bs fs} : CallV Try.prog 131 [.int .i64 k] bs fs (.bool (rUser k)) := ⟨fun w _ => ruser_c k w⟩
def rNum (k : Int) : Bool := decide (k = 2) || decide (k = 8)
theorem rnum_c (k : Int) (w : World) : Ret Try.prog 132 [.int .i64 k] w (fun _ => False) fun v _ => v = .bool (rNum k) := by
  refine enter Try.func132 rfl rfl (Wd.start w) (fun a S => ?_)
  simp only [Try.ntmps132, List.length_cons, List.length_nil, Nat.reduceAdd, Nat.reduceSub, List.replicate_succ, List.replicate_zero, List.cons_append, List.nil_append] at S
  refine c_seq ?_
  refine c_region ?_
  refine sq S ?_; clear S; intro a S
  refine wl_nil ?_
  refine xtn ?_
  refine c_seq ?_
  refine c_region ?_
  iterate 3 (refine sq S ?_; clear S; intro a S)
  iterate 2 (refine gQ S ?_; clear S; intro a S)
  iterate 2 (refine sq S ?_; clear S; intro a S)
  refine wl_nil ?_
  refine xtn ?_
  refine c_ret ?_
  refine end1 S (fun _ => ?_)
  rfl
instance {k : Int} {bs fs} : CallV Try.prog 132 [.int .i64 k] bs fs (.bool (rNum k)) := ⟨fun w _ => rnum_c k w⟩

def rOne (k u n : Int) (s : List UInt8) (m : Nat) : Bool :=
  !(decide (rKids k < 0) || !decide ((m : Int) = rKids k) || decide (64 < (s.length : Int)) || (!decide (k = 1) && !decide (s = []))) &&
  !(rUser k && (decide (u < 1) || decide (6 < u)) || !rUser k && !decide (u = 0)) &&
  (decide (n = 0) || rNum k && decide (0 < n) && decide (n ≤ 65535))
theorem rone_c (t : LTerm) (w : World) : Ret Try.prog 94 [vL t] w (fun _ => False) fun v _ => v = .bool (rOne t.kind t.user t.num t.text t.kids.length) := by
  refine enter Try.func94 rfl rfl (Wd.start w) (fun a S => ?_)
  simp only [Try.ntmps94, List.length_cons, List.length_nil, Nat.reduceAdd, Nat.reduceSub, List.replicate_succ, List.replicate_zero, List.cons_append, List.nil_append] at S
  refine c_seq ?_
  refine c_region ?_
  refine sa S ?_; clear S; intro b1 a w S
  refine sq S ?_; clear S; intro a S
  refine wl_nil ?_
  refine xtn ?_
  iterate 2 (refine c_seq ?_)
  refine c_drawD [(0, true), (1, true), (2, false), (3, true), (4, true), (5, true), (6, true), (7, true), (8, true), (9, true), (10, false), (11, true), (12, true), (13, true), (14, true), (15, true), (16, true), (17, true), (18, true), (19, true), (20, true), (21, true), (22, true), (23, true), (24, true), (25, true), (26, true), (27, true), (28, true)] [] S ?_; clear S; intro w S
  iterate 2 (refine dq S ?_; clear S; intro a S)
  refine dl ?_
  refine sc S ?_; clear S; intro a w S
  refine de S ?_
  iterate 2 (refine dq S ?_; clear S; intro a S)
  iterate 5 (refine dqG S ?_; clear S; intro a S)
  refine dl ?_
  refine gC S ?_; clear S; intro a w S
  refine de S ?_
  refine dqG S ?_; clear S; intro a S
  iterate 2 (refine dq S ?_; clear S; intro a S)
  iterate 4 (refine dqG S ?_; clear S; intro a S)
  iterate 2 (refine dq S ?_; clear S; intro a S)
  iterate 8 (refine dqG S ?_; clear S; intro a S)
  refine dq S ?_; clear S; intro a S
  refine dn ?_
  refine xtn ?_
  refine c_cond S (fun h1 => ?_) (fun h1 => ?_)
  · refine c_seq ?_
    refine c_region ?_
    refine sq S ?_; clear S; intro a S
    refine wl_nil ?_
    refine xtn ?_
    refine c_ret ?_
    refine xtr ?_
    refine end1 S (fun _ => ?_)
    simp only [rOne, h1]; rfl
  · refine c_skip ?_
    refine xtn ?_
    iterate 2 (refine c_seq ?_)
    refine c_region ?_
    iterate 2 (refine sq S ?_; clear S; intro a S)
    refine sc S ?_; clear S; intro a w S
    refine sq S ?_; clear S; intro a S
    iterate 8 (refine gQ S ?_; clear S; intro a S)
    iterate 2 (refine sq S ?_; clear S; intro a S)
    iterate 2 (refine gQ S ?_; clear S; intro a S)
    refine gC S ?_; clear S; intro a w S
    iterate 6 (refine gQ S ?_; clear S; intro a S)
    refine sq S ?_; clear S; intro a S
    refine wl_nil ?_
    refine xtn ?_
    refine c_cond S (fun h3 => ?_) (fun h3 => ?_)
    · refine c_seq ?_
      refine c_region ?_
      refine sq S ?_; clear S; intro a S
      refine wl_nil ?_
      refine xtn ?_
      refine c_ret ?_
      refine xtr ?_
      refine end1 S (fun _ => ?_)
      simp only [rOne, h3]; simp
    · refine c_skip ?_
      refine xtn ?_
      refine c_seq ?_
      refine c_region ?_
      iterate 4 (refine sq S ?_; clear S; intro a S)
      iterate 2 (refine gQ S ?_; clear S; intro a S)
      refine gC S ?_; clear S; intro a w S
      iterate 10 (refine gQ S ?_; clear S; intro a S)
      iterate 2 (refine sq S ?_; clear S; intro a S)
      refine wl_nil ?_
      refine xtn ?_
      refine c_ret ?_
      refine end1 S (fun _ => ?_)
      simp only [rOne, h1, h3]; simp
instance {t : LTerm} {bs fs} : CallV Try.prog 94 [vL t] bs fs (.bool (rOne t.kind t.user t.num t.text t.kids.length)) := ⟨fun w _ => rone_c t w⟩

mutual
def rSize : Term → Int → Int → Int × Bool
  | .mk k u n s kids, most, deep => if most < 1 ∨ deep < 1 ∨ rOne k u n s kids.length = false then (0, false) else rSizeL kids most deep 1
def rSizeL : List Term → Int → Int → Int → Int × Bool
  | [], _, _, n => (n, true)
  | t :: ts, most, deep, n => if (rSize t (most - n) (deep - 1)).2 then rSizeL ts most deep (n + (rSize t (most - n) (deep - 1)).1) else (0, false)
end
mutual
theorem rSize_le : ∀ (t : Term) (most deep : Int), (rSize t most deep).2 = true → 1 ≤ (rSize t most deep).1 ∧ (rSize t most deep).1 ≤ most
  | .mk k u n s kids, most, deep => by
    intro h
    rw [rSize] at h ⊢
    split at h
    · simp at h
    · rename_i hc
      rw [if_neg hc]
      exact rSizeL_le kids most deep 1 (by omega) (by omega) h
theorem rSizeL_le : ∀ (ts : List Term) (most deep n : Int), 1 ≤ n → n ≤ most → (rSizeL ts most deep n).2 = true → 1 ≤ (rSizeL ts most deep n).1 ∧ (rSizeL ts most deep n).1 ≤ most
  | [], most, deep, n => by intro h1 h2 _; simp [rSizeL]; omega
  | t :: ts, most, deep, n => by
    intro h1 h2 h
    rw [rSizeL] at h ⊢
    split at h
    · rename_i hc
      rw [if_pos hc]
      have := rSize_le t (most - n) (deep - 1) hc
      exact rSizeL_le ts most deep _ (by omega) (by omega) h
    · simp at h
end
theorem rsize_c (N : Nat) : ∀ (t : LTerm) (most deep : Int) (w0 : World), SizeOf.sizeOf t ≤ N → most ≤ 1200 → -1200 ≤ most → deep ≤ 60 → -60 ≤ deep → Stable (fun _ => False) w0 (LtF t) →
    Ret Try.prog 48 [vL t, .int .i64 most, .int .i64 deep] w0 (fun _ => False) fun v _ => v = .tuple ⟨[.int .i64 (rSize t.t most deep).1, .bool (rSize t.t most deep).2]⟩ := by
  induction N with
  | zero => intro t _ _ _ h; cases t; simp at h
  | succ N ih =>
  intro t most deep w0 hN hm hm' hd hd' hf
  have e0 := t.t_eq
  have hlen := LTerm.len_le hf
  refine enter Try.func48 rfl rfl (Wd.begin (fs := [LtF t]) (by simpa using hf)) (fun a S => ?_)
  simp only [Try.ntmps48, List.length_cons, List.length_nil, Nat.reduceAdd, Nat.reduceSub, List.replicate_succ, List.replicate_zero, List.cons_append, List.nil_append] at S
  refine c_seq ?_
  refine c_region ?_
  refine sa S ?_; clear S; intro b3 a w S
  iterate 2 (refine sq S ?_; clear S; intro a S)
  refine wl_nil ?_
  refine xtn ?_
  iterate 2 (refine c_seq ?_)
  refine c_region ?_
  iterate 3 (refine sq S ?_; clear S; intro a S)
  iterate 2 (refine gQ S ?_; clear S; intro a S)
  iterate 2 (refine sq S ?_; clear S; intro a S)
  refine gQ S ?_; clear S; intro a S
  refine gC S ?_; clear S; intro a w S
  refine gQ S ?_; clear S; intro a S
  refine sq S ?_; clear S; intro a S
  refine wl_nil ?_
  refine xtn ?_
  refine c_cond S (fun h1 => ?_) (fun h1 => ?_)
  · refine c_seq ?_
    refine c_region ?_
    iterate 2 (refine sq S ?_; clear S; intro a S)
    refine wl_nil ?_
    refine xtn ?_
    refine c_ret ?_
    refine xtr ?_
    refine end2 S (fun _ => ?_)
    have h3 : most < 1 ∨ deep < 1 ∨ rOne t.kind t.user t.num t.text t.kids.length = false := by simpa [or_assoc] using h1
    rw [e0, rSize, if_pos (by simpa using h3)]
  · refine c_skip ?_
    refine xtn ?_
    refine c_seq ?_
    refine c_region ?_
    refine sq S ?_; clear S; intro a S
    refine wl_nil ?_
    refine xtn ?_
    iterate 2 (refine c_seq ?_)
    refine c_region ?_
    refine sq S ?_; clear S; intro a S
    refine wl_nil ?_
    refine xtn ?_
    refine c_block ?_
    have h3 : ¬ (most < 1 ∨ deep < 1 ∨ rOne t.kind t.user t.num t.text t.kids.length = false) := by simpa [and_assoc] using h1
    have h4 : 1 ≤ most ∧ 1 ≤ deep := by omega
    refine c_loop (ι := Nat) (fun k a w => k ≤ t.kids.length ∧ ∃ n : Int, 1 ≤ n ∧ n ≤ most ∧ rSizeL ((t.kids.drop k).map LTerm.t) most deep n = rSize t.t most deep ∧ ∃ uu : Nat → Value,  St w0 (fun _ => False) [] a w ((vL t) :: (.int .i64 most) :: (.int .i64 deep) :: (.pointer (some ⟨b3, 0, none⟩)) :: uu 4 :: uu 5 :: (.int .i64 0) :: (.bool false) :: (.int .i64 n) :: (.int .i64 (k : Nat)) :: uu 10 :: uu 11 :: uu 12 :: uu 13 :: uu 14 :: uu 15 :: uu 16 :: uu 17 :: uu 18 :: uu 19 :: uu 20 :: uu 21 :: uu 22 :: uu 23 :: uu 24 :: uu 25 :: uu 26 :: uu 27 :: uu 28 :: uu 29 :: uu 30 :: uu 31 :: uu 32 :: uu 33 :: uu 34 :: uu 35 :: uu 36 :: uu 37 :: uu 38 :: uu 39 :: uu 40 :: uu 41 :: uu 42 :: uu 43 :: uu 44 :: uu 45 :: uu 46 :: uu 47 :: uu 48 :: uu 49 :: []) [box b3 35 t.cells] [LtF t]) (fun k => t.kids.length - k) 0 ?_ ?_
    · refine ⟨Nat.zero_le _, 1, by omega, by omega, ?_, S.uu, S⟩
      rw [e0, rSize, if_neg (by simpa using h3)]; rfl
    · clear S
      rintro k a w ⟨hk, n, hn1, hn2, hrel, uu, S⟩
      iterate 2 (refine c_seq ?_)
      refine c_region ?_
      iterate 5 (refine sq S ?_; clear S; intro a S)
      refine wl_nil ?_
      refine xtn ?_
      refine c_cond S (fun h5 => ?_) (fun h5 => ?_)
      · refine c_skip ?_
        refine xtn ?_
        refine c_seq ?_
        refine c_block ?_
        refine c_seq ?_
        refine c_region ?_
        have hkl : k < t.kids.length := by simpa using h5
        have hK : KLt k t.kids.length := ⟨hkl⟩
        iterate 8 (refine sq S ?_; clear S; intro a S)
        rw [w64 (most - n) (by omega) (by omega)] at S
        iterate 2 (refine sq S ?_; clear S; intro a S)
        rw [w64 (deep - 1) (by omega) (by omega)] at S
        rw [nth_drop hkl, List.map_cons, rSizeL] at hrel
        refine sr S (ih (nthL t.kids k) (most - n) (deep - 1) w (by have := LTerm.kid_lt (nth_mem hkl); omega) (by omega) (by omega) (by omega) (by omega) (S.t0 _)) ?_; clear S; rintro _ a w rfl S
        iterate 5 (refine sq S ?_; clear S; intro a S)
        refine wl_nil ?_
        refine xtn ?_
        iterate 2 (refine c_seq ?_)
        refine c_region ?_
        iterate 2 (refine sq S ?_; clear S; intro a S)
        refine wl_nil ?_
        refine xtn ?_
        refine c_cond S (fun h8 => ?_) (fun h8 => ?_)
        · refine c_seq ?_
          refine c_region ?_
          iterate 2 (refine sq S ?_; clear S; intro a S)
          refine wl_nil ?_
          refine xtn ?_
          refine c_ret ?_
          refine xtr ?_
          refine xbr ?_
          iterate 2 (refine xtr ?_)
          refine xbr ?_
          refine xtr ?_
          refine end2 S (fun _ => ?_)
          have h9 : (rSize (nthL t.kids k).t (most - n) (deep - 1)).2 = false := by simpa using h8
          rw [if_neg (by simp [h9])] at hrel
          rw [← hrel]
        · refine c_skip ?_
          refine xtn ?_
          refine c_region ?_
          iterate 2 (refine sq S ?_; clear S; intro a S)
          have h9 : (rSize (nthL t.kids k).t (most - n) (deep - 1)).2 = true := by simpa using h8
          have h10 := rSize_le _ _ _ h9
          rw [if_pos h9] at hrel
          refine sq S ?_; clear S; intro a S
          rw [w64 (n + (rSize (nthL t.kids k).t (most - n) (deep - 1)).1) (by omega) (by omega)] at S
          refine sq S ?_; clear S; intro a S
          refine wl_nil ?_
          refine xbn ?_
          refine xtn ?_
          refine c_region ?_
          iterate 3 (refine sq S ?_; clear S; intro a S)
          refine wl_nil ?_
          refine xtn ?_
          rw [w64 ((k : Int) + 1) (by omega) (by omega)] at S
          exact ⟨k + 1, ⟨hkl, _, by omega, by omega, hrel, S.uu, S⟩, by omega⟩
      · refine c_exit ?_
        iterate 2 (refine xte ?_)
        refine xbe ?_
        refine xtn ?_
        refine c_seq ?_
        refine c_region ?_
        iterate 3 (refine sq S ?_; clear S; intro a S)
        refine wl_nil ?_
        refine xtn ?_
        refine c_ret ?_
        refine end2 S (fun _ => ?_)
        have h6 : t.kids.length ≤ k := by simpa using h5
        rw [List.drop_of_length_le h6, List.map_nil, rSizeL] at hrel
        rw [← hrel]
def rightF (t : Term) : Bool := (rSize t 1200 60).2
theorem right_c (t : LTerm) (w0 : World) (hf : Stable (fun _ => False) w0 (LtF t)) : Ret Try.prog 20 [vL t] w0 (fun _ => False) fun v _ => v = .bool (rightF t.t) := by
  refine enter Try.func20 rfl rfl (Wd.begin (fs := [LtF t]) (by simpa using hf)) (fun a S => ?_)
  simp only [Try.ntmps20, List.length_cons, List.length_nil, Nat.reduceAdd, Nat.reduceSub, List.replicate_succ, List.replicate_zero, List.cons_append, List.nil_append] at S
  refine c_seq ?_
  refine c_region ?_
  refine sa S ?_; clear S; intro b1 a w S
  refine sq S ?_; clear S; intro a S
  refine wl_nil ?_
  refine xtn ?_
  refine c_seq ?_
  refine c_region ?_
  refine sq S ?_; clear S; intro a S
  refine sr S (rsize_c _ t 1200 60 w (Nat.le_refl _) (by omega) (by omega) (by omega) (by omega) (S.t0 _)) ?_; clear S; rintro _ a w rfl S
  iterate 5 (refine sq S ?_; clear S; intro a S)
  refine wl_nil ?_
  refine xtn ?_
  refine c_seq ?_
  refine c_region ?_
  iterate 2 (refine sq S ?_; clear S; intro a S)
  refine wl_nil ?_
  refine xtn ?_
  refine c_ret ?_
  refine end1 S (fun _ => ?_)
  rfl
instance {t : LTerm} {bs fs} [HasT fs t] : CallV Try.prog 20 [vL t] bs fs (.bool (rightF t.t)) := ⟨fun w m => right_c t w (m.t0 _)⟩
end Go.Proofs.Ytgielmldblopeaa
