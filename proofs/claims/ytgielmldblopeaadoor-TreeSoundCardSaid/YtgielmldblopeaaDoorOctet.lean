/- Package octet: numbers laid as bytes. -/
import Derived.Test.YtgielmldblopeaaDoorInst
import Derived.Test.YtgielmldblopeaaDoorW3
namespace Go.Proofs.YtgielmldblopeaaDoor
open Go Go.Wk
set_option synthInstance.maxSize 100000
set_option synthInstance.maxHeartbeats 400000
set_option maxRecDepth 100000

theorem drop_rep (n m : Nat) (z : Value) : ((List.replicate (n + m) [z]).flatten).drop (n * 1) = List.replicate m z := by
  have h : ∀ k, (List.replicate k [z]).flatten = List.replicate k z := fun k => by
    induction k with
    | zero => rfl
    | succ k ih => rw [List.replicate_succ, List.flatten_cons, ih]; rfl
  rw [h, List.drop_replicate]
  congr 1; omega
theorem enc_set1 (l1 l2 : List UInt8) (y y' : UInt8) : (encL (l1 ++ y :: l2)).take l1.length ++ [.int .u8 (y'.toNat : Int)] ++ (encL (l1 ++ y :: l2)).drop (l1.length + 1) = encL (l1 ++ y' :: l2) := by
  have h1 : (encL l1).length = l1.length := by rw [encL_len]; exact Nat.mul_one _
  have e : encL (l1 ++ y :: l2) = encL l1 ++ (.int .u8 (y.toNat : Int) :: encL l2) := by rw [encL_append, encL_cons]; rfl
  rw [e, ← h1, List.take_left, List.drop_append, List.drop_of_length_le (by omega), encL_append, encL_cons]
  simp [Enc.cells]
theorem lay16_c (p : Option Addr) (n c : Nat) (b : List UInt8) (v : Int) (w0 : World) (hn : b.length = n) (hb : n ≤ 1073741824) (hv : 0 ≤ v) (hv' : v ≤ 65535) (hs : Stable (fun _ => False) w0 (SlF p (encL b))) :
    Ret Tryd.prog 156 [.slice p n c, .int .u16 v, .int .i64 2] w0 (fun _ => False) fun r w' => ∃ g, r = .slice (some ⟨g, 0, none⟩) (n + 2) (n + 2) ∧ w0.heap.size ≤ g ∧ w'.ownsRow 0 5 1 (.slice (some ⟨g, 0, none⟩) (n + 2) (n + 2)) (n + 2) (encL (b ++ be 2 v)) := by
  have hln : LenN b n := ⟨hn⟩
  refine enter Tryd.func156 rfl rfl (Wd.begin (fs := [SlF p (encL b)]) (by simpa using hs)) (fun a S => ?_)
  simp only [Tryd.ntmps156, List.length_cons, List.length_nil, Nat.reduceAdd, Nat.reduceSub, List.replicate_succ, List.replicate_zero, List.cons_append, List.nil_append] at S
  refine c_seq ?_
  refine c_region ?_
  refine sq S ?_; clear S; intro a S
  refine wl_nil ?_
  refine xtn ?_
  refine c_seq ?_
  refine c_region ?_
  iterate 4 (refine sq S ?_; clear S; intro a S)
  rw [w64 ((n : Int) + 2) (by omega) (by omega)] at S
  refine smk (n + 2) S (by omega) (by omega) (by omega) (by simp only [maxLen]; omega) ?_; clear S; intro g a w S
  refine sq S ?_; clear S; intro a S
  refine wl_nil ?_
  refine xtn ?_
  refine c_seq ?_
  refine c_region ?_
  iterate 2 (refine sq S ?_; clear S; intro a S)
  refine scp S (by omega) ?_; clear S; intro a w S
  rw [drop_rep] at S
  refine wl_nil ?_
  refine xtn ?_
  iterate 2 (refine c_seq ?_)
  refine c_region ?_
  iterate 2 (refine sq S ?_; clear S; intro a S)
  refine wl_nil ?_
  refine xtn ?_
  refine c_block ?_
  refine c_loop (ι := Nat) (fun k a w => k ≤ 2 ∧ ∃ uu : Nat → Value,  St w0 (fun _ => False) [] a w ((.slice p n c) :: (.int .u16 v) :: (.int .i64 2) :: uu 3 :: uu 4 :: uu 5 :: uu 6 :: (.slice (some ⟨g, 0, none⟩) (n + 2) (n + 2)) :: uu 8 :: uu 9 :: uu 10 :: uu 11 :: uu 12 :: uu 13 :: uu 14 :: uu 15 :: uu 16 :: (.int .i64 2) :: (.int .i64 (k : Nat)) :: uu 19 :: uu 20 :: uu 21 :: uu 22 :: uu 23 :: uu 24 :: uu 25 :: uu 26 :: uu 27 :: uu 28 :: uu 29 :: uu 30 :: uu 31 :: uu 32 :: uu 33 :: uu 34 :: uu 35 :: uu 36 :: uu 37 :: []) [row 5 1 (some ⟨g, 0, none⟩) (n + 2) (n + 2) (encL (b ++ ((be 2 v).take k ++ List.replicate (2 - k) 0)))] [SlF p (encL b)]) (fun k => 2 - k) 0 ?_ ?_
  · rw [show encL b ++ List.replicate 2 (Value.int .u8 0) = encL (b ++ ((be 2 v).take 0 ++ List.replicate (2 - 0) 0)) from by rw [encL_append]; rfl] at S
    exact ⟨Nat.zero_le _, S.uu, S⟩
  · clear S
    rintro k a w ⟨hk, uu, S⟩
    refine c_seq ?_
    refine c_region ?_
    refine sq S ?_; clear S; intro a S
    refine wl_nil ?_
    refine xtn ?_
    refine c_seq ?_
    refine c_cond S (fun h4 => ?_) (fun h4 => ?_)
    · refine c_skip ?_
      refine xtn ?_
      refine c_seq ?_
      refine c_block ?_
      refine c_seq ?_
      refine c_region ?_
      iterate 2 (refine sq S ?_; clear S; intro a S)
      refine wl_nil ?_
      refine xtn ?_
      refine c_region ?_
      iterate 4 (refine sq S ?_; clear S; intro a S)
      have hk2 : k < 2 := by simp at h4; omega
      refine sq S ?_; clear S; intro a S
      rw [w64 ((n : Int) + (k : Int)) (by omega) (by omega), show (n : Int) + (k : Int) = ((n + k : Nat) : Int) from by omega] at S
      iterate 2 (refine sq S ?_; clear S; intro a S)
      rw [wu64 v (by omega) (by omega)] at S
      iterate 2 (refine sq S ?_; clear S; intro a S)
      rw [show IntKind.i64.wrap (2 - 1) = 1 from rfl] at S
      iterate 2 (refine sq S ?_; clear S; intro a S)
      rw [w64 (1 - (k : Int)) (by omega) (by omega)] at S
      refine sq S ?_; clear S; intro a S
      rw [w64 (8 * (1 - (k : Int))) (by omega) (by omega), show 8 * (1 - (k : Int)) = ((8 * (2 - 1 - k) : Nat) : Int) from by omega] at S
      refine sq S ?_; clear S; intro a S
      rw [show min (8 * (2 - 1 - k)) IntKind.u64.bits = 8 * (2 - 1 - k) from Nat.min_eq_left (by simp only [IntKind.bits]; omega)] at S
      refine sq S ?_; clear S; intro a S
      rw [u8_wrap] at S
      have hK : KLt (n + k) (n + 2) := ⟨by omega⟩
      refine sq S ?_; clear S; intro a S
      refine sws S (n + 2) (by omega) (by omega) ?_; clear S; intro a w S
      refine wl_nil ?_
      refine xbn ?_
      refine xtn ?_
      refine c_region ?_
      iterate 2 (refine sq S ?_; clear S; intro a S)
      refine wl_nil ?_
      refine xtn ?_
      rw [w64 ((k : Int) + 1) (by omega) (by omega)] at S
      have e : encL (b ++ ((be 2 v).take (k + 1) ++ List.replicate (2 - (k + 1)) 0)) = (encL (b ++ ((be 2 v).take k ++ List.replicate (2 - k) 0))).take (n + k) ++ [.int .u8 ((Wk.u8 (v.fdiv (2 ^ (8 * (2 - 1 - k))))).toNat : Int)] ++ (encL (b ++ ((be 2 v).take k ++ List.replicate (2 - k) 0))).drop (n + k + 1) := by
        have hk2 : k = 0 ∨ k = 1 := by omega
        rcases hk2 with rfl | rfl
        · have := enc_set1 b [0] 0 (Wk.u8 (v.fdiv (2 ^ (8 * (2 - 1 - 0)))))
          rw [hn] at this
          exact this.symm
        · have := enc_set1 (b ++ [Wk.u8 (v.fdiv (2 ^ 8))]) [] 0 (Wk.u8 (v.fdiv (2 ^ (8 * (2 - 1 - 1)))))
          rw [List.length_append, hn] at this
          simp only [List.append_assoc] at this ⊢
          exact this.symm
      rw [List.length_singleton, ← e] at S
      exact ⟨k + 1, ⟨by omega, S.uu, S⟩, by omega⟩
    · refine c_exit ?_
      iterate 2 (refine xte ?_)
      refine xbe ?_
      refine xtn ?_
      refine c_seq ?_
      refine c_region ?_
      iterate 2 (refine sq S ?_; clear S; intro a S)
      refine wl_nil ?_
      refine xtn ?_
      refine c_ret ?_
      have hk2 : k = 2 := by simp at h4; omega
      subst hk2
      have hrow := S.row (some ⟨g, 0, none⟩) (n + 2)
      have hnew := S.rowNew (some ⟨g, 0, none⟩) (n + 2)
      refine end1 S (fun _ => ⟨g, rfl, ?_, ?_⟩)
      · exact (hnew _ rfl).elim (fun h => h.elim) id
      · rw [List.take_of_length_le (by simp [be]), show List.replicate (2 - 2) (0 : UInt8) = [] from rfl, List.append_nil] at hrow
        exact hrow
theorem put16_c (p : Option Addr) (n c : Nat) (b : List UInt8) (v : Int) (w0 : World) (hn : b.length = n) (hb : n ≤ 1073741824) (hv : 0 ≤ v) (hv' : v ≤ 65535) (hs : Stable (fun _ => False) w0 (SlF p (encL b))) :
    Ret Tryd.prog 148 [.slice p n c, .int .u16 v] w0 (fun _ => False) fun r w' => ∃ g, r = .slice (some ⟨g, 0, none⟩) (n + 2) (n + 2) ∧ w0.heap.size ≤ g ∧ w'.ownsRow 0 5 1 (.slice (some ⟨g, 0, none⟩) (n + 2) (n + 2)) (n + 2) (encL (b ++ be 2 v)) := by
  refine enter Tryd.func148 rfl rfl (Wd.begin (fs := [SlF p (encL b)]) (by simpa using hs)) (fun a S => ?_)
  simp only [Tryd.ntmps148, List.length_cons, List.length_nil, Nat.reduceAdd, Nat.reduceSub, List.replicate_succ, List.replicate_zero, List.cons_append, List.nil_append] at S
  refine c_seq ?_
  refine c_region ?_
  refine sq S ?_; clear S; intro a S
  refine wl_nil ?_
  refine xtn ?_
  refine c_seq ?_
  refine c_region ?_
  iterate 2 (refine sq S ?_; clear S; intro a S)
  refine srn S (lay16_c p n c b v _ hn hb hv hv' ((S.fact (Φ := SlF p (encL b)) (by simp)).less fun _ _ h => h.elim)) ?_; clear S; rintro _ a w1 ⟨g, rfl, hg, hown⟩ - S
  refine sq S ?_; clear S; intro a S
  refine wl_nil ?_
  refine xtn ?_
  refine c_ret ?_
  exact end1 S (fun _ => ⟨g, rfl, hg, hown⟩)
end Go.Proofs.YtgielmldblopeaaDoor
