/- The package of the laws of layer 7: what is gone through. -/
import Derived.Test.YtajmjbboahmdkaaPlainRight
import Derived.Test.YtajmjbboahmdkaaPlainSafe
import Derived.Test.YtajmjbboahmdkaaCloseG
namespace Go.Proofs.Ytajmjbboahmdkaa
open Go Go.Wk
set_option synthInstance.maxSize 100000
set_option synthInstance.maxHeartbeats 400000
set_option maxRecDepth 100000

theorem count_c0 (N : Nat) : ∀ (t : LTerm) (deep most : Int) (w0 : World), SizeOf.sizeOf t < N → 0 ≤ deep → deep ≤ 21 → -deep ≤ most → most ≤ 120 → Stable (fun _ => False) w0 (LtF t) → Ret Try.prog 116 [vL t, .int .i64 deep, .int .i64 most] w0 (fun _ => False) fun v _ => ∃ r, v = .int .i64 r ∧ -30 ≤ r ∧ r ≤ 121 ∧ (r ≤ most → (cnt t.t : Int) = r ∧ deep + dpt t.t ≤ 21) := by
  induction N with
  | zero => intro t _ _ _ h; exact absurd h (Nat.not_lt_zero _)
  | succ N ih =>
  intro t deep most w0 hN hd0 hd1 hm0 hm1 hf
  have hlen := LTerm.len_le hf
  refine enter Try.func116 rfl rfl (Wd.begin (fs := [LtF t]) (by simpa using hf)) (fun a S => ?_)
  simp only [Try.ntmps116, List.length_cons, List.length_nil, Nat.reduceAdd, Nat.reduceSub, List.replicate_succ, List.replicate_zero, List.cons_append, List.nil_append] at S
  refine c_seq ?_
  refine c_region ?_
  refine sa S ?_; clear S; intro b3 a w S
  refine sq S ?_; clear S; intro a S
  refine wl_nil ?_
  refine xtn ?_
  iterate 2 (refine c_seq ?_)
  refine c_region ?_
  iterate 3 (refine sq S ?_; clear S; intro a S)
  iterate 4 (refine gQ S ?_; clear S; intro a S)
  iterate 2 (refine sq S ?_; clear S; intro a S)
  iterate 4 (refine gQ S ?_; clear S; intro a S)
  refine sq S ?_; clear S; intro a S
  refine wl_nil ?_
  refine xtn ?_
  refine c_cond S (fun h1 => ?_) (fun h1 => ?_)
  · refine c_seq ?_
    refine c_region ?_
    iterate 3 (refine sq S ?_; clear S; intro a S)
    refine wl_nil ?_
    refine xtn ?_
    refine c_ret ?_
    refine xtr ?_
    rw [w64 (most + 1) (by omega) (by omega)] at S
    exact end1 S (fun _ => ⟨_, rfl, by omega, by omega, fun h => by omega⟩)
  · refine c_skip ?_
    refine xtn ?_
    refine c_seq ?_
    refine c_region ?_
    refine sq S ?_; clear S; intro a S
    refine wl_nil ?_
    refine xtn ?_
    iterate 2 (refine c_seq ?_)
    refine c_region ?_
    iterate 4 (refine sq S ?_; clear S; intro a S)
    refine wl_nil ?_
    refine xtn ?_
    refine c_block ?_
    have hd2 : deep ≤ 20 := by simp at h1; omega
    refine c_loop (ι := Nat) (fun k a w => k ≤ t.kids.length ∧ ∃ n : Int, (n ≤ most ∨ n = 1) ∧ n = 1 + cntL ((t.kids.take k).map LTerm.t) ∧ deep + 1 + dptL ((t.kids.take k).map LTerm.t) ≤ 21 ∧ ∃ uu : Nat → Value,  St w0 (fun _ => False) [] a w (uu 0 :: (.int .i64 deep) :: (.int .i64 most) :: uu 3 :: uu 4 :: uu 5 :: uu 6 :: (.int .i64 n) :: uu 8 :: uu 9 :: uu 10 :: uu 11 :: uu 12 :: uu 13 :: uu 14 :: uu 15 :: uu 16 :: uu 17 :: uu 18 :: uu 19 :: uu 20 :: uu 21 :: uu 22 :: uu 23 :: uu 24 :: uu 25 :: uu 26 :: (.slice t.p t.kids.length t.cap) :: (.int .i64 t.kids.length) :: (.int .i64 (k : Nat)) :: uu 30 :: uu 31 :: uu 32 :: uu 33 :: uu 34 :: uu 35 :: uu 36 :: uu 37 :: uu 38 :: uu 39 :: uu 40 :: uu 41 :: uu 42 :: uu 43 :: uu 44 :: uu 45 :: uu 46 :: uu 47 :: uu 48 :: []) [Wk.box b3 37 t.cells] [LtF t]) (fun k => t.kids.length - k) 0 ?_ ?_
    · exact ⟨Nat.zero_le _, _, .inr rfl, by simp [cntL], by simp [dptL]; omega, S.uu, S⟩
    · clear S
      rintro k a w ⟨hk, n, hn1, hn2, hn3, uu, S⟩
      refine c_seq ?_
      refine c_region ?_
      refine sq S ?_; clear S; intro a S
      refine wl_nil ?_
      refine xtn ?_
      refine c_seq ?_
      refine c_cond S (fun h5 => ?_) (fun h5 => ?_)
      · refine c_skip ?_
        refine xtn ?_
        refine c_seq ?_
        refine c_block ?_
        refine c_seq ?_
        have hkl : k < t.kids.length := by simp at h5; omega
        have hK : KLt k t.kids.length := ⟨hkl⟩
        refine c_region ?_
        iterate 2 (refine sq S ?_; clear S; intro a S)
        refine sa S ?_; clear S; intro b9 a w S
        refine sw S ?_; clear S; intro a w S
        refine wl_nil ?_
        refine xtn ?_
        refine c_seq ?_
        refine c_region ?_
        iterate 4 (refine sq S ?_; clear S; intro a S)
        rw [w64 (deep + 1) (by omega) (by omega)] at S
        iterate 3 (refine sq S ?_; clear S; intro a S)
        rw [w64 (most - n) (by omega) (by omega)] at S
        refine sr S (ih (nthL t.kids k) _ _ w (by have := LTerm.kid_lt (nth_mem hkl); omega) (by omega) (by omega) (by omega) (by omega) (S.t0 _)) ?_; clear S; rintro _ a w ⟨r, rfl, hr1, hr2, hr3⟩ S
        refine sq S ?_; clear S; intro a S
        rw [w64 (n + r) (by omega) (by omega)] at S
        refine sq S ?_; clear S; intro a S
        refine wl_nil ?_
        refine xtn ?_
        refine c_seq ?_
        refine c_region ?_
        iterate 3 (refine sq S ?_; clear S; intro a S)
        refine wl_nil ?_
        refine xtn ?_
        refine c_cond S (fun h8 => ?_) (fun h8 => ?_)
        · refine c_seq ?_
          refine c_region ?_
          iterate 3 (refine sq S ?_; clear S; intro a S)
          refine wl_nil ?_
          refine xtn ?_
          refine c_ret ?_
          refine xbr ?_
          iterate 2 (refine xtr ?_)
          refine xbr ?_
          refine xtr ?_
          rw [w64 (most + 1) (by omega) (by omega)] at S
          exact end1 S (fun _ => ⟨_, rfl, by omega, by omega, fun h => by omega⟩)
        · refine c_skip ?_
          refine xbn ?_
          refine xtn ?_
          refine c_region ?_
          iterate 2 (refine sq S ?_; clear S; intro a S)
          refine wl_nil ?_
          refine xtn ?_
          rw [w64 ((k : Int) + 1) (by omega) (by omega)] at S
          have hle : n + r ≤ most := by simp at h8; omega
          obtain ⟨hr4, hr5⟩ := hr3 (by omega)
          have htk : (t.kids.take (k + 1)).map LTerm.t = (t.kids.take k).map LTerm.t ++ [(nthL t.kids k).t] := by
            rw [List.take_add_one, nth_get hkl, List.map_append]; rfl
          exact ⟨k + 1, ⟨hkl, _, .inl hle, by rw [htk, cntL_append]; simp only [cntL]; omega, by rw [htk, dptL_append]; simp only [dptL]; omega, S.uu, S.sub _ _⟩, by omega⟩
      · refine c_exit ?_
        iterate 2 (refine xte ?_)
        refine xbe ?_
        refine xtn ?_
        refine c_seq ?_
        refine c_region ?_
        iterate 2 (refine sq S ?_; clear S; intro a S)
        refine wl_nil ?_
        refine xtn ?_
        refine c_ret ?_
        refine end1 S (fun _ => ⟨_, rfl, by omega, by omega, fun h => ?_⟩)
        rw [List.take_of_length_le (by simp at h5; omega)] at hn2 hn3
        rw [cnt_kids, dpt_kids]
        exact ⟨by omega, by omega⟩
theorem count_c (t : LTerm) (w0 : World) (hf : Stable (fun _ => False) w0 (LtF t)) : Ret Try.prog 116 [vL t, .int .i64 1, .int .i64 120] w0 (fun _ => False) fun v _ => ∃ r, v = .int .i64 r ∧ -30 ≤ r ∧ r ≤ 121 ∧ (r ≤ 120 → (cnt t.t : Int) = r ∧ (1 : Int) + dpt t.t ≤ 21) := count_c0 _ t 1 120 w0 (Nat.lt_succ_self _) (by omega) (by omega) (by omega) (by omega) hf
/-- such as is gone through. -/
def Thin (t : Term) : Prop := cnt t ≤ 120 ∧ dpt t ≤ 20
theorem large_c (xs : List LTerm) (p : Option Addr) (c : Nat) (w0 : World) (hx : Stable (fun _ => False) w0 (LsF p 0 xs)) : Ret Try.prog 68 [.slice p xs.length c] w0 (fun _ => False) fun v _ => ∃ b, v = .bool b ∧ (b = false → xs.length ≤ 30 ∧ ∀ x ∈ xs, Thin x.t) := by
  refine enter Try.func68 rfl rfl (Wd.begin (fs := [LsF p 0 xs]) (by simpa using hx)) (fun a S => ?_)
  simp only [Try.ntmps68, List.length_cons, List.length_nil, Nat.reduceAdd, Nat.reduceSub, List.replicate_succ, List.replicate_zero, List.cons_append, List.nil_append] at S
  refine c_seq ?_
  refine c_region ?_
  refine sq S ?_; clear S; intro a S
  refine wl_nil ?_
  refine xtn ?_
  refine c_seq ?_
  refine c_region ?_
  refine sq S ?_; clear S; intro a S
  refine wl_nil ?_
  refine xtn ?_
  iterate 2 (refine c_seq ?_)
  refine c_region ?_
  iterate 3 (refine sq S ?_; clear S; intro a S)
  refine wl_nil ?_
  refine xtn ?_
  refine c_block ?_
  refine c_loop (ι := Nat) (fun k a w => k ≤ xs.length ∧ k ≤ 30 ∧ (∀ x ∈ xs.take k, Thin x.t) ∧ ∃ n : Int, 0 ≤ n ∧ n ≤ 120 ∧ ∃ uu : Nat → Value,  St w0 (fun _ => False) [] a w (uu 0 :: uu 1 :: uu 2 :: (.int .i64 n) :: uu 4 :: uu 5 :: (.slice p xs.length c) :: (.int .i64 xs.length) :: (.int .i64 (k : Nat)) :: uu 9 :: uu 10 :: uu 11 :: uu 12 :: uu 13 :: uu 14 :: uu 15 :: uu 16 :: uu 17 :: uu 18 :: uu 19 :: uu 20 :: uu 21 :: []) [] [LsF p 0 xs]) (fun k => xs.length - k) 0 ?_ ?_
  · exact ⟨Nat.zero_le _, Nat.zero_le _, by simp, 0, by omega, by omega, S.uu, S⟩
  · clear S
    rintro k a w ⟨hk, hk30, hth, n, hn0, hn1, uu, S⟩
    refine c_seq ?_
    refine c_region ?_
    refine sq S ?_; clear S; intro a S
    refine wl_nil ?_
    refine xtn ?_
    refine c_seq ?_
    refine c_cond S (fun h3 => ?_) (fun h3 => ?_)
    · refine c_skip ?_
      refine xtn ?_
      refine c_seq ?_
      refine c_block ?_
      refine c_seq ?_
      have hkl : k < xs.length := by simp at h3; omega
      have hK : KLt k xs.length := ⟨hkl⟩
      refine c_region ?_
      iterate 3 (refine sq S ?_; clear S; intro a S)
      refine sa S ?_; clear S; intro b5 a w S
      refine sq S ?_; clear S; intro a S
      refine sw S ?_; clear S; intro a w S
      refine wl_nil ?_
      refine xtn ?_
      iterate 2 (refine c_seq ?_)
      refine c_region ?_
      iterate 2 (refine sq S ?_; clear S; intro a S)
      refine wl_nil ?_
      refine xtn ?_
      refine c_cond S (fun h5 => ?_) (fun h5 => ?_)
      · refine c_seq ?_
        refine c_region ?_
        refine sq S ?_; clear S; intro a S
        refine wl_nil ?_
        refine xtn ?_
        refine c_ret ?_
        refine xtr ?_
        refine xbr ?_
        iterate 2 (refine xtr ?_)
        refine xbr ?_
        refine xtr ?_
        exact end1 S (fun _ => ⟨_, rfl, fun h => by cases h⟩)
      · refine c_skip ?_
        refine xtn ?_
        refine c_seq ?_
        refine c_region ?_
        iterate 2 (refine sq S ?_; clear S; intro a S)
        refine sr S (count_c (nthL xs k) w (S.t0 _)) ?_; clear S; rintro _ a w ⟨r, rfl, hr1, hr2, hr3⟩ S
        refine sq S ?_; clear S; intro a S
        rw [w64 (n + r) (by omega) (by omega)] at S
        refine sq S ?_; clear S; intro a S
        refine wl_nil ?_
        refine xtn ?_
        refine c_seq ?_
        refine c_region ?_
        iterate 2 (refine sq S ?_; clear S; intro a S)
        refine wl_nil ?_
        refine xtn ?_
        refine c_cond S (fun h8 => ?_) (fun h8 => ?_)
        · refine c_seq ?_
          refine c_region ?_
          refine sq S ?_; clear S; intro a S
          refine wl_nil ?_
          refine xtn ?_
          refine c_ret ?_
          refine xbr ?_
          iterate 2 (refine xtr ?_)
          refine xbr ?_
          refine xtr ?_
          exact end1 S (fun _ => ⟨_, rfl, fun h => by cases h⟩)
        · refine c_skip ?_
          refine xbn ?_
          refine xtn ?_
          refine c_region ?_
          iterate 2 (refine sq S ?_; clear S; intro a S)
          refine wl_nil ?_
          refine xtn ?_
          have h30 : k < 30 := by simp at h5; omega
          have hle : n + r ≤ 120 := by simp at h8; omega
          obtain ⟨hr4, hr5⟩ := hr3 (by omega)
          have hpos := cnt_pos (nthL xs k).t
          rw [w64 ((k : Int) + 1) (by omega) (by omega)] at S
          refine ⟨k + 1, ⟨hkl, h30, fun x hx => ?_, n + r, by omega, hle, S.uu, S.sub _ _⟩, by omega⟩
          rw [List.take_add_one, nth_get hkl] at hx
          rcases List.mem_append.1 hx with hx | hx
          · exact hth x hx
          · have : x = nthL xs k := by simpa using hx
            rw [this]; exact ⟨by omega, by omega⟩
    · refine c_exit ?_
      iterate 2 (refine xte ?_)
      refine xbe ?_
      refine xtn ?_
      refine c_seq ?_
      refine c_region ?_
      refine sq S ?_; clear S; intro a S
      refine wl_nil ?_
      refine xtn ?_
      refine c_ret ?_
      refine end1 S (fun _ => ⟨_, rfl, fun _ => ⟨by simp at h3; omega, fun x hx => hth x ?_⟩⟩)
      rw [List.take_of_length_le (by simp at h3; omega)]; exact hx
theorem rightl_c (xs : List LTerm) (p : Option Addr) (c : Nat) (w0 : World) (hl : xs.length ≤ 100000) (hx : Stable (fun _ => False) w0 (LsF p 0 xs)) : Ret Try.prog 69 [.slice p xs.length c] w0 (fun _ => False) fun v _ => ∃ b, v = .bool b ∧ (b = true → ∀ x ∈ xs, Good x.t) := by
  refine enter Try.func69 rfl rfl (Wd.begin (fs := [LsF p 0 xs]) (by simpa using hx)) (fun a S => ?_)
  simp only [Try.ntmps69, List.length_cons, List.length_nil, Nat.reduceAdd, Nat.reduceSub, List.replicate_succ, List.replicate_zero, List.cons_append, List.nil_append] at S
  refine c_seq ?_
  refine c_region ?_
  refine sq S ?_; clear S; intro a S
  refine wl_nil ?_
  refine xtn ?_
  iterate 2 (refine c_seq ?_)
  refine c_region ?_
  iterate 3 (refine sq S ?_; clear S; intro a S)
  refine wl_nil ?_
  refine xtn ?_
  refine c_block ?_
  refine c_loop (ι := Nat) (fun k a w => k ≤ xs.length ∧ (∀ x ∈ xs.take k, Good x.t) ∧ ∃ uu : Nat → Value,  St w0 (fun _ => False) [] a w (uu 0 :: uu 1 :: uu 2 :: uu 3 :: uu 4 :: (.slice p xs.length c) :: (.int .i64 xs.length) :: (.int .i64 (k : Nat)) :: uu 8 :: uu 9 :: uu 10 :: uu 11 :: uu 12 :: uu 13 :: uu 14 :: []) [] [LsF p 0 xs]) (fun k => xs.length - k) 0 ?_ ?_
  · exact ⟨Nat.zero_le _, by simp, S.uu, S⟩
  · clear S
    rintro k a w ⟨hk, hgood, uu, S⟩
    refine c_seq ?_
    refine c_region ?_
    refine sq S ?_; clear S; intro a S
    refine wl_nil ?_
    refine xtn ?_
    refine c_seq ?_
    refine c_cond S (fun h2 => ?_) (fun h2 => ?_)
    · refine c_skip ?_
      refine xtn ?_
      refine c_seq ?_
      refine c_block ?_
      refine c_seq ?_
      have hkl : k < xs.length := by simp at h2; omega
      have hK : KLt k xs.length := ⟨hkl⟩
      refine c_region ?_
      iterate 2 (refine sq S ?_; clear S; intro a S)
      refine sa S ?_; clear S; intro b4 a w S
      refine sw S ?_; clear S; intro a w S
      refine wl_nil ?_
      refine xtn ?_
      refine c_seq ?_
      refine c_region ?_
      refine sq S ?_; clear S; intro a S
      refine sc S ?_; clear S; intro a w S
      refine sq S ?_; clear S; intro a S
      refine wl_nil ?_
      refine xtn ?_
      refine c_cond S (fun h4 => ?_) (fun h4 => ?_)
      · refine c_seq ?_
        refine c_region ?_
        refine sq S ?_; clear S; intro a S
        refine wl_nil ?_
        refine xtn ?_
        refine c_ret ?_
        refine xbr ?_
        iterate 2 (refine xtr ?_)
        refine xbr ?_
        refine xtr ?_
        exact end1 S (fun _ => ⟨_, rfl, fun h => by cases h⟩)
      · refine c_skip ?_
        refine xbn ?_
        refine xtn ?_
        refine c_region ?_
        iterate 2 (refine sq S ?_; clear S; intro a S)
        refine wl_nil ?_
        refine xtn ?_
        have hr : rightF (nthL xs k).t = true := by simpa using h4
        rw [w64 ((k : Int) + 1) (by omega) (by omega)] at S
        refine ⟨k + 1, ⟨hkl, fun x hx => ?_, S.uu, S.sub _ _⟩, by omega⟩
        rw [List.take_add_one, nth_get hkl] at hx
        rcases List.mem_append.1 hx with hx | hx
        · exact hgood x hx
        · have : x = nthL xs k := by simpa using hx
          rw [this, ← good_check, check_zero]; exact hr
    · refine c_exit ?_
      iterate 2 (refine xte ?_)
      refine xbe ?_
      refine xtn ?_
      refine c_seq ?_
      refine c_region ?_
      refine sq S ?_; clear S; intro a S
      refine wl_nil ?_
      refine xtn ?_
      refine c_ret ?_
      refine end1 S (fun _ => ⟨_, rfl, fun _ x hx => hgood x ?_⟩)
      rw [List.take_of_length_le (by simp at h2; omega)]; exact hx
theorem fine_c (xs : List LTerm) (p : Option Addr) (c : Nat) (w0 : World) (hx : Stable (fun _ => False) w0 (LsF p 0 xs)) : Ret Try.prog 31 [.slice p xs.length c] w0 (fun _ => False) fun v _ => ∃ b, v = .bool b ∧ (b = true → xs.length ≤ 30 ∧ (∀ x ∈ xs, Good x.t) ∧ ∀ x ∈ xs, Thin x.t) := by
  refine enter Try.func31 rfl rfl (Wd.begin (fs := [LsF p 0 xs]) (by simpa using hx)) (fun a S => ?_)
  simp only [Try.ntmps31, List.length_cons, List.length_nil, Nat.reduceAdd, Nat.reduceSub, List.replicate_succ, List.replicate_zero, List.cons_append, List.nil_append] at S
  refine c_seq ?_
  refine c_region ?_
  refine sq S ?_; clear S; intro a S
  refine wl_nil ?_
  refine xtn ?_
  refine c_seq ?_
  refine c_region ?_
  refine sq S ?_; clear S; intro a S
  refine sr S (large_c xs p c w0 (S.mem.fact0 (LsF p 0 xs))) ?_; clear S; rintro _ a w ⟨b1, rfl, hb1⟩ S
  iterate 2 (refine sq S ?_; clear S; intro a S)
  refine gS S (fun hs S => ?_) (fun hs S => ?_)
  · refine gT S ?_
    refine sq S ?_; clear S; intro a S
    refine gT S ?_
    obtain ⟨hlen, hth⟩ := hb1 (by simpa using hs)
    refine sr S (rightl_c xs p c w (by omega) (S.mem.fact0 (LsF p 0 xs))) ?_; clear S; rintro _ a w ⟨b2, rfl, hb2⟩ S
    iterate 2 (refine sq S ?_; clear S; intro a S)
    refine wl_nil ?_
    refine xtn ?_
    refine c_ret ?_
    exact end1 S (fun _ => ⟨_, rfl, fun h => ⟨hlen, hb2 h, hth⟩⟩)
  · refine gF S ?_; clear S; intro a S
    refine gF S ?_; clear S; intro a S
    iterate 2 (refine sq S ?_; clear S; intro a S)
    refine wl_nil ?_
    refine xtn ?_
    refine c_ret ?_
    exact end1 S (fun _ => ⟨_, rfl, fun h => by cases h⟩)
end Go.Proofs.Ytajmjbboahmdkaa
