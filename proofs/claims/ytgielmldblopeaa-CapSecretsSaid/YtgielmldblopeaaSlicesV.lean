/- Package slices over terms: Clone, Grow, Concat, AppendSeq, Delete. -/
import Derived.Test.YtgielmldblopeaaTermC
import Derived.Test.YtgielmldblopeaaW4
namespace Go.Proofs.Ytgielmldblopeaa
open Go Go.Wk
set_option synthInstance.maxSize 100000
set_option synthInstance.maxHeartbeats 400000
set_option maxRecDepth 100000

theorem clone_c (xs : List LTerm) (p : Option Addr) (n c : Nat) (w0 : World) (hn : xs.length = n) (hl : n ≤ 10000000) (hx : Stable (fun _ => False) w0 (LsF p 0 xs)) :
    Ret Try.prog 89 [.slice p n c] w0 (fun _ => False) fun v w' => ∃ p' c', v = .slice p' n c' ∧ w'.ownsRow 0 35 5 (.slice p' n c') n (encL xs) ∧ ∀ ad, p' = some ad → w0.heap.size ≤ ad.block := by
  refine enter Try.func89 rfl rfl (Wd.begin (fs := [LsF p 0 xs]) (by simpa using hx)) (fun a S => ?_)
  simp only [Try.ntmps89, List.length_cons, List.length_nil, Nat.reduceAdd, Nat.reduceSub, List.replicate_succ, List.replicate_zero, List.cons_append, List.nil_append] at S
  refine c_seq ?_
  refine c_region ?_
  refine sq S ?_; clear S; intro a S
  refine wl_nil ?_
  refine xtn ?_
  iterate 2 (refine c_seq ?_)
  refine c_region ?_
  iterate 2 (refine sq S ?_; clear S; intro a S)
  refine wl_nil ?_
  refine xtn ?_
  refine c_cond S (fun h1 => ?_) (fun h1 => ?_)
  · refine c_seq ?_
    refine c_region ?_
    refine sq S ?_; clear S; intro a S
    refine wl_nil ?_
    refine xtn ?_
    refine c_ret ?_
    refine xtr ?_
    have hp : p = none := by simpa using h1
    subst hp
    have hx0 := hx.now.nil_of
    subst hx0
    simp at hn
    subst hn
    refine end1 S (fun _ => ?_)
    exact ⟨none, 0, rfl, World.ownsRow_nil _ _ _ _, fun _ h => by cases h⟩
  · refine c_skip ?_
    refine xtn ?_
    refine c_seq ?_
    refine c_region ?_
    refine sn S ?_; clear S; intro b5 a w S
    refine sq S ?_; clear S; intro a S
    replace S := S.boxRow b5 5 0 rfl (by omega)
    have hN : LenN xs n := ⟨hn⟩
    refine sap S (by simp [maxLen]; omega) (by omega) ?_; clear S; rintro p2 c2 a w - S
    rw [List.nil_append, Nat.zero_add] at S
    refine sq S ?_; clear S; intro a S
    refine wl_nil ?_
    refine xtn ?_
    refine c_ret ?_
    have hrow := S.row p2 n
    have hnew := S.rowNew p2 n
    refine end1 S (fun _ => ?_)
    exact ⟨p2, c2, rfl, hrow, fun ad h => (hnew ad h).elim (fun h => h.elim) id⟩
theorem grow_c (n : Nat) (w0 : World) (hl : n ≤ 10000000) :
    Ret Try.prog 129 [.slice none 0 0, .int .i64 n] w0 (fun _ => False) fun v w' => ∃ p' c', v = .slice p' 0 c' ∧ w'.ownsRow 0 35 5 (.slice p' 0 c') 0 [] ∧ ∀ ad, p' = some ad → w0.heap.size ≤ ad.block := by
  refine enter Try.func129 rfl rfl (Wd.start w0) (fun a S => ?_)
  simp only [Try.ntmps129, List.length_cons, List.length_nil, Nat.reduceAdd, Nat.reduceSub, List.replicate_succ, List.replicate_zero, List.cons_append, List.nil_append] at S
  refine c_seq ?_
  refine c_region ?_
  refine sq S ?_; clear S; intro a S
  refine wl_nil ?_
  refine xtn ?_
  iterate 2 (refine c_seq ?_)
  refine c_region ?_
  iterate 2 (refine sq S ?_; clear S; intro a S)
  rw [show decide ((n : Int) < 0) = false from by simp] at S
  refine wl_nil ?_
  refine xtn ?_
  refine c_condF S ?_
  refine c_skip ?_
  refine xtn ?_
  iterate 2 (refine c_seq ?_)
  refine c_region ?_
  iterate 6 (refine sq S ?_; clear S; intro a S)
  rw [show IntKind.i64.wrap (((0 : Nat) : Int) - ((0 : Nat) : Int)) = 0 from rfl] at S
  refine sq S ?_; clear S; intro a S
  rw [show IntKind.i64.wrap ((n : Int) - 0) = n from by rw [Int.sub_zero]; exact w64 _ (by omega) (by omega)] at S
  refine sq S ?_; clear S; intro a S
  refine wl_nil ?_
  refine xtn ?_
  refine c_seq ?_
  refine c_region ?_
  iterate 2 (refine sq S ?_; clear S; intro a S)
  refine wl_nil ?_
  refine xtn ?_
  refine c_cond S (fun h4 => ?_) (fun h4 => ?_)
  · refine c_region ?_
    iterate 3 (refine sq S ?_; clear S; intro a S)
    refine ssl S ?_ ?_ ?_ ?_; omega; omega; omega; clear S; intro a S
    rw [if_pos rfl] at S
    refine sq S ?_; clear S; intro a S
    have hn0 : 0 < n := by simp at h4; omega
    refine sapz S hn0 (by omega) (by simp [maxLen]; omega) (by omega) ?_; clear S; intro b22 c22 zs a w S
    iterate 2 (refine sq S ?_; clear S; intro a S)
    refine scut S (by omega) ?_; clear S; intro a S
    rw [Nat.zero_mul, List.take_zero] at S
    refine sq S ?_; clear S; intro a S
    refine wl_nil ?_
    refine xtn ?_
    refine c_seq ?_
    refine c_region ?_
    iterate 2 (refine sq S ?_; clear S; intro a S)
    refine wl_nil ?_
    refine xtn ?_
    refine c_ret ?_
    have hrow := S.row (some ⟨b22, 0, none⟩) 0
    have hnew := S.rowNew (some ⟨b22, 0, none⟩) 0
    refine end1 S (fun _ => ?_)
    exact ⟨_, _, rfl, hrow, fun ad h => (hnew ad h).elim (fun h => h.elim) id⟩
  · refine c_skip ?_
    refine xtn ?_
    refine c_seq ?_
    refine c_region ?_
    iterate 2 (refine sq S ?_; clear S; intro a S)
    refine wl_nil ?_
    refine xtn ?_
    refine c_ret ?_
    refine end1 S (fun _ => ?_)
    exact ⟨none, 0, rfl, World.ownsRow_nil _ _ _ _, fun _ h => by cases h⟩
theorem cut0 (c : Nat) (p : Option Addr) : (if c = 0 then p else p.map (·.add (0 * 5))) = p := by
  split
  · rfl
  · cases p <;> simp [Addr.add]
theorem encL_drop (xs : List LTerm) (k : Nat) (h : k ≤ xs.length) : (encL xs).drop (k * 5) = encL (xs.drop k) := by
  have e : encL xs = encL (xs.take k) ++ encL (xs.drop k) := by rw [← encL_append, List.take_append_drop]
  have hl : (encL (xs.take k)).length = k * 5 := by rw [encL_len, List.length_take, Nat.min_eq_left h]; rfl
  rw [e, ← hl, List.drop_left]
theorem encL_erase (xs : List LTerm) (i : Nat) (h : i < xs.length) : (encL xs).take (i * 5) ++ (encL xs).drop ((i + 1) * 5) = encL (xs.eraseIdx i) := by
  have e1 : (encL xs).take (i * 5) = encL (xs.take i) := encL_take xs i
  rw [encL_drop xs (i + 1) h, e1, ← encL_append, List.eraseIdx_eq_take_drop_succ]
theorem delete_c (xs : List LTerm) (i : Nat) (p : Option Addr) (n c : Nat) (w0 : World) (hi : i < n) (hn : xs.length = n) (hl : n ≤ 10000000) (hown : w0.ownsRow 0 35 5 (.slice p n c) n (encL xs)) :
    Ret Try.prog 115 [.slice p n c, .int .i64 i, .int .i64 ((i + 1 : Nat) : Int)] w0 (fun k => ∃ ad, p = some ad ∧ k = ad.block) fun v w' =>
      v = .slice p (n - 1) c ∧ w'.ownsRow 0 35 5 (.slice p (n - 1) c) (n - 1) (encL (xs.eraseIdx i)) := by
  have hnc : n ≤ c := by
    obtain ⟨g, cur, _, _, hnc, _⟩ := own_cells hown (by omega)
    exact hnc
  have h1 : LeC n c := ⟨hnc⟩
  have h2 : LeC (i + 1) n := ⟨by omega⟩
  have h3 : LeC i (i + 1) := ⟨by omega⟩
  have h4 : LeC i c := ⟨by omega⟩
  have h5 : LeC 0 i := ⟨by omega⟩
  refine enter Try.func115 rfl rfl (Wd.rowLent (fs := []) hown (by simp)) (fun a S => ?_)
  simp only [Try.ntmps115, List.length_cons, List.length_nil, Nat.reduceAdd, Nat.reduceSub, List.replicate_succ, List.replicate_zero, List.cons_append, List.nil_append] at S
  refine c_seq ?_
  refine c_region ?_
  refine sq S ?_; clear S; intro a S
  refine wl_nil ?_
  refine xtn ?_
  refine c_seq ?_
  refine c_region ?_
  iterate 6 (refine sq S ?_; clear S; intro a S)
  refine wl_nil ?_
  refine xtn ?_
  iterate 2 (refine c_seq ?_)
  refine c_region ?_
  iterate 3 (refine sq S ?_; clear S; intro a S)
  rw [show decide ((i : Int) = ((i + 1 : Nat) : Int)) = false from by simp; omega] at S
  refine wl_nil ?_
  refine xtn ?_
  refine c_condF S ?_
  refine c_skip ?_
  refine xtn ?_
  refine c_seq ?_
  refine c_region ?_
  iterate 3 (refine sq S ?_; clear S; intro a S)
  refine wl_nil ?_
  refine xtn ?_
  refine c_seq ?_
  refine c_drawE [(0, true), (1, true), (2, true), (3, true), (4, true), (5, true), (6, false), (7, true)] [] S ?_; clear S; intro w S
  iterate 3 (refine dq S ?_; clear S; intro a S)
  rw [cut0, Nat.sub_zero, Nat.sub_zero] at S
  iterate 3 (refine dq S ?_; clear S; intro a S)
  refine dl ?_
  refine sapr p n S rfl rfl (by omega) (by omega) (by omega) ?_; clear S; intro a w S
  rw [show i + (n - (i + 1)) = n - 1 from by omega, encL_erase xs i (by omega)] at S
  have h6 : LeC (n - 1) n := ⟨by omega⟩
  refine de S ?_
  refine dq S ?_; clear S; intro a S
  refine dn ?_
  refine xtn ?_
  refine c_seq ?_
  refine c_region ?_
  iterate 5 (refine sq S ?_; clear S; intro a S)
  refine sclr p (n - 1) S rfl rfl (by omega) ?_; clear S; intro a w S
  refine wl_nil ?_
  refine xtn ?_
  refine c_seq ?_
  refine c_region ?_
  iterate 2 (refine sq S ?_; clear S; intro a S)
  refine wl_nil ?_
  refine xtn ?_
  refine c_ret ?_
  have hrow := S.row p (n - 1)
  refine end1 S (fun _ => ?_)
  exact ⟨rfl, hrow⟩
def preL (xs1 xs2 : List LTerm) (k : Nat) : List LTerm := ([xs1, xs2].take k).flatten
theorem preL_step (xs1 xs2 : List LTerm) (p1 p2 : Option Addr) (n1 n2 c1 c2 k : Nat) (h1 : xs1.length = n1) (h2 : xs2.length = n2) (hk : k < 2) (M : Nat → Prop) (w : World) (hx1 : Stable M w (LsF p1 0 xs1)) (hx2 : Stable M w (LsF p2 0 xs2)) :
    ∃ pk nk ck xk, [Value.slice p1 n1 c1, Value.slice p2 n2 c2][k]? = some (.slice pk nk ck) ∧ xk.length = nk ∧ Stable M w (LsF pk 0 xk) ∧ preL xs1 xs2 (k + 1) = preL xs1 xs2 k ++ xk := by
  match k, hk with
  | 0, _ => exact ⟨p1, n1, c1, xs1, rfl, h1, hx1, by simp [preL]⟩
  | 1, _ => exact ⟨p2, n2, c2, xs2, rfl, h2, hx2, by simp [preL]⟩
theorem preL_le (xs1 xs2 : List LTerm) (k : Nat) : (preL xs1 xs2 k).length ≤ xs1.length + xs2.length := by
  match k with
  | 0 => simp [preL]
  | 1 => simp [preL]
  | k + 2 => simp [preL]
theorem concat_c (xs1 xs2 : List LTerm) (p1 p2 : Option Addr) (n1 n2 c1 c2 q : Nat) (w0 : World) (h1 : xs1.length = n1) (h2 : xs2.length = n2) (hl1 : n1 ≤ 1000000) (hl2 : n2 ≤ 1000000) (hx1 : Stable (fun _ => False) w0 (LsF p1 0 xs1)) (hx2 : Stable (fun _ => False) w0 (LsF p2 0 xs2))
    (hq : Stable (fun _ => False) w0 (BoxF q 23 [.slice p1 n1 c1, .slice p2 n2 c2])) :
    Ret Try.prog 93 [.slice (some ⟨q, 0, none⟩) 2 2] w0 (fun _ => False) fun v w' => ∃ p' c', v = .slice p' (n1 + n2) c' ∧ w'.ownsRow 0 35 5 (.slice p' (n1 + n2) c') (n1 + n2) (encL (xs1 ++ xs2)) ∧ ∀ ad, p' = some ad → w0.heap.size ≤ ad.block := by
  have hle := preL_le xs1 xs2
  refine enter Try.func93 rfl rfl (Wd.begin (fs := [BoxF q 23 [.slice p1 n1 c1, .slice p2 n2 c2], LsF p1 0 xs1, LsF p2 0 xs2]) (by simp; exact ⟨hq, hx1, hx2⟩)) (fun a S => ?_)
  simp only [Try.ntmps93, List.length_cons, List.length_nil, Nat.reduceAdd, Nat.reduceSub, List.replicate_succ, List.replicate_zero, List.cons_append, List.nil_append] at S
  refine c_seq ?_
  refine c_region ?_
  refine sq S ?_; clear S; intro a S
  refine wl_nil ?_
  refine xtn ?_
  refine c_seq ?_
  refine c_region ?_
  refine sq S ?_; clear S; intro a S
  refine wl_nil ?_
  refine xtn ?_
  iterate 2 (refine c_seq ?_)
  refine c_region ?_
  iterate 3 (refine sq S ?_; clear S; intro a S)
  refine wl_nil ?_
  refine xtn ?_
  refine c_block ?_
  refine c_loop (ι := Nat) (fun k a w => k ≤ 2 ∧ ∃ uu : Nat → Value,  St w0 (fun _ => False) [] a w ((.slice (some ⟨q, 0, none⟩) 2 2) :: uu 1 :: uu 2 :: (.int .i64 ((preL xs1 xs2 k).length : Nat)) :: uu 4 :: uu 5 :: uu 6 :: uu 7 :: uu 8 :: (.slice (some ⟨q, 0, none⟩) 2 2) :: (.int .i64 ((2 : Nat) : Int)) :: (.int .i64 (k : Nat)) :: uu 12 :: uu 13 :: uu 14 :: uu 15 :: uu 16 :: uu 17 :: uu 18 :: uu 19 :: uu 20 :: uu 21 :: uu 22 :: uu 23 :: uu 24 :: uu 25 :: uu 26 :: uu 27 :: uu 28 :: uu 29 :: uu 30 :: uu 31 :: uu 32 :: uu 33 :: uu 34 :: uu 35 :: []) [] [BoxF q 23 [.slice p1 n1 c1, .slice p2 n2 c2], LsF p1 0 xs1, LsF p2 0 xs2]) (fun k => 2 - k) 0 ?_ ?_
  · exact ⟨by omega, S.uu, S⟩
  · clear S
    rintro k a w ⟨hk, uu, S⟩
    refine c_seq ?_
    refine c_region ?_
    refine sq S ?_; clear S; intro a S
    refine wl_nil ?_
    refine xtn ?_
    refine c_seq ?_
    refine c_cond S (fun h3 => ?_) (fun h3 => ?_)
    · refine c_skip ?_
      refine xtn ?_
      refine c_seq ?_
      refine c_block ?_
      refine c_seq ?_
      have hkl : k < 2 := by simp at h3; omega
      have hK : KLt k 2 := ⟨hkl⟩
      obtain ⟨pk, nk, ck, xk, hcell, hlk, hsk, hpre⟩ := preL_step xs1 xs2 p1 p2 n1 n2 c1 c2 k h1 h2 hkl _ w (S.fact (Φ := LsF p1 0 xs1) (by simp)) (S.fact (Φ := LsF p2 0 xs2) (by simp))
      have hpl := congrArg List.length hpre
      rw [List.length_append] at hpl
      have hk1 := hle (k + 1)
      refine c_region ?_
      refine sq S ?_; clear S; intro a S
      refine sl1 (.slice pk nk ck) S (by
        have hb : w.heap[q]? = some (.cells #[.slice p1 n1 c1, .slice p2 n2 c2] 23 (0, 0)) := (S.fact (Φ := BoxF q 23 [.slice p1 n1 c1, .slice p2 n2 c2]) (by simp)).now
        rw [cell_of_row w q k _ 23 (0, 0) hb]; simpa using hcell) ?_; clear S; intro a S
      refine sq S ?_; clear S; intro a S
      refine wl_nil ?_
      refine xtn ?_
      refine c_seq ?_
      refine c_region ?_
      iterate 5 (refine sq S ?_; clear S; intro a S)
      refine wl_nil ?_
      refine xtn ?_
      refine c_seq ?_
      refine c_region ?_
      iterate 2 (refine sq S ?_; clear S; intro a S)
      rw [w64 _ (by omega) (by omega)] at S
      rw [decide_eq_false (show ¬ (((preL xs1 xs2 k).length : Int) + (nk : Int) < 0) by omega)] at S
      refine wl_nil ?_
      refine xtn ?_
      refine c_condF S ?_
      refine c_skip ?_
      refine xbn ?_
      refine xtn ?_
      refine c_region ?_
      iterate 2 (refine sq S ?_; clear S; intro a S)
      refine wl_nil ?_
      refine xtn ?_
      rw [w64 ((k : Int) + 1) (by omega) (by omega)] at S
      rw [show ((preL xs1 xs2 k).length : Int) + (nk : Int) = ((preL xs1 xs2 (k + 1)).length : Nat) from by omega] at S
      exact ⟨k + 1, ⟨hkl, S.uu, S⟩, by omega⟩
    · refine c_exit ?_
      iterate 2 (refine xte ?_)
      refine xbe ?_
      refine xtn ?_
      refine c_seq ?_
      have hk2 : k = 2 := by simp at h3; omega
      subst hk2
      have hfl : (preL xs1 xs2 2) = xs1 ++ xs2 := by simp [preL]
      have hfn : (preL xs1 xs2 2).length = n1 + n2 := by rw [hfl, List.length_append, h1, h2]
      refine c_region ?_
      refine sq S ?_; clear S; intro a S
      refine srn S (grow_c _ w (by omega)) ?_; clear S; rintro _ a w ⟨pg, cg, rfl, hown, hnew⟩ hS -
      have S := hS hown hnew
      clear hS hown hnew
      refine sq S ?_; clear S; intro a S
      refine wl_nil ?_
      refine xtn ?_
      iterate 2 (refine c_seq ?_)
      refine c_region ?_
      iterate 3 (refine sq S ?_; clear S; intro a S)
      refine wl_nil ?_
      refine xtn ?_
      refine c_block ?_
      refine c_loop (ι := Nat) (fun k a w => k ≤ 2 ∧ ∃ p c, ∃ uu : Nat → Value,  St w0 (fun _ => False) [] a w ((.slice (some ⟨q, 0, none⟩) 2 2) :: uu 1 :: uu 2 :: uu 3 :: uu 4 :: uu 5 :: (.slice p (preL xs1 xs2 k).length c) :: uu 7 :: uu 8 :: uu 9 :: uu 10 :: uu 11 :: uu 12 :: uu 13 :: uu 14 :: uu 15 :: uu 16 :: uu 17 :: uu 18 :: uu 19 :: uu 20 :: uu 21 :: uu 22 :: uu 23 :: uu 24 :: (.slice (some ⟨q, 0, none⟩) 2 2) :: (.int .i64 ((2 : Nat) : Int)) :: (.int .i64 (k : Nat)) :: uu 28 :: uu 29 :: uu 30 :: uu 31 :: uu 32 :: uu 33 :: uu 34 :: uu 35 :: []) [Wk.row 35 5 p (preL xs1 xs2 k).length c (encL (preL xs1 xs2 k))] [BoxF q 23 [.slice p1 n1 c1, .slice p2 n2 c2], LsF p1 0 xs1, LsF p2 0 xs2]) (fun k => 2 - k) 0 ?_ ?_
      · exact ⟨by omega, _, _, S.uu, S⟩
      · clear S
        rintro k a w ⟨hk, p, c, uu, S⟩
        refine c_seq ?_
        refine c_region ?_
        refine sq S ?_; clear S; intro a S
        refine wl_nil ?_
        refine xtn ?_
        refine c_seq ?_
        refine c_cond S (fun h11 => ?_) (fun h11 => ?_)
        · refine c_skip ?_
          refine xtn ?_
          refine c_seq ?_
          refine c_block ?_
          refine c_seq ?_
          have hkl : k < 2 := by simp at h11; omega
          have hK : KLt k 2 := ⟨hkl⟩
          obtain ⟨pk, nk, ck, xk, hcell, hlk, hsk, hpre⟩ := preL_step xs1 xs2 p1 p2 n1 n2 c1 c2 k h1 h2 hkl _ w (S.fact (Φ := LsF p1 0 xs1) (by simp)) (S.fact (Φ := LsF p2 0 xs2) (by simp))
          have hpl := congrArg List.length hpre
          rw [List.length_append] at hpl
          have hk1 := hle (k + 1)
          replace S := S.add hsk
          have hNk : LenN xk nk := ⟨hlk⟩
          refine c_region ?_
          refine sq S ?_; clear S; intro a S
          refine sl1 (.slice pk nk ck) S (by
            have hb : w.heap[q]? = some (.cells #[.slice p1 n1 c1, .slice p2 n2 c2] 23 (0, 0)) := (S.fact (Φ := BoxF q 23 [.slice p1 n1 c1, .slice p2 n2 c2]) (by simp)).now
            rw [cell_of_row w q k _ 23 (0, 0) hb]; simpa using hcell) ?_; clear S; intro a S
          refine sq S ?_; clear S; intro a S
          refine wl_nil ?_
          refine xtn ?_
          refine c_region ?_
          iterate 2 (refine sq S ?_; clear S; intro a S)
          refine sap S (by simp [maxLen]; omega) (by omega) ?_; clear S; rintro p2' c2' a w - S
          rw [← encL_append, ← hpre, show (preL xs1 xs2 k).length + nk = (preL xs1 xs2 (k + 1)).length from by omega] at S
          replace S := S.sub [Wk.row 35 5 p2' (preL xs1 xs2 (k + 1)).length c2' (encL (preL xs1 xs2 (k + 1)))] [BoxF q 23 [.slice p1 n1 c1, .slice p2 n2 c2], LsF p1 0 xs1, LsF p2 0 xs2]
          refine sq S ?_; clear S; intro a S
          refine wl_nil ?_
          refine xbn ?_
          refine xtn ?_
          refine c_region ?_
          iterate 2 (refine sq S ?_; clear S; intro a S)
          refine wl_nil ?_
          refine xtn ?_
          rw [w64 ((k : Int) + 1) (by omega) (by omega)] at S
          exact ⟨k + 1, ⟨hkl, _, _, S.uu, S⟩, by omega⟩
        · refine c_exit ?_
          iterate 2 (refine xte ?_)
          refine xbe ?_
          refine xtn ?_
          refine c_seq ?_
          refine c_region ?_
          iterate 2 (refine sq S ?_; clear S; intro a S)
          refine wl_nil ?_
          refine xtn ?_
          refine c_ret ?_
          have hk2 : k = 2 := by simp at h11; omega
          subst hk2
          have hrow := S.row p (preL xs1 xs2 2).length
          have hnew := S.rowNew p (preL xs1 xs2 2).length
          refine end1 S (fun _ => ?_)
          rw [hfn, hfl] at hrow
          exact ⟨p, c, by rw [hfn], hrow, fun ad h => (hnew ad h).elim (fun h => h.elim) id⟩
theorem own_put {A Z vs : List Value} (o : Nat) (k : Nat) (h : A.length = o) (hz : Z.length = vs.length) (hk : k = o) : (A ++ Z).take o ++ vs ++ (A ++ Z).drop (k + vs.length) = A ++ vs := by
  subst h hk
  rw [List.take_left, List.drop_of_length_le (by rw [List.length_append, hz]; exact Nat.le_refl _), List.append_nil]
theorem appendSeq_c (gf : Nat) [EntF Try.prog gf] (lb : List Value) (ys : List LTerm) (xs : List Value) (fs0 : List (World → Prop)) (p : Option Addr) (n c : Nat) (w0 : World) (hl : n + ys.length ≤ 10000000) (hown : w0.ownsRow 0 35 5 (.slice p n c) n xs)
    (hfs : ∀ Φ ∈ fs0, Stable (fun k => ∃ ad, p = some ad ∧ k = ad.block) w0 Φ)
    (hit : ∀ (M : Nat → Prop) (w1 : World), (∀ k, M k → k < w1.heap.size) → (∀ Φ ∈ fs0, Stable M w1 Φ) → IterRet Try.prog gf lb w1 M (fun (x : LTerm) vs _ _ => vs = [vL x]) ys) :
    Ret Try.prog 114 [.slice p n c, .func (.func gf) #[] ⟨lb⟩] w0 (fun k => ∃ ad, p = some ad ∧ k = ad.block) fun v w' =>
      ∃ p' c', v = .slice p' (n + ys.length) c' ∧ w'.ownsRow 0 35 5 (.slice p' (n + ys.length) c') (n + ys.length) (xs ++ encL ys) ∧ ∀ ad, p' = some ad → (∃ ad', p = some ad' ∧ ad.block = ad'.block) ∨ w0.heap.size ≤ ad.block := by
  refine enterM Try.func114 rfl rfl (Wd.rowLent hown hfs) (fun a S => ?_)
  simp only [Try.ntmps114, List.length_cons, List.length_nil, Nat.reduceAdd, Nat.reduceSub, List.replicate_succ, List.replicate_zero, List.cons_append, List.nil_append] at S
  refine c_seq ?_
  refine c_region ?_
  refine sa S ?_; clear S; intro b2 a w S
  refine sq S ?_; clear S; intro a S
  refine wl_nil ?_
  refine xtn ?_
  iterate 2 (refine c_seq ?_)
  refine c_region ?_
  refine sq S ?_; clear S; intro a S
  refine wl_nil ?_
  refine xtn ?_
  refine c_block ?_
  refine c_range (κ := Option Addr × Nat) (κx := Empty) (Ds := []) ys
    (fun i k => [Wk.box b2 23 [.slice k.1 (n + i) k.2], marks [], Wk.row 35 5 k.1 (n + i) k.2 (xs ++ encL (ys.take i))]) (fun _ _ => fs0) (fun _ _ => True) (fun k => k.elim) (fun k => k.elim) (fun _ k => k.elim) (p, c) S (fun M w1 hM hF _ => hit M w1 hM hF) ⟨trivial, by simp [encL], rfl⟩ ?_ ?_ ?_ ?_
  · clear S
    rintro L D bL M w1 i x vs ⟨p, c⟩ W0 w hx - hW0 hgr rfl
    refine ⟨_, inferInstance, fun a S => ?_⟩
    have hil : i < ys.length := (List.getElem?_eq_some_iff.1 hx).1
    have hti : ys.take (i + 1) = ys.take i ++ [x] := by rw [List.take_add_one, hx]; rfl
    have hKL : KLt (n + i) (n + i + 1) := ⟨by omega⟩
    have hrl : (xs ++ encL (ys.take i)).length = (n + i) * 5 := S.row p (n + i) |>.1
    refine c_region ?_
    refine sa S ?_; clear S; intro b5 a w S
    refine sw S ?_; clear S; intro a w S
    refine wl_nil ?_
    refine xtn ?_
    refine rbegin (D := D) (b := bL) S ?_; clear S; intro a w S
    refine c_block ?_
    refine c_drawT (.q 1 (.b2 0 3 (.q 2 (.l 3 (.l 4 (.b2 5 7 (.b2 6 7 (.l 7 (.e)) (.l 6 (.e))) (.l 5 (.l 6 (.e))))))) (.l 0 (.q 2 (.l 4 (.b2 5 7 (.b2 6 7 (.l 7 (.e)) (.l 6 (.e))) (.l 5 (.l 6 (.e))))))))) [Wk.box b5 35 x.cells] S
      (fun a w => ∃ (p' : Option Addr) (c' : Nat) (l' : List Value), St w1 M [] a w l' [lpI L D (lpR bL .busy none), Wk.box b2 23 [.slice p' (n + (i + 1)) c'], marks [], Wk.row 35 5 p' (n + (i + 1)) c' (xs ++ encL (ys.take (i + 1)))] fs0) ?_ ?_
    · intro w S
      refine tq S ?_; clear S; intro a S
      refine tb2 ?_ ?_
      · refine sq S ?_; clear S; intro a S
        refine te S ?_
        refine tq S ?_; clear S; intro a S
        refine tl ?_
        refine sn S ?_; clear S; intro b11 a w S
        refine te S ?_
        refine tl ?_
        refine sap S (by simp [maxLen]; omega) (by omega) ?_; clear S; rintro p3 c3 a w - S
        refine te S ?_
        refine tb2 ?_ ?_
        · refine sq S ?_; clear S; intro a S
          refine te S ?_
          refine tb2 ?_ ?_
          · refine sws S (n + i + 1) (by omega) (by omega) ?_; clear S; intro a w S
            refine te S ?_
            refine tl ?_
            refine sw S ?_; clear S; intro a w S
            refine te S ?_
            refine tn ?_
            have e := own_put (A := xs ++ encL (ys.take i)) (Z := [.int .i64 0, .int .i64 0, .int .i64 0, .string ⟨#[]⟩, .slice none 0 0]) (vs := x.cells) _ _ hrl rfl rfl
            rw [e, List.append_assoc, ← encT_cells, ← encL_append, ← hti] at S
            exact ⟨p3, c3, _, S.sub _ _⟩
          · refine sw S ?_; clear S; intro a w S
            refine te S ?_
            refine tl ?_
            refine sws S (n + i + 1) (by omega) (by omega) ?_; clear S; intro a w S
            refine te S ?_
            refine tn ?_
            have e := own_put (A := xs ++ encL (ys.take i)) (Z := [.int .i64 0, .int .i64 0, .int .i64 0, .string ⟨#[]⟩, .slice none 0 0]) (vs := x.cells) _ _ hrl rfl rfl
            rw [e, List.append_assoc, ← encT_cells, ← encL_append, ← hti] at S
            exact ⟨p3, c3, _, S.sub _ _⟩
        · refine sw S ?_; clear S; intro a w S
          refine te S ?_
          refine tl ?_
          refine sq S ?_; clear S; intro a S
          refine te S ?_
          refine tl ?_
          refine sws S (n + i + 1) (by omega) (by omega) ?_; clear S; intro a w S
          refine te S ?_
          refine tn ?_
          have e := own_put (A := xs ++ encL (ys.take i)) (Z := [.int .i64 0, .int .i64 0, .int .i64 0, .string ⟨#[]⟩, .slice none 0 0]) (vs := x.cells) _ _ hrl rfl rfl
          rw [e, List.append_assoc, ← encT_cells, ← encL_append, ← hti] at S
          exact ⟨p3, c3, _, S.sub _ _⟩
      · refine sn S ?_; clear S; intro b11 a w S
        refine te S ?_
        refine tl ?_
        refine sq S ?_; clear S; intro a S
        refine te S ?_
        refine tq S ?_; clear S; intro a S
        refine tl ?_
        refine sap S (by simp [maxLen]; omega) (by omega) ?_; clear S; rintro p3 c3 a w - S
        refine te S ?_
        refine tb2 ?_ ?_
        · refine sq S ?_; clear S; intro a S
          refine te S ?_
          refine tb2 ?_ ?_
          · refine sws S (n + i + 1) (by omega) (by omega) ?_; clear S; intro a w S
            refine te S ?_
            refine tl ?_
            refine sw S ?_; clear S; intro a w S
            refine te S ?_
            refine tn ?_
            have e := own_put (A := xs ++ encL (ys.take i)) (Z := [.int .i64 0, .int .i64 0, .int .i64 0, .string ⟨#[]⟩, .slice none 0 0]) (vs := x.cells) _ _ hrl rfl rfl
            rw [e, List.append_assoc, ← encT_cells, ← encL_append, ← hti] at S
            exact ⟨p3, c3, _, S.sub _ _⟩
          · refine sw S ?_; clear S; intro a w S
            refine te S ?_
            refine tl ?_
            refine sws S (n + i + 1) (by omega) (by omega) ?_; clear S; intro a w S
            refine te S ?_
            refine tn ?_
            have e := own_put (A := xs ++ encL (ys.take i)) (Z := [.int .i64 0, .int .i64 0, .int .i64 0, .string ⟨#[]⟩, .slice none 0 0]) (vs := x.cells) _ _ hrl rfl rfl
            rw [e, List.append_assoc, ← encT_cells, ← encL_append, ← hti] at S
            exact ⟨p3, c3, _, S.sub _ _⟩
        · refine sw S ?_; clear S; intro a w S
          refine te S ?_
          refine tl ?_
          refine sq S ?_; clear S; intro a S
          refine te S ?_
          refine tl ?_
          refine sws S (n + i + 1) (by omega) (by omega) ?_; clear S; intro a w S
          refine te S ?_
          refine tn ?_
          have e := own_put (A := xs ++ encL (ys.take i)) (Z := [.int .i64 0, .int .i64 0, .int .i64 0, .string ⟨#[]⟩, .slice none 0 0]) (vs := x.cells) _ _ hrl rfl rfl
          rw [e, List.append_assoc, ← encT_cells, ← encL_append, ← hti] at S
          exact ⟨p3, c3, _, S.sub _ _⟩
    rintro a w ⟨p2, c2, l2, S⟩
    refine xbn ?_
    exact rnext (D := D) (b := bL) S fun W hW => ⟨(p2, c2), trivial, hW⟩
  · clear S
    rintro D ⟨p2, c2⟩ a w - S
    refine xbn ?_
    refine xtn ?_
    refine c_seq ?_
    refine c_region ?_
    iterate 2 (refine sq S ?_; clear S; intro a S)
    refine wl_nil ?_
    refine xtn ?_
    refine c_ret ?_
    replace S := S.join (Ds := [])
    have hrow := S.row p2 (n + ys.length)
    have hnew := S.rowNew p2 (n + ys.length)
    refine endM1 S (fun w hw => ?_)
    have h1 := hw.held (Wk.row 35 5 p2 (n + ys.length) c2 (xs ++ encL (ys.take ys.length))) (by simp)
    rw [List.take_length] at h1
    exact ⟨p2, c2, rfl, h1, hnew⟩
  · intro D k; exact k.elim
  · intro id D k; exact k.elim
end Go.Proofs.Ytgielmldblopeaa
