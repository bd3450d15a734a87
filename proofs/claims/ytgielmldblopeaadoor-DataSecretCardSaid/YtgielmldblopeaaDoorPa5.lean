/- 5: a part of this claim's texts, joined: SlicesV CloseD CloseE CloseF. -/
import Derived.Test.YtgielmldblopeaaDoorPa4
/- Package slices over terms: Clone, Grow, Concat, AppendSeq, Delete. -/
namespace Go.Proofs.YtgielmldblopeaaDoor
open Go Go.Wk
set_option synthInstance.maxSize 100000
set_option synthInstance.maxHeartbeats 400000
set_option maxRecDepth 100000

theorem clone_c (xs : List LTerm) (p : Option Addr) (n c : Nat) (w0 : World) (hn : xs.length = n) (hl : n ≤ 10000000) (hx : Stable (fun _ => False) w0 (LsF p 0 xs)) :
    Ret Tryd.prog 99 [.slice p n c] w0 (fun _ => False) fun v w' => ∃ p' c', v = .slice p' n c' ∧ w'.ownsRow 0 24 5 (.slice p' n c') n (encL xs) ∧ ∀ ad, p' = some ad → w0.heap.size ≤ ad.block := by
  refine enter Tryd.func99 rfl rfl (Wd.begin (fs := [LsF p 0 xs]) (by simpa using hx)) (fun a S => ?_)
  simp only [Tryd.ntmps99, List.length_cons, List.length_nil, Nat.reduceAdd, Nat.reduceSub, List.replicate_succ, List.replicate_zero, List.cons_append, List.nil_append] at S
  refine c_seq ?_
  refine c_region ?_
  refine sq S ?_; clear S; intro a S
  refine wl_nil ?_
  refine xtn ?_
  iterate 2 (refine c_seq ?_)
  refine c_region ?_
  iterate 2 (refine sq S ?_; clear S; intro a S)
  refine wl_nil ?_
  refine xtn ?_
  refine c_cond S (fun h1 => ?_) (fun h1 => ?_)
  · refine c_seq ?_
    refine c_region ?_
    refine sq S ?_; clear S; intro a S
    refine wl_nil ?_
    refine xtn ?_
    refine c_ret ?_
    refine xtr ?_
    have hp : p = none := by simpa using h1
    subst hp
    have hx0 := hx.now.nil_of
    subst hx0
    simp at hn
    subst hn
    refine end1 S (fun _ => ?_)
    exact ⟨none, 0, rfl, World.ownsRow_nil _ _ _ _, fun _ h => by cases h⟩
  · refine c_skip ?_
    refine xtn ?_
    refine c_seq ?_
    refine c_region ?_
    refine sn S ?_; clear S; intro b5 a w S
    refine sq S ?_; clear S; intro a S
    replace S := S.boxRow b5 5 0 rfl (by omega)
    have hN : LenN xs n := ⟨hn⟩
    refine sap S (by simp [maxLen]; omega) (by omega) ?_; clear S; rintro p2 c2 a w - S
    rw [List.nil_append, Nat.zero_add] at S
    refine sq S ?_; clear S; intro a S
    refine wl_nil ?_
    refine xtn ?_
    refine c_ret ?_
    have hrow := S.row p2 n
    have hnew := S.rowNew p2 n
    refine end1 S (fun _ => ?_)
    exact ⟨p2, c2, rfl, hrow, fun ad h => (hnew ad h).elim (fun h => h.elim) id⟩
theorem grow_c (n : Nat) (w0 : World) (hl : n ≤ 10000000) :
    Ret Tryd.prog 121 [.slice none 0 0, .int .i64 n] w0 (fun _ => False) fun v w' => ∃ p' c', v = .slice p' 0 c' ∧ w'.ownsRow 0 24 5 (.slice p' 0 c') 0 [] ∧ ∀ ad, p' = some ad → w0.heap.size ≤ ad.block := by
  refine enter Tryd.func121 rfl rfl (Wd.start w0) (fun a S => ?_)
  simp only [Tryd.ntmps121, List.length_cons, List.length_nil, Nat.reduceAdd, Nat.reduceSub, List.replicate_succ, List.replicate_zero, List.cons_append, List.nil_append] at S
  refine c_seq ?_
  refine c_region ?_
  refine sq S ?_; clear S; intro a S
  refine wl_nil ?_
  refine xtn ?_
  iterate 2 (refine c_seq ?_)
  refine c_region ?_
  iterate 2 (refine sq S ?_; clear S; intro a S)
  rw [show decide ((n : Int) < 0) = false from by simp] at S
  refine wl_nil ?_
  refine xtn ?_
  refine c_condF S ?_
  refine c_skip ?_
  refine xtn ?_
  iterate 2 (refine c_seq ?_)
  refine c_region ?_
  iterate 6 (refine sq S ?_; clear S; intro a S)
  rw [show IntKind.i64.wrap (((0 : Nat) : Int) - ((0 : Nat) : Int)) = 0 from rfl] at S
  refine sq S ?_; clear S; intro a S
  rw [show IntKind.i64.wrap ((n : Int) - 0) = n from by rw [Int.sub_zero]; exact w64 _ (by omega) (by omega)] at S
  refine sq S ?_; clear S; intro a S
  refine wl_nil ?_
  refine xtn ?_
  refine c_seq ?_
  refine c_region ?_
  iterate 2 (refine sq S ?_; clear S; intro a S)
  refine wl_nil ?_
  refine xtn ?_
  refine c_cond S (fun h4 => ?_) (fun h4 => ?_)
  · refine c_region ?_
    iterate 3 (refine sq S ?_; clear S; intro a S)
    refine ssl S ?_ ?_ ?_ ?_; omega; omega; omega; clear S; intro a S
    rw [if_pos rfl] at S
    refine sq S ?_; clear S; intro a S
    have hn0 : 0 < n := by simp at h4; omega
    refine sapz S hn0 (by omega) (by simp [maxLen]; omega) (by omega) ?_; clear S; intro b22 c22 zs a w S
    iterate 2 (refine sq S ?_; clear S; intro a S)
    refine scut S (by omega) ?_; clear S; intro a S
    rw [Nat.zero_mul, List.take_zero] at S
    refine sq S ?_; clear S; intro a S
    refine wl_nil ?_
    refine xtn ?_
    refine c_seq ?_
    refine c_region ?_
    iterate 2 (refine sq S ?_; clear S; intro a S)
    refine wl_nil ?_
    refine xtn ?_
    refine c_ret ?_
    have hrow := S.row (some ⟨b22, 0, none⟩) 0
    have hnew := S.rowNew (some ⟨b22, 0, none⟩) 0
    refine end1 S (fun _ => ?_)
    exact ⟨_, _, rfl, hrow, fun ad h => (hnew ad h).elim (fun h => h.elim) id⟩
  · refine c_skip ?_
    refine xtn ?_
    refine c_seq ?_
    refine c_region ?_
    iterate 2 (refine sq S ?_; clear S; intro a S)
    refine wl_nil ?_
    refine xtn ?_
    refine c_ret ?_
    refine end1 S (fun _ => ?_)
    exact ⟨none, 0, rfl, World.ownsRow_nil _ _ _ _, fun _ h => by cases h⟩
theorem cut0 (c : Nat) (p : Option Addr) : (if c = 0 then p else p.map (·.add (0 * 5))) = p := by
  split
  · rfl
  · cases p <;> simp [Addr.add]
theorem encL_drop (xs : List LTerm) (k : Nat) (h : k ≤ xs.length) : (encL xs).drop (k * 5) = encL (xs.drop k) := by
  have e : encL xs = encL (xs.take k) ++ encL (xs.drop k) := by rw [← encL_append, List.take_append_drop]
  have hl : (encL (xs.take k)).length = k * 5 := by rw [encL_len, List.length_take, Nat.min_eq_left h]; rfl
  rw [e, ← hl, List.drop_left]
theorem encL_erase (xs : List LTerm) (i : Nat) (h : i < xs.length) : (encL xs).take (i * 5) ++ (encL xs).drop ((i + 1) * 5) = encL (xs.eraseIdx i) := by
  have e1 : (encL xs).take (i * 5) = encL (xs.take i) := encL_take xs i
  rw [encL_drop xs (i + 1) h, e1, ← encL_append, List.eraseIdx_eq_take_drop_succ]
theorem delete_c (xs : List LTerm) (i : Nat) (p : Option Addr) (n c : Nat) (w0 : World) (hi : i < n) (hn : xs.length = n) (hl : n ≤ 10000000) (hown : w0.ownsRow 0 24 5 (.slice p n c) n (encL xs)) :
    Ret Tryd.prog 103 [.slice p n c, .int .i64 i, .int .i64 ((i + 1 : Nat) : Int)] w0 (fun k => ∃ ad, p = some ad ∧ k = ad.block) fun v w' =>
      v = .slice p (n - 1) c ∧ w'.ownsRow 0 24 5 (.slice p (n - 1) c) (n - 1) (encL (xs.eraseIdx i)) := by
  have hnc : n ≤ c := by
    obtain ⟨g, cur, _, _, hnc, _⟩ := own_cells hown (by omega)
    exact hnc
  have h1 : LeC n c := ⟨hnc⟩
  have h2 : LeC (i + 1) n := ⟨by omega⟩
  have h3 : LeC i (i + 1) := ⟨by omega⟩
  have h4 : LeC i c := ⟨by omega⟩
  have h5 : LeC 0 i := ⟨by omega⟩
  refine enter Tryd.func103 rfl rfl (Wd.rowLent (fs := []) hown (by simp)) (fun a S => ?_)
  simp only [Tryd.ntmps103, List.length_cons, List.length_nil, Nat.reduceAdd, Nat.reduceSub, List.replicate_succ, List.replicate_zero, List.cons_append, List.nil_append] at S
  refine c_seq ?_
  refine c_region ?_
  refine sq S ?_; clear S; intro a S
  refine wl_nil ?_
  refine xtn ?_
  refine c_seq ?_
  refine c_region ?_
  iterate 6 (refine sq S ?_; clear S; intro a S)
  refine wl_nil ?_
  refine xtn ?_
  iterate 2 (refine c_seq ?_)
  refine c_region ?_
  iterate 3 (refine sq S ?_; clear S; intro a S)
  rw [show decide ((i : Int) = ((i + 1 : Nat) : Int)) = false from by simp; omega] at S
  refine wl_nil ?_
  refine xtn ?_
  refine c_condF S ?_
  refine c_skip ?_
  refine xtn ?_
  refine c_seq ?_
  refine c_region ?_
  iterate 3 (refine sq S ?_; clear S; intro a S)
  refine wl_nil ?_
  refine xtn ?_
  refine c_seq ?_
  refine c_drawE [(0, true), (1, true), (2, true), (3, true), (4, true), (5, true), (6, false), (7, true)] [] S ?_; clear S; intro w S
  iterate 3 (refine dq S ?_; clear S; intro a S)
  rw [cut0, Nat.sub_zero, Nat.sub_zero] at S
  iterate 3 (refine dq S ?_; clear S; intro a S)
  refine dl ?_
  refine sapr p n S rfl rfl (by omega) (by omega) (by omega) ?_; clear S; intro a w S
  rw [show i + (n - (i + 1)) = n - 1 from by omega, encL_erase xs i (by omega)] at S
  have h6 : LeC (n - 1) n := ⟨by omega⟩
  refine de S ?_
  refine dq S ?_; clear S; intro a S
  refine dn ?_
  refine xtn ?_
  refine c_seq ?_
  refine c_region ?_
  iterate 5 (refine sq S ?_; clear S; intro a S)
  refine sclr p (n - 1) S rfl rfl (by omega) ?_; clear S; intro a w S
  refine wl_nil ?_
  refine xtn ?_
  refine c_seq ?_
  refine c_region ?_
  iterate 2 (refine sq S ?_; clear S; intro a S)
  refine wl_nil ?_
  refine xtn ?_
  refine c_ret ?_
  have hrow := S.row p (n - 1)
  refine end1 S (fun _ => ?_)
  exact ⟨rfl, hrow⟩
def preL (xs1 xs2 : List LTerm) (k : Nat) : List LTerm := ([xs1, xs2].take k).flatten
theorem preL_step (xs1 xs2 : List LTerm) (p1 p2 : Option Addr) (n1 n2 c1 c2 k : Nat) (h1 : xs1.length = n1) (h2 : xs2.length = n2) (hk : k < 2) (M : Nat → Prop) (w : World) (hx1 : Stable M w (LsF p1 0 xs1)) (hx2 : Stable M w (LsF p2 0 xs2)) :
    ∃ pk nk ck xk, [Value.slice p1 n1 c1, Value.slice p2 n2 c2][k]? = some (.slice pk nk ck) ∧ xk.length = nk ∧ Stable M w (LsF pk 0 xk) ∧ preL xs1 xs2 (k + 1) = preL xs1 xs2 k ++ xk := by
  match k, hk with
  | 0, _ => exact ⟨p1, n1, c1, xs1, rfl, h1, hx1, by simp [preL]⟩
  | 1, _ => exact ⟨p2, n2, c2, xs2, rfl, h2, hx2, by simp [preL]⟩
theorem preL_le (xs1 xs2 : List LTerm) (k : Nat) : (preL xs1 xs2 k).length ≤ xs1.length + xs2.length := by
  match k with
  | 0 => simp [preL]
  | 1 => simp [preL]
  | k + 2 => simp [preL]
theorem concat_c (xs1 xs2 : List LTerm) (p1 p2 : Option Addr) (n1 n2 c1 c2 q : Nat) (w0 : World) (h1 : xs1.length = n1) (h2 : xs2.length = n2) (hl1 : n1 ≤ 1000000) (hl2 : n2 ≤ 1000000) (hx1 : Stable (fun _ => False) w0 (LsF p1 0 xs1)) (hx2 : Stable (fun _ => False) w0 (LsF p2 0 xs2))
    (hq : Stable (fun _ => False) w0 (BoxF q 22 [.slice p1 n1 c1, .slice p2 n2 c2])) :
    Ret Tryd.prog 97 [.slice (some ⟨q, 0, none⟩) 2 2] w0 (fun _ => False) fun v w' => ∃ p' c', v = .slice p' (n1 + n2) c' ∧ w'.ownsRow 0 24 5 (.slice p' (n1 + n2) c') (n1 + n2) (encL (xs1 ++ xs2)) ∧ ∀ ad, p' = some ad → w0.heap.size ≤ ad.block := by
  have hle := preL_le xs1 xs2
  refine enter Tryd.func97 rfl rfl (Wd.begin (fs := [BoxF q 22 [.slice p1 n1 c1, .slice p2 n2 c2], LsF p1 0 xs1, LsF p2 0 xs2]) (by simp; exact ⟨hq, hx1, hx2⟩)) (fun a S => ?_)
  simp only [Tryd.ntmps97, List.length_cons, List.length_nil, Nat.reduceAdd, Nat.reduceSub, List.replicate_succ, List.replicate_zero, List.cons_append, List.nil_append] at S
  refine c_seq ?_
  refine c_region ?_
  refine sq S ?_; clear S; intro a S
  refine wl_nil ?_
  refine xtn ?_
  refine c_seq ?_
  refine c_region ?_
  refine sq S ?_; clear S; intro a S
  refine wl_nil ?_
  refine xtn ?_
  iterate 2 (refine c_seq ?_)
  refine c_region ?_
  iterate 3 (refine sq S ?_; clear S; intro a S)
  refine wl_nil ?_
  refine xtn ?_
  refine c_block ?_
  refine c_loop (ι := Nat) (fun k a w => k ≤ 2 ∧ ∃ uu : Nat → Value,  St w0 (fun _ => False) [] a w ((.slice (some ⟨q, 0, none⟩) 2 2) :: uu 1 :: uu 2 :: (.int .i64 ((preL xs1 xs2 k).length : Nat)) :: uu 4 :: uu 5 :: uu 6 :: uu 7 :: uu 8 :: (.slice (some ⟨q, 0, none⟩) 2 2) :: (.int .i64 ((2 : Nat) : Int)) :: (.int .i64 (k : Nat)) :: uu 12 :: uu 13 :: uu 14 :: uu 15 :: uu 16 :: uu 17 :: uu 18 :: uu 19 :: uu 20 :: uu 21 :: uu 22 :: uu 23 :: uu 24 :: uu 25 :: uu 26 :: uu 27 :: uu 28 :: uu 29 :: uu 30 :: uu 31 :: uu 32 :: uu 33 :: uu 34 :: uu 35 :: []) [] [BoxF q 22 [.slice p1 n1 c1, .slice p2 n2 c2], LsF p1 0 xs1, LsF p2 0 xs2]) (fun k => 2 - k) 0 ?_ ?_
  · exact ⟨by omega, S.uu, S⟩
  · clear S
    rintro k a w ⟨hk, uu, S⟩
    refine c_seq ?_
    refine c_region ?_
    refine sq S ?_; clear S; intro a S
    refine wl_nil ?_
    refine xtn ?_
    refine c_seq ?_
    refine c_cond S (fun h3 => ?_) (fun h3 => ?_)
    · refine c_skip ?_
      refine xtn ?_
      refine c_seq ?_
      refine c_block ?_
      refine c_seq ?_
      have hkl : k < 2 := by simp at h3; omega
      have hK : KLt k 2 := ⟨hkl⟩
      obtain ⟨pk, nk, ck, xk, hcell, hlk, hsk, hpre⟩ := preL_step xs1 xs2 p1 p2 n1 n2 c1 c2 k h1 h2 hkl _ w (S.fact (Φ := LsF p1 0 xs1) (by simp)) (S.fact (Φ := LsF p2 0 xs2) (by simp))
      have hpl := congrArg List.length hpre
      rw [List.length_append] at hpl
      have hk1 := hle (k + 1)
      refine c_region ?_
      refine sq S ?_; clear S; intro a S
      refine sl1 (.slice pk nk ck) S (by
        have hb : w.heap[q]? = some (.cells #[.slice p1 n1 c1, .slice p2 n2 c2] 22 (0, 0)) := (S.fact (Φ := BoxF q 22 [.slice p1 n1 c1, .slice p2 n2 c2]) (by simp)).now
        rw [cell_of_row w q k _ 22 (0, 0) hb]; simpa using hcell) ?_; clear S; intro a S
      refine sq S ?_; clear S; intro a S
      refine wl_nil ?_
      refine xtn ?_
      refine c_seq ?_
      refine c_region ?_
      iterate 5 (refine sq S ?_; clear S; intro a S)
      refine wl_nil ?_
      refine xtn ?_
      refine c_seq ?_
      refine c_region ?_
      iterate 2 (refine sq S ?_; clear S; intro a S)
      rw [w64 _ (by omega) (by omega)] at S
      rw [decide_eq_false (show ¬ (((preL xs1 xs2 k).length : Int) + (nk : Int) < 0) by omega)] at S
      refine wl_nil ?_
      refine xtn ?_
      refine c_condF S ?_
      refine c_skip ?_
      refine xbn ?_
      refine xtn ?_
      refine c_region ?_
      iterate 2 (refine sq S ?_; clear S; intro a S)
      refine wl_nil ?_
      refine xtn ?_
      rw [w64 ((k : Int) + 1) (by omega) (by omega)] at S
      rw [show ((preL xs1 xs2 k).length : Int) + (nk : Int) = ((preL xs1 xs2 (k + 1)).length : Nat) from by omega] at S
      exact ⟨k + 1, ⟨hkl, S.uu, S⟩, by omega⟩
    · refine c_exit ?_
      iterate 2 (refine xte ?_)
      refine xbe ?_
      refine xtn ?_
      refine c_seq ?_
      have hk2 : k = 2 := by simp at h3; omega
      subst hk2
      have hfl : (preL xs1 xs2 2) = xs1 ++ xs2 := by simp [preL]
      have hfn : (preL xs1 xs2 2).length = n1 + n2 := by rw [hfl, List.length_append, h1, h2]
      refine c_region ?_
      refine sq S ?_; clear S; intro a S
      refine srn S (grow_c _ w (by omega)) ?_; clear S; rintro _ a w ⟨pg, cg, rfl, hown, hnew⟩ hS -
      have S := hS hown hnew
      clear hS hown hnew
      refine sq S ?_; clear S; intro a S
      refine wl_nil ?_
      refine xtn ?_
      iterate 2 (refine c_seq ?_)
      refine c_region ?_
      iterate 3 (refine sq S ?_; clear S; intro a S)
      refine wl_nil ?_
      refine xtn ?_
      refine c_block ?_
      refine c_loop (ι := Nat) (fun k a w => k ≤ 2 ∧ ∃ p c, ∃ uu : Nat → Value,  St w0 (fun _ => False) [] a w ((.slice (some ⟨q, 0, none⟩) 2 2) :: uu 1 :: uu 2 :: uu 3 :: uu 4 :: uu 5 :: (.slice p (preL xs1 xs2 k).length c) :: uu 7 :: uu 8 :: uu 9 :: uu 10 :: uu 11 :: uu 12 :: uu 13 :: uu 14 :: uu 15 :: uu 16 :: uu 17 :: uu 18 :: uu 19 :: uu 20 :: uu 21 :: uu 22 :: uu 23 :: uu 24 :: (.slice (some ⟨q, 0, none⟩) 2 2) :: (.int .i64 ((2 : Nat) : Int)) :: (.int .i64 (k : Nat)) :: uu 28 :: uu 29 :: uu 30 :: uu 31 :: uu 32 :: uu 33 :: uu 34 :: uu 35 :: []) [Wk.row 24 5 p (preL xs1 xs2 k).length c (encL (preL xs1 xs2 k))] [BoxF q 22 [.slice p1 n1 c1, .slice p2 n2 c2], LsF p1 0 xs1, LsF p2 0 xs2]) (fun k => 2 - k) 0 ?_ ?_
      · exact ⟨by omega, _, _, S.uu, S⟩
      · clear S
        rintro k a w ⟨hk, p, c, uu, S⟩
        refine c_seq ?_
        refine c_region ?_
        refine sq S ?_; clear S; intro a S
        refine wl_nil ?_
        refine xtn ?_
        refine c_seq ?_
        refine c_cond S (fun h11 => ?_) (fun h11 => ?_)
        · refine c_skip ?_
          refine xtn ?_
          refine c_seq ?_
          refine c_block ?_
          refine c_seq ?_
          have hkl : k < 2 := by simp at h11; omega
          have hK : KLt k 2 := ⟨hkl⟩
          obtain ⟨pk, nk, ck, xk, hcell, hlk, hsk, hpre⟩ := preL_step xs1 xs2 p1 p2 n1 n2 c1 c2 k h1 h2 hkl _ w (S.fact (Φ := LsF p1 0 xs1) (by simp)) (S.fact (Φ := LsF p2 0 xs2) (by simp))
          have hpl := congrArg List.length hpre
          rw [List.length_append] at hpl
          have hk1 := hle (k + 1)
          replace S := S.add hsk
          have hNk : LenN xk nk := ⟨hlk⟩
          refine c_region ?_
          refine sq S ?_; clear S; intro a S
          refine sl1 (.slice pk nk ck) S (by
            have hb : w.heap[q]? = some (.cells #[.slice p1 n1 c1, .slice p2 n2 c2] 22 (0, 0)) := (S.fact (Φ := BoxF q 22 [.slice p1 n1 c1, .slice p2 n2 c2]) (by simp)).now
            rw [cell_of_row w q k _ 22 (0, 0) hb]; simpa using hcell) ?_; clear S; intro a S
          refine sq S ?_; clear S; intro a S
          refine wl_nil ?_
          refine xtn ?_
          refine c_region ?_
          iterate 2 (refine sq S ?_; clear S; intro a S)
          refine sap S (by simp [maxLen]; omega) (by omega) ?_; clear S; rintro p2' c2' a w - S
          rw [← encL_append, ← hpre, show (preL xs1 xs2 k).length + nk = (preL xs1 xs2 (k + 1)).length from by omega] at S
          replace S := S.sub [Wk.row 24 5 p2' (preL xs1 xs2 (k + 1)).length c2' (encL (preL xs1 xs2 (k + 1)))] [BoxF q 22 [.slice p1 n1 c1, .slice p2 n2 c2], LsF p1 0 xs1, LsF p2 0 xs2]
          refine sq S ?_; clear S; intro a S
          refine wl_nil ?_
          refine xbn ?_
          refine xtn ?_
          refine c_region ?_
          iterate 2 (refine sq S ?_; clear S; intro a S)
          refine wl_nil ?_
          refine xtn ?_
          rw [w64 ((k : Int) + 1) (by omega) (by omega)] at S
          exact ⟨k + 1, ⟨hkl, _, _, S.uu, S⟩, by omega⟩
        · refine c_exit ?_
          iterate 2 (refine xte ?_)
          refine xbe ?_
          refine xtn ?_
          refine c_seq ?_
          refine c_region ?_
          iterate 2 (refine sq S ?_; clear S; intro a S)
          refine wl_nil ?_
          refine xtn ?_
          refine c_ret ?_
          have hk2 : k = 2 := by simp at h11; omega
          subst hk2
          have hrow := S.row p (preL xs1 xs2 2).length
          have hnew := S.rowNew p (preL xs1 xs2 2).length
          refine end1 S (fun _ => ?_)
          rw [hfn, hfl] at hrow
          exact ⟨p, c, by rw [hfn], hrow, fun ad h => (hnew ad h).elim (fun h => h.elim) id⟩
theorem own_put {A Z vs : List Value} (o : Nat) (k : Nat) (h : A.length = o) (hz : Z.length = vs.length) (hk : k = o) : (A ++ Z).take o ++ vs ++ (A ++ Z).drop (k + vs.length) = A ++ vs := by
  subst h hk
  rw [List.take_left, List.drop_of_length_le (by rw [List.length_append, hz]; exact Nat.le_refl _), List.append_nil]
theorem appendSeq_c (gf : Nat) [EntF Tryd.prog gf] (lb : List Value) (ys : List LTerm) (xs : List Value) (fs0 : List (World → Prop)) (p : Option Addr) (n c : Nat) (w0 : World) (hl : n + ys.length ≤ 10000000) (hown : w0.ownsRow 0 24 5 (.slice p n c) n xs)
    (hfs : ∀ Φ ∈ fs0, Stable (fun k => ∃ ad, p = some ad ∧ k = ad.block) w0 Φ)
    (hit : ∀ (M : Nat → Prop) (w1 : World), (∀ k, M k → k < w1.heap.size) → (∀ Φ ∈ fs0, Stable M w1 Φ) → IterRet Tryd.prog gf lb w1 M (fun (x : LTerm) vs _ _ => vs = [vL x]) ys) :
    Ret Tryd.prog 102 [.slice p n c, .func (.func gf) #[] ⟨lb⟩] w0 (fun k => ∃ ad, p = some ad ∧ k = ad.block) fun v w' =>
      ∃ p' c', v = .slice p' (n + ys.length) c' ∧ w'.ownsRow 0 24 5 (.slice p' (n + ys.length) c') (n + ys.length) (xs ++ encL ys) ∧ ∀ ad, p' = some ad → (∃ ad', p = some ad' ∧ ad.block = ad'.block) ∨ w0.heap.size ≤ ad.block := by
  refine enterM Tryd.func102 rfl rfl (Wd.rowLent hown hfs) (fun a S => ?_)
  simp only [Tryd.ntmps102, List.length_cons, List.length_nil, Nat.reduceAdd, Nat.reduceSub, List.replicate_succ, List.replicate_zero, List.cons_append, List.nil_append] at S
  refine c_seq ?_
  refine c_region ?_
  refine sa S ?_; clear S; intro b2 a w S
  refine sq S ?_; clear S; intro a S
  refine wl_nil ?_
  refine xtn ?_
  iterate 2 (refine c_seq ?_)
  refine c_region ?_
  refine sq S ?_; clear S; intro a S
  refine wl_nil ?_
  refine xtn ?_
  refine c_block ?_
  refine c_range (κ := Option Addr × Nat) (κx := Empty) (Ds := []) ys
    (fun i k => [Wk.box b2 22 [.slice k.1 (n + i) k.2], marks [], Wk.row 24 5 k.1 (n + i) k.2 (xs ++ encL (ys.take i))]) (fun _ _ => fs0) (fun _ _ => True) (fun k => k.elim) (fun k => k.elim) (fun _ k => k.elim) (p, c) S (fun M w1 hM hF _ => hit M w1 hM hF) ⟨trivial, by simp [encL], rfl⟩ ?_ ?_ ?_ ?_
  · clear S
    rintro L D bL M w1 i x vs ⟨p, c⟩ W0 w hx - hW0 hgr rfl
    refine ⟨_, inferInstance, fun a S => ?_⟩
    have hil : i < ys.length := (List.getElem?_eq_some_iff.1 hx).1
    have hti : ys.take (i + 1) = ys.take i ++ [x] := by rw [List.take_add_one, hx]; rfl
    have hKL : KLt (n + i) (n + i + 1) := ⟨by omega⟩
    have hrl : (xs ++ encL (ys.take i)).length = (n + i) * 5 := S.row p (n + i) |>.1
    refine c_region ?_
    refine sa S ?_; clear S; intro b5 a w S
    refine sw S ?_; clear S; intro a w S
    refine wl_nil ?_
    refine xtn ?_
    refine rbegin (D := D) (b := bL) S ?_; clear S; intro a w S
    refine c_block ?_
    refine c_drawT (.q 1 (.b2 0 3 (.q 2 (.l 3 (.l 4 (.b2 5 7 (.b2 6 7 (.l 7 (.e)) (.l 6 (.e))) (.l 5 (.l 6 (.e))))))) (.l 0 (.q 2 (.l 4 (.b2 5 7 (.b2 6 7 (.l 7 (.e)) (.l 6 (.e))) (.l 5 (.l 6 (.e))))))))) [Wk.box b5 24 x.cells] S
      (fun a w => ∃ (p' : Option Addr) (c' : Nat) (l' : List Value), St w1 M [] a w l' [lpI L D (lpR bL .busy none), Wk.box b2 22 [.slice p' (n + (i + 1)) c'], marks [], Wk.row 24 5 p' (n + (i + 1)) c' (xs ++ encL (ys.take (i + 1)))] fs0) ?_ ?_
    · intro w S
      refine tq S ?_; clear S; intro a S
      refine tb2 ?_ ?_
      · refine sq S ?_; clear S; intro a S
        refine te S ?_
        refine tq S ?_; clear S; intro a S
        refine tl ?_
        refine sn S ?_; clear S; intro b11 a w S
        refine te S ?_
        refine tl ?_
        refine sap S (by simp [maxLen]; omega) (by omega) ?_; clear S; rintro p3 c3 a w - S
        refine te S ?_
        refine tb2 ?_ ?_
        · refine sq S ?_; clear S; intro a S
          refine te S ?_
          refine tb2 ?_ ?_
          · refine sws S (n + i + 1) (by omega) (by omega) ?_; clear S; intro a w S
            refine te S ?_
            refine tl ?_
            refine sw S ?_; clear S; intro a w S
            refine te S ?_
            refine tn ?_
            have e := own_put (A := xs ++ encL (ys.take i)) (Z := [.int .i64 0, .int .i64 0, .int .i64 0, .string ⟨#[]⟩, .slice none 0 0]) (vs := x.cells) _ _ hrl rfl rfl
            rw [e, List.append_assoc, ← encT_cells, ← encL_append, ← hti] at S
            exact ⟨p3, c3, _, S.sub _ _⟩
          · refine sw S ?_; clear S; intro a w S
            refine te S ?_
            refine tl ?_
            refine sws S (n + i + 1) (by omega) (by omega) ?_; clear S; intro a w S
            refine te S ?_
            refine tn ?_
            have e := own_put (A := xs ++ encL (ys.take i)) (Z := [.int .i64 0, .int .i64 0, .int .i64 0, .string ⟨#[]⟩, .slice none 0 0]) (vs := x.cells) _ _ hrl rfl rfl
            rw [e, List.append_assoc, ← encT_cells, ← encL_append, ← hti] at S
            exact ⟨p3, c3, _, S.sub _ _⟩
        · refine sw S ?_; clear S; intro a w S
          refine te S ?_
          refine tl ?_
          refine sq S ?_; clear S; intro a S
          refine te S ?_
          refine tl ?_
          refine sws S (n + i + 1) (by omega) (by omega) ?_; clear S; intro a w S
          refine te S ?_
          refine tn ?_
          have e := own_put (A := xs ++ encL (ys.take i)) (Z := [.int .i64 0, .int .i64 0, .int .i64 0, .string ⟨#[]⟩, .slice none 0 0]) (vs := x.cells) _ _ hrl rfl rfl
          rw [e, List.append_assoc, ← encT_cells, ← encL_append, ← hti] at S
          exact ⟨p3, c3, _, S.sub _ _⟩
      · refine sn S ?_; clear S; intro b11 a w S
        refine te S ?_
        refine tl ?_
        refine sq S ?_; clear S; intro a S
        refine te S ?_
        refine tq S ?_; clear S; intro a S
        refine tl ?_
        refine sap S (by simp [maxLen]; omega) (by omega) ?_; clear S; rintro p3 c3 a w - S
        refine te S ?_
        refine tb2 ?_ ?_
        · refine sq S ?_; clear S; intro a S
          refine te S ?_
          refine tb2 ?_ ?_
          · refine sws S (n + i + 1) (by omega) (by omega) ?_; clear S; intro a w S
            refine te S ?_
            refine tl ?_
            refine sw S ?_; clear S; intro a w S
            refine te S ?_
            refine tn ?_
            have e := own_put (A := xs ++ encL (ys.take i)) (Z := [.int .i64 0, .int .i64 0, .int .i64 0, .string ⟨#[]⟩, .slice none 0 0]) (vs := x.cells) _ _ hrl rfl rfl
            rw [e, List.append_assoc, ← encT_cells, ← encL_append, ← hti] at S
            exact ⟨p3, c3, _, S.sub _ _⟩
          · refine sw S ?_; clear S; intro a w S
            refine te S ?_
            refine tl ?_
            refine sws S (n + i + 1) (by omega) (by omega) ?_; clear S; intro a w S
            refine te S ?_
            refine tn ?_
            have e := own_put (A := xs ++ encL (ys.take i)) (Z := [.int .i64 0, .int .i64 0, .int .i64 0, .string ⟨#[]⟩, .slice none 0 0]) (vs := x.cells) _ _ hrl rfl rfl
            rw [e, List.append_assoc, ← encT_cells, ← encL_append, ← hti] at S
            exact ⟨p3, c3, _, S.sub _ _⟩
        · refine sw S ?_; clear S; intro a w S
          refine te S ?_
          refine tl ?_
          refine sq S ?_; clear S; intro a S
          refine te S ?_
          refine tl ?_
          refine sws S (n + i + 1) (by omega) (by omega) ?_; clear S; intro a w S
          refine te S ?_
          refine tn ?_
          have e := own_put (A := xs ++ encL (ys.take i)) (Z := [.int .i64 0, .int .i64 0, .int .i64 0, .string ⟨#[]⟩, .slice none 0 0]) (vs := x.cells) _ _ hrl rfl rfl
          rw [e, List.append_assoc, ← encT_cells, ← encL_append, ← hti] at S
          exact ⟨p3, c3, _, S.sub _ _⟩
    rintro a w ⟨p2, c2, l2, S⟩
    refine xbn ?_
    exact rnext (D := D) (b := bL) S fun W hW => ⟨(p2, c2), trivial, hW⟩
  · clear S
    rintro D ⟨p2, c2⟩ a w - S
    refine xbn ?_
    refine xtn ?_
    refine c_seq ?_
    refine c_region ?_
    iterate 2 (refine sq S ?_; clear S; intro a S)
    refine wl_nil ?_
    refine xtn ?_
    refine c_ret ?_
    replace S := S.join (Ds := [])
    have hrow := S.row p2 (n + ys.length)
    have hnew := S.rowNew p2 (n + ys.length)
    refine endM1 S (fun w hw => ?_)
    have h1 := hw.held (Wk.row 24 5 p2 (n + ys.length) c2 (xs ++ encL (ys.take ys.length))) (by simp)
    rw [List.take_length] at h1
    exact ⟨p2, c2, rfl, h1, hnew⟩
  · intro D k; exact k.elim
  · intro id D k; exact k.elim
end Go.Proofs.YtgielmldblopeaaDoor

/- Package close: check. -/
namespace Go.Proofs.YtgielmldblopeaaDoor
open Go Go.Wk
set_option synthInstance.maxSize 100000
set_option synthInstance.maxHeartbeats 400000
set_option maxRecDepth 100000

def badF (t : Term) : Bool := !decide (checkF t = 0)
def chkF (K L : List Term) : Int := if 500 < K.length then 3 else if (K ++ L).any badF then 150 else 0
theorem check1_c (t : LTerm) (w0 : World) (hf : Stable (fun _ => False) w0 (LtF t)) : Ret Tryd.prog 98 [vL t] w0 (fun _ => False) fun v _ => v = .bool (badF t.t) := by
  refine enter Tryd.func98 rfl rfl (Wd.begin (fs := [LtF t]) (by simpa using hf)) (fun a S => ?_)
  simp only [Tryd.ntmps98, List.length_cons, List.length_nil, Nat.reduceAdd, Nat.reduceSub, List.replicate_succ, List.replicate_zero, List.cons_append, List.nil_append] at S
  refine c_seq ?_
  refine c_region ?_
  refine sa S ?_; clear S; intro b1 a w S
  refine sq S ?_; clear S; intro a S
  refine wl_nil ?_
  refine xtn ?_
  refine c_seq ?_
  refine c_region ?_
  refine sq S ?_; clear S; intro a S
  refine sc S ?_; clear S; intro a w S
  iterate 2 (refine sq S ?_; clear S; intro a S)
  refine wl_nil ?_
  refine xtn ?_
  refine c_ret ?_
  refine end1 S (fun _ => rfl)
theorem kids_st {M : Nat → Prop} {w : World} {p : Option Addr} {xs : List LTerm} (h : Stable M w (LsF p 0 xs)) {x : LTerm} (hx : x ∈ xs) : Stable M w (LtF x) := by
  obtain ⟨k, hk, rfl⟩ := List.mem_iff_getElem.1 hx
  exact h.imp fun w' hw' => (LsIn.get hw' (List.getElem?_eq_getElem hk)).2
theorem check_cl (xs ys : List LTerm) (p p2 : Option Addr) (n n2 c c2 : Nat) (w0 : World) (hn : xs.length = n) (hn2 : ys.length = n2) (hl2 : n2 ≤ 500) (hx : Stable (fun _ => False) w0 (LsF p 0 xs)) (hy : Stable (fun _ => False) w0 (LsF p2 0 ys)) :
    Ret Tryd.prog 68 [.slice p n c, .slice p2 n2 c2] w0 (fun _ => False) fun v _ => v = .int .i64 (chkF (xs.map LTerm.t) (ys.map LTerm.t)) := by
  have hany : (xs ++ ys).any (fun x => badF x.t) = ((xs.map LTerm.t) ++ (ys.map LTerm.t)).any badF := by
    rw [List.any_append, List.any_append, List.any_map, List.any_map]; rfl
  refine enter Tryd.func68 rfl rfl (Wd.begin (fs := [LsF p 0 xs, LsF p2 0 ys]) (by simp; exact ⟨hx, hy⟩)) (fun a S => ?_)
  simp only [Tryd.ntmps68, List.length_cons, List.length_nil, Nat.reduceAdd, Nat.reduceSub, List.replicate_succ, List.replicate_zero, List.cons_append, List.nil_append] at S
  refine c_seq ?_
  refine c_region ?_
  refine sq S ?_; clear S; intro a S
  refine wl_nil ?_
  refine xtn ?_
  iterate 2 (refine c_seq ?_)
  refine c_region ?_
  iterate 3 (refine sq S ?_; clear S; intro a S)
  refine wl_nil ?_
  refine xtn ?_
  refine c_cond S (fun h1 => ?_) (fun h1 => ?_)
  · refine c_seq ?_
    refine c_region ?_
    refine sq S ?_; clear S; intro a S
    refine wl_nil ?_
    refine xtn ?_
    refine c_ret ?_
    refine xtr ?_
    refine end1 S (fun _ => ?_)
    rw [chkF, List.length_map, hn, if_pos (by simp at h1; omega)]
  · refine c_skip ?_
    refine xtn ?_
    iterate 2 (refine c_seq ?_)
    refine c_region ?_
    iterate 2 (refine sq S ?_; clear S; intro a S)
    refine sn S ?_; clear S; intro b10 a w S
    have hn5 : n ≤ 500 := by simp at h1; omega
    have hb := BoxF.stable (M := fun _ => False) (S.boxF b10) (fun h => h)
    refine srn S (concat_c xs ys p p2 n n2 c c2 b10 w hn hn2 (by omega) (by omega) (S.mem.fact0 (LsF p 0 xs)) (S.mem.fact0 (LsF p2 0 ys)) hb) ?_; clear S hb; rintro _ a w ⟨p3, c3, rfl, hown, hnew⟩ - S
    have hst : ∀ x ∈ xs ++ ys, Stable (fun _ => False) w (LtF x) := fun x hx => by
      rcases List.mem_append.1 hx with hx | hx
      · exact kids_st (S.mem.fact0 (LsF p 0 xs)) hx
      · exact kids_st (S.mem.fact0 (LsF p2 0 ys)) hx
    have hls := ls_of_own hown hst (fun _ _ h => h)
    have hcc := contains_c 98 [] (fun x => badF x.t) (xs ++ ys) p3 (n + n2) c3 w (by simp [hn, hn2]) (by omega) hls fun x hx w' hw' => check1_c x w' ((hst x hx).later hw')
    refine sr S hcc ?_
    clear S hcc hls hst; rintro _ a w rfl S
    refine wl_nil ?_
    refine xtn ?_
    refine c_cond S (fun h3 => ?_) (fun h3 => ?_)
    · refine c_seq ?_
      refine c_region ?_
      refine sq S ?_; clear S; intro a S
      refine wl_nil ?_
      refine xtn ?_
      refine c_ret ?_
      refine xtr ?_
      refine end1 S (fun _ => ?_)
      rw [hany] at h3
      rw [chkF, List.length_map, hn, if_neg (by omega), if_pos h3]
    · refine c_skip ?_
      refine xtn ?_
      refine c_seq ?_
      refine c_region ?_
      refine sq S ?_; clear S; intro a S
      refine wl_nil ?_
      refine xtn ?_
      refine c_ret ?_
      refine end1 S (fun _ => ?_)
      rw [hany] at h3
      rw [chkF, List.length_map, hn, if_neg (by omega), if_neg (by rw [h3]; simp)]
end Go.Proofs.YtgielmldblopeaaDoor

/- Package close: apart. -/
namespace Go.Proofs.YtgielmldblopeaaDoor
open Go Go.Wk
set_option synthInstance.maxSize 100000
set_option synthInstance.maxHeartbeats 400000
set_option maxRecDepth 100000

def UF (w0 : World) : World → Prop := fun w => ∀ x, Stable (fun _ => False) w0 (LtF x) → LtIn w x
theorem hasT_old {fs : List (World → Prop)} {w0 : World} {x : LTerm} [h : HasFact fs (UF w0)] (hx : Stable (fun _ => False) w0 (LtF x)) : HasT fs x := ⟨fun _ _ hf => (hf _ h.mem).imp fun _ hw => hw x hx⟩
theorem kvPut_new {k : List UInt8} {x : LTerm} {km : List (List UInt8 × LTerm)} (h : inM km k = false) : kvPut k (vL x) (kvM km) = kvM (km ++ [(k, x)]) := by
  have h1 : ∀ (km : List (List UInt8 × LTerm)) (i : Nat), inM km k = false → kvIdx k (kvM km) i = none := by
    intro km
    induction km with
    | nil => intro i _; rfl
    | cons e km ih =>
      intro i h
      obtain ⟨u, y⟩ := e
      have h2 : ¬ k = u := fun e => by
        rw [inM, tget, if_pos e] at h; cases h
      show kvIdx k ((u, vL y) :: kvM km) i = none
      rw [kvIdx, if_neg h2]
      refine ih _ ?_
      rw [inM, tget, if_neg h2] at h; exact h
  rw [kvPut_none (h1 km 0 h)]
  simp [kvM]
theorem encL_pop (st : List LTerm) (x : LTerm) : (encL (st ++ [x])).take (st.length * 5) = encL st := by
  have e : (encL (st ++ [x])).take (st.length * 5) = encL ((st ++ [x]).take st.length) := encL_take (st ++ [x]) st.length
  rw [e, List.take_left]
theorem encL_at {xs : List LTerm} {k : Nat} {x : LTerm} (h : xs[k]? = some x) {j : Nat} {v : Value} (hj : x.cells[j]? = some v) : (encL xs)[k * 5 + j]? = some v := by
  have hj5 : j < 5 := (List.getElem?_eq_some_iff.1 hj).1
  rw [← hj]; exact encL_get xs k x h j hj5
theorem kids6 {x : LTerm} (h : Good x.t) (hk : x.kind = 6) : 0 < x.kids.length := by
  rw [x.t_eq] at h
  cases ok_of_size h with
  | mk hp _ =>
    have := plain_shape hp
    rw [List.length_map] at this
    omega
structure AS where
  p : Option Addr
  c : Nat
  ps : Option Addr
  cs : Nat
  st : List LTerm
  sh : List LTerm
  km : List (List UInt8 × LTerm)
  Ds : List Nat
theorem apart_c (xs : List LTerm) (p : Option Addr) (c : Nat) (w0 : World) (hl : xs.length ≤ 500) (hx : Stable (fun _ => False) w0 (LsF p 0 xs)) (hg : ∀ x ∈ xs, Good x.t) :
    Ret Tryd.prog 69 [.slice p xs.length c] w0 (fun _ => False) fun v w' => ∃ b km, v = .map (some b) ∧ MpF b (kvM km) w' ∧ w0.heap.size ≤ b ∧ Apart (xs.map LTerm.t) km ∧ km.length ≤ 1200000 ∧ ∀ e ∈ km, Stable (fun k => k = b) w' (LtF e.2) ∧ SubT (xs.map LTerm.t) e.2.t := by
  obtain ⟨O, hOdef⟩ : ∃ O : LTerm → Prop, O = fun x => Stable (fun _ => False) w0 (LtF x) ∧ SubT (xs.map LTerm.t) x.t := ⟨_, rfl⟩
  have hO : ∀ x, O x → ∀ y ∈ x.kids, O y := fun x h y hy => by
    rw [hOdef] at h ⊢
    refine ⟨kid_st h.1 hy, ?_⟩
    have h2 := h.2
    rw [x.t_eq] at h2
    exact .kid h2 (List.mem_map.2 ⟨y, hy, rfl⟩)
  have hW : wS xs ≤ 1200000 := by
    have : ∀ l : List LTerm, (∀ x ∈ l, Good x.t) → wS l ≤ 2400 * l.length := by
      intro l
      induction l with
      | nil => intro _; simp [wS]
      | cons x l ih =>
        intro h
        have h1 := good_le (h x (by simp))
        have h2 := ih fun y hy => h y (by simp [hy])
        simp only [wS, List.map_cons, List.sum_cons, List.length_cons] at h2 ⊢
        omega
    have := this xs hg
    omega
  refine enterM Tryd.func69 rfl rfl (Wd.begin (fs := [LsF p 0 xs, UF w0]) (by simp; exact ⟨hx, fun w' hw' x hx' => hx' w' hw'⟩)) (fun a S => ?_)
  simp only [Tryd.ntmps69, List.length_cons, List.length_nil, Nat.reduceAdd, Nat.reduceSub, List.replicate_succ, List.replicate_zero, List.cons_append, List.nil_append] at S
  refine c_seq ?_
  refine c_region ?_
  refine sq S ?_; clear S; intro a S
  refine wl_nil ?_
  refine xtn ?_
  refine c_scope ?_
  refine c_seq ?_
  refine c_region ?_
  refine smm S ?_; clear S; intro b a w S
  refine sq S ?_; clear S; intro a S
  refine wl_nil ?_
  refine xtn ?_
  refine c_seq ?_
  refine c_region ?_
  refine sq S ?_; clear S; intro a S
  refine srn S (clone_c xs p _ c w rfl (by omega) (S.mem.fact0 (LsF p 0 xs))) ?_; clear S; rintro _ a w ⟨p2, c2, rfl, hown, hnew⟩ hS -
  have S := hS hown hnew
  clear hS hown hnew
  refine sa S ?_; clear S; intro b4 a w S
  refine sw S ?_; clear S; intro a w S
  refine wl_nil ?_
  refine xtn ?_
  refine c_seq ?_
  refine c_region ?_
  refine sq S ?_; clear S; intro a S
  refine wl_nil ?_
  refine xtn ?_
  refine c_seq ?_
  refine c_label ?_
  refine xtn ?_
  refine c_seq ?_
  refine c_block ?_
  replace S := S.addNil 24 5
  refine c_loop (ι := AS) (fun s a w => ∃ p2 c2 ps cs st sh km Ds, s = AS.mk p2 c2 ps cs st sh km Ds ∧ AInv (xs.map LTerm.t) O st sh km ∧ wS st + wH sh + km.length ≤ 1200000 ∧ ∃ uu : Nat → Value,  St w0 (fun _ => False) (dsOf Ds) a w ((.slice p xs.length c) :: uu 1 :: uu 2 :: (.map (some b)) :: (.pointer (some ⟨b4, 0, none⟩)) :: (.slice ps sh.length cs) :: uu 6 :: uu 7 :: uu 8 :: uu 9 :: uu 10 :: uu 11 :: uu 12 :: uu 13 :: uu 14 :: uu 15 :: uu 16 :: uu 17 :: uu 18 :: uu 19 :: uu 20 :: uu 21 :: uu 22 :: uu 23 :: uu 24 :: uu 25 :: uu 26 :: uu 27 :: uu 28 :: uu 29 :: uu 30 :: uu 31 :: uu 32 :: uu 33 :: uu 34 :: uu 35 :: uu 36 :: uu 37 :: uu 38 :: uu 39 :: uu 40 :: uu 41 :: uu 42 :: uu 43 :: uu 44 :: uu 45 :: uu 46 :: uu 47 :: uu 48 :: uu 49 :: uu 50 :: uu 51 :: uu 52 :: uu 53 :: uu 54 :: uu 55 :: uu 56 :: uu 57 :: uu 58 :: uu 59 :: uu 60 :: uu 61 :: uu 62 :: uu 63 :: uu 64 :: uu 65 :: uu 66 :: uu 67 :: uu 68 :: uu 69 :: uu 70 :: uu 71 :: uu 72 :: uu 73 :: uu 74 :: uu 75 :: uu 76 :: uu 77 :: uu 78 :: uu 79 :: uu 80 :: uu 81 :: uu 82 :: uu 83 :: uu 84 :: uu 85 :: []) [Wk.row 24 5 ps sh.length cs (encL sh), Wk.box b4 22 [.slice p2 st.length c2], Wk.row 24 5 p2 st.length c2 (encL st), mp b (kvM km), marks Ds] [LsF p 0 xs, UF w0]) (fun s => wS s.st + wH s.sh) ⟨p2, c2, none, 0, xs, [], [], []⟩ ?_ ?_
  · exact ⟨_, _, _, _, _, _, _, _, rfl, AInv.start xs rfl (fun x hx' => ⟨by rw [hOdef]; exact ⟨kids_st hx hx', .top (List.mem_map.2 ⟨x, hx', rfl⟩)⟩, hg x hx'⟩), by simpa [wH] using hW, S.uu, S⟩
  · clear S p2 c2
    rintro _ a w ⟨p20, c20, ps0, cs0, st0, sh0, km0, Ds0, rfl, hI, hw0, uu, S⟩
    refine c_block ?_
    refine c_seq ?_
    refine c_block ?_
    refine c_loop (ι := AS) (fun s a w => ∃ p2 c2 ps cs st sh km Ds, s = AS.mk p2 c2 ps cs st sh km Ds ∧ AInv (xs.map LTerm.t) O st sh km ∧ wS st + wH sh ≤ wS st0 + wH sh0 ∧ wS st + wH sh + km.length ≤ 1200000 ∧ ∃ uu : Nat → Value,  St w0 (fun _ => False) (dsOf Ds) a w ((.slice p xs.length c) :: uu 1 :: uu 2 :: (.map (some b)) :: (.pointer (some ⟨b4, 0, none⟩)) :: (.slice ps sh.length cs) :: uu 6 :: uu 7 :: uu 8 :: uu 9 :: uu 10 :: uu 11 :: uu 12 :: uu 13 :: uu 14 :: uu 15 :: uu 16 :: uu 17 :: uu 18 :: uu 19 :: uu 20 :: uu 21 :: uu 22 :: uu 23 :: uu 24 :: uu 25 :: uu 26 :: uu 27 :: uu 28 :: uu 29 :: uu 30 :: uu 31 :: uu 32 :: uu 33 :: uu 34 :: uu 35 :: uu 36 :: uu 37 :: uu 38 :: uu 39 :: uu 40 :: uu 41 :: uu 42 :: uu 43 :: uu 44 :: uu 45 :: uu 46 :: uu 47 :: uu 48 :: uu 49 :: uu 50 :: uu 51 :: uu 52 :: uu 53 :: uu 54 :: uu 55 :: uu 56 :: uu 57 :: uu 58 :: uu 59 :: uu 60 :: uu 61 :: uu 62 :: uu 63 :: uu 64 :: uu 65 :: uu 66 :: uu 67 :: uu 68 :: uu 69 :: uu 70 :: uu 71 :: uu 72 :: uu 73 :: uu 74 :: uu 75 :: uu 76 :: uu 77 :: uu 78 :: uu 79 :: uu 80 :: uu 81 :: uu 82 :: uu 83 :: uu 84 :: uu 85 :: []) [Wk.row 24 5 ps sh.length cs (encL sh), Wk.box b4 22 [.slice p2 st.length c2], Wk.row 24 5 p2 st.length c2 (encL st), mp b (kvM km), marks Ds] [LsF p 0 xs, UF w0]) (fun s => wS s.st + wH s.sh) ⟨p20, c20, ps0, cs0, st0, sh0, km0, Ds0⟩ ?_ ?_
    · exact ⟨_, _, _, _, _, _, _, _, rfl, hI, Nat.le_refl _, hw0, S.uu, S⟩
    · clear S hI
      rintro _ a w ⟨p2, c2, ps, cs, st, sh, km, Ds, rfl, hI, hwt, hkn, uu, S⟩
      have hls := wS_len st
      have hlh := wH_len sh
      iterate 2 (refine c_seq ?_)
      refine c_region ?_
      iterate 3 (refine sq S ?_; clear S; intro a S)
      refine wl_nil ?_
      refine xtn ?_
      refine c_cond S (fun h4 => ?_) (fun h4 => ?_)
      · refine c_skip ?_
        refine xtn ?_
        refine c_block ?_
        refine c_seq ?_
        obtain ⟨st', x, rfl⟩ : ∃ st' x, st = st' ++ [x] := by
          have hne : st ≠ [] := by rintro rfl; simp at h4
          exact ⟨st.dropLast, st.getLast hne, (List.dropLast_concat_getLast hne).symm⟩
        have hlen : (st' ++ [x]).length = st'.length + 1 := by simp
        rw [hlen] at S hls
        obtain ⟨hox, hgx, hdx⟩ := hI.old x (.inl (by simp))
        have hxo : Stable (fun _ => False) w0 (LtF x) := by rw [hOdef] at hox; exact hox.1
        have hT : HasT [LsF p 0 xs, UF w0] x := hasT_old hxo
        have hKL : KLt st'.length (st'.length + 1) := ⟨by omega⟩
        have hwx : wS (st' ++ [x]) = wS st' + 2 * cnt x.t := by rw [wS_append]; simp [wS]
        have hcx := cnt_pos x.t
        have hsub : IntKind.i64.wrap (((st'.length + 1 : Nat) : Int) - 1) = (st'.length : Int) := by rw [w64 _ (by omega) (by omega)]; omega
        refine c_region ?_
        iterate 4 (refine sq S ?_; clear S; intro a S)
        rw [hsub] at S
        refine sq S ?_; clear S; intro a S
        refine slrA x.cells S (st'.length + 1) (fun j v hj => encL_at (by simp) hj) ?_; clear S; intro a S
        refine sa S ?_; clear S; intro b6 a w S
        refine sw S ?_; clear S; intro a w S
        refine wl_nil ?_
        refine xtn ?_
        refine c_seq ?_
        refine c_region ?_
        iterate 4 (refine sq S ?_; clear S; intro a S)
        rw [hsub] at S
        refine scut S (by omega) ?_; clear S; intro a S
        rw [encL_pop] at S
        refine sw S ?_; clear S; intro a w S
        refine wl_nil ?_
        refine xtn ?_
        refine c_seq ?_
        refine c_region ?_
        refine sq S ?_; clear S; intro a S
        refine sc S ?_; clear S; intro a w S
        refine sq S ?_; clear S; intro a S
        refine wl_nil ?_
        refine xtn ?_
        iterate 2 (refine c_seq ?_)
        refine c_region ?_
        iterate 3 (refine sq S ?_; clear S; intro a S)
        rw [kvM_getD, kvM_some] at S
        iterate 3 (refine sq S ?_; clear S; intro a S)
        refine sa S ?_; clear S; intro b8 a w S
        refine sw S ?_; clear S; intro a w S
        refine sq S ?_; clear S; intro a S
        refine wl_nil ?_
        refine xtn ?_
        refine c_seq ?_
        refine c_region ?_
        refine sq S ?_; clear S; intro a S
        refine wl_nil ?_
        refine xtn ?_
        refine c_cond S (fun h9 => ?_) (fun h9 => ?_)
        · refine c_exit ?_
          refine xte ?_
          refine xbe ?_
          refine xtn ?_
          exact ⟨⟨p2, c2, ps, cs, st', sh, km, Ds⟩, ⟨_, _, _, _, _, _, _, _, rfl, hI.found h9, by omega, by omega, S.uu, S.sub _ _⟩, by simp only; omega⟩
        · refine c_skip ?_
          refine xtn ?_
          refine c_seq ?_
          refine c_region ?_
          iterate 3 (refine sq S ?_; clear S; intro a S)
          refine smu S ?_; clear S; intro a w S
          rw [show kvPut (nameF x.t) (.agg ⟨x.cells⟩) (kvM km) = kvM (km ++ [(nameF x.t, x)]) from kvPut_new h9] at S
          refine wl_nil ?_
          refine xtn ?_
          refine c_seq ?_
          refine c_region ?_
          iterate 2 (refine sq S ?_; clear S; intro a S)
          refine wl_nil ?_
          refine xtn ?_
          refine c_block ?_
          refine c_merge (fun a w => ∃ uu : Nat → Value,  St w0 (fun _ => False) (dsOf Ds) a w ((.slice p xs.length c) :: uu 1 :: uu 2 :: (.map (some b)) :: (.pointer (some ⟨b4, 0, none⟩)) :: (.slice ps sh.length cs) :: (.pointer (some ⟨b6, 0, none⟩)) :: uu 7 :: uu 8 :: uu 9 :: uu 10 :: uu 11 :: uu 12 :: uu 13 :: uu 14 :: uu 15 :: uu 16 :: uu 17 :: uu 18 :: uu 19 :: uu 20 :: uu 21 :: uu 22 :: uu 23 :: uu 24 :: uu 25 :: uu 26 :: uu 27 :: uu 28 :: uu 29 :: uu 30 :: uu 31 :: uu 32 :: uu 33 :: uu 34 :: uu 35 :: uu 36 :: uu 37 :: uu 38 :: uu 39 :: uu 40 :: uu 41 :: uu 42 :: (.int .i64 x.kind) :: (.bool (decide (x.kind = 4) || decide (x.kind = 8))) :: uu 45 :: uu 46 :: uu 47 :: uu 48 :: uu 49 :: uu 50 :: uu 51 :: uu 52 :: uu 53 :: uu 54 :: uu 55 :: uu 56 :: uu 57 :: uu 58 :: uu 59 :: uu 60 :: uu 61 :: uu 62 :: uu 63 :: uu 64 :: uu 65 :: uu 66 :: uu 67 :: uu 68 :: uu 69 :: uu 70 :: uu 71 :: uu 72 :: uu 73 :: uu 74 :: uu 75 :: uu 76 :: uu 77 :: uu 78 :: uu 79 :: uu 80 :: uu 81 :: uu 82 :: uu 83 :: uu 84 :: uu 85 :: []) [Wk.box b6 24 x.cells, Wk.row 24 5 ps sh.length cs (encL sh), Wk.box b4 22 [.slice p2 st'.length c2], Wk.row 24 5 p2 st'.length c2 (encL st'), mp b (kvM (km ++ [(nameF x.t, x)])), marks Ds] [LsF p 0 xs, UF w0]) ?_ ?_
          · refine c_seq ?_
            refine c_region ?_
            iterate 2 (refine sq S ?_; clear S; intro a S)
            refine wl_nil ?_
            refine xtn ?_
            refine c_cond S (fun h12 => ?_) (fun h12 => ?_)
            · refine c_skip ?_
              refine xtn ?_
              rw [show decide (x.kind = 4) = (decide (x.kind = 4) || decide (x.kind = 8)) from by rw [h12]; rfl] at S
              exact ⟨S.uu, S.sub _ _⟩
            · refine c_region ?_
              iterate 2 (refine sq S ?_; clear S; intro a S)
              refine wl_nil ?_
              refine xtn ?_
              rw [show decide (x.kind = 8) = (decide (x.kind = 4) || decide (x.kind = 8)) from by rw [h12]; rfl] at S
              exact ⟨S.uu, S.sub _ _⟩
          · clear S; rintro a w ⟨uu, S⟩
            refine c_cond S (fun h12 => ?_) (fun h12 => ?_)
            · refine c_seq ?_
              refine c_region ?_
              iterate 2 (refine sq S ?_; clear S; intro a S)
              have hlt := foots_lt S
              refine sr S (opens_c x b w) ?_; clear S; rintro _ a w ⟨b1, b2, rfl, n1, n2, f1, f2⟩ S
              replace S := S.add (Φ := BoxF b2 99 [.map (some b)]) (BoxF.stable f2 (fun hm => by have := hlt _ hm; omega))
              replace S := S.add (Φ := BoxF b1 24 x.cells) (BoxF.stable f1 (fun hm => by have := hlt _ hm; omega))
              clear hlt n1 n2 f1 f2
              refine wl_nil ?_
              refine xtn ?_
              refine c_block ?_
              obtain ⟨km', hkm'⟩ : ∃ km', km' = km ++ [(nameF x.t, x)] := ⟨_, rfl⟩
              rw [← hkm'] at S
              have hk48 : x.kind = 4 ∨ x.kind = 8 := by simpa using h12
              have hgv : givesF (inM km') x = x.kids := by unfold givesF; rw [if_pos hk48]
              have hown := S.wd.own (mp b (kvM km')) (by simp) rfl
              have hkl := wS_len x.kids
              have hwk := wS_kids x
              replace S := S.toRo (x := mp b (kvM km'))
              refine c_range (κ := Option Addr × Nat) (κx := Empty) (Ds := Ds) x.kids
                (fun i k => [Wk.box b6 24 x.cells, Wk.row 24 5 ps sh.length cs (encL sh), Wk.box b4 22 [.slice k.1 (st'.length + i) k.2], Wk.row 24 5 k.1 (st'.length + i) k.2 (encL (st' ++ x.kids.take i)), (mp b (kvM km')).ro, marks Ds]) (fun _ _ => [BoxF b1 24 x.cells, BoxF b2 99 [.map (some b)], LsF p 0 xs, UF w0]) (fun _ _ => True) (fun k => k.elim) (fun k => k.elim) (fun _ k => k.elim) (p2, c2) S
                (E := fun (y : LTerm) vs _ _ => vs = [vL y]) (gf := 123) (lb := [.pointer (some ⟨b1, 0, none⟩), .pointer (some ⟨b2, 0, none⟩)])
                (fun M w1 hM hF hR => by
                  have := opens_it b1 b2 b x km' w1 M hM (hF _ (by simp)) (hF _ (by simp)) (hR (mp b (kvM km')).ro (by simp) rfl) ((hF (UF w0) (by simp)).imp fun w h => h x hxo) (kids6 hgx)
                  rw [hgv] at this; exact this) ⟨trivial, by simp, rfl⟩ ?_ ?_ ?_ ?_
              · clear S
                rintro L D bL M w1 i y vs ⟨p3, c3⟩ W0 w hy - hW0 hgr rfl
                refine ⟨_, inferInstance, fun a S => ?_⟩
                have hil : i < x.kids.length := (List.getElem?_eq_some_iff.1 hy).1
                have hti : x.kids.take (i + 1) = x.kids.take i ++ [y] := by rw [List.take_add_one, hy]; rfl
                have hKL2 : KLt (st'.length + i) (st'.length + i + 1) := ⟨by omega⟩
                have hrl : (encL (st' ++ x.kids.take i)).length = (st'.length + i) * 5 := S.row p3 (st'.length + i) |>.1
                refine c_region ?_
                refine sa S ?_; clear S; intro b10 a w S
                refine sw S ?_; clear S; intro a w S
                refine wl_nil ?_
                refine xtn ?_
                refine rbegin (D := D) (b := bL) S ?_; clear S; intro a w S
                refine c_block ?_
                refine c_drawT (.q 1 (.b2 0 3 (.q 2 (.l 3 (.l 4 (.b2 5 7 (.b2 6 7 (.l 7 (.e)) (.l 6 (.e))) (.l 5 (.l 6 (.e))))))) (.l 0 (.q 2 (.l 4 (.b2 5 7 (.b2 6 7 (.l 7 (.e)) (.l 6 (.e))) (.l 5 (.l 6 (.e))))))))) [Wk.box b10 24 y.cells] S
                  (fun a w => ∃ (p' : Option Addr) (c' : Nat) (l' : List Value), St w1 M [] a w l' [lpI L D (lpR bL .busy none), Wk.box b6 24 x.cells, Wk.row 24 5 ps sh.length cs (encL sh), Wk.box b4 22 [.slice p' (st'.length + (i + 1)) c'], Wk.row 24 5 p' (st'.length + (i + 1)) c' (encL (st' ++ x.kids.take (i + 1))), (mp b (kvM km')).ro, marks Ds] [BoxF b1 24 x.cells, BoxF b2 99 [.map (some b)], LsF p 0 xs, UF w0]) ?_ ?_
                · intro w S
                  refine tq S ?_; clear S; intro a S
                  refine tb2 ?_ ?_
                  · refine sq S ?_; clear S; intro a S
                    refine te S ?_
                    refine tq S ?_; clear S; intro a S
                    refine tl ?_
                    refine sn S ?_; clear S; intro b54 a w S
                    refine te S ?_
                    refine tl ?_
                    refine sap S (by simp [maxLen]; omega) (by omega) ?_; clear S; rintro p4 c4 a w - S
                    refine te S ?_
                    refine tb2 ?_ ?_
                    · refine sq S ?_; clear S; intro a S
                      refine te S ?_
                      refine tb2 ?_ ?_
                      · refine sws S (st'.length + i + 1) (by omega) (by omega) ?_; clear S; intro a w S
                        refine te S ?_
                        refine tl ?_
                        refine sw S ?_; clear S; intro a w S
                        refine te S ?_
                        refine tn ?_
                        have e := own_put (A := encL (st' ++ x.kids.take i)) (Z := [.int .i64 0, .int .i64 0, .int .i64 0, .string ⟨#[]⟩, .slice none 0 0]) (vs := y.cells) _ _ hrl rfl rfl
                        rw [e, show encL (st' ++ x.kids.take i) ++ y.cells = encL (st' ++ x.kids.take (i + 1)) from by rw [hti, ← List.append_assoc, encL_append (st' ++ x.kids.take i) [y], encT_cells]] at S
                        exact ⟨p4, c4, _, S.sub _ _⟩
                      · refine sw S ?_; clear S; intro a w S
                        refine te S ?_
                        refine tl ?_
                        refine sws S (st'.length + i + 1) (by omega) (by omega) ?_; clear S; intro a w S
                        refine te S ?_
                        refine tn ?_
                        have e := own_put (A := encL (st' ++ x.kids.take i)) (Z := [.int .i64 0, .int .i64 0, .int .i64 0, .string ⟨#[]⟩, .slice none 0 0]) (vs := y.cells) _ _ hrl rfl rfl
                        rw [e, show encL (st' ++ x.kids.take i) ++ y.cells = encL (st' ++ x.kids.take (i + 1)) from by rw [hti, ← List.append_assoc, encL_append (st' ++ x.kids.take i) [y], encT_cells]] at S
                        exact ⟨p4, c4, _, S.sub _ _⟩
                    · refine sw S ?_; clear S; intro a w S
                      refine te S ?_
                      refine tl ?_
                      refine sq S ?_; clear S; intro a S
                      refine te S ?_
                      refine tl ?_
                      refine sws S (st'.length + i + 1) (by omega) (by omega) ?_; clear S; intro a w S
                      refine te S ?_
                      refine tn ?_
                      have e := own_put (A := encL (st' ++ x.kids.take i)) (Z := [.int .i64 0, .int .i64 0, .int .i64 0, .string ⟨#[]⟩, .slice none 0 0]) (vs := y.cells) _ _ hrl rfl rfl
                      rw [e, show encL (st' ++ x.kids.take i) ++ y.cells = encL (st' ++ x.kids.take (i + 1)) from by rw [hti, ← List.append_assoc, encL_append (st' ++ x.kids.take i) [y], encT_cells]] at S
                      exact ⟨p4, c4, _, S.sub _ _⟩
                  · refine sn S ?_; clear S; intro b54 a w S
                    refine te S ?_
                    refine tl ?_
                    refine sq S ?_; clear S; intro a S
                    refine te S ?_
                    refine tq S ?_; clear S; intro a S
                    refine tl ?_
                    refine sap S (by simp [maxLen]; omega) (by omega) ?_; clear S; rintro p4 c4 a w - S
                    refine te S ?_
                    refine tb2 ?_ ?_
                    · refine sq S ?_; clear S; intro a S
                      refine te S ?_
                      refine tb2 ?_ ?_
                      · refine sws S (st'.length + i + 1) (by omega) (by omega) ?_; clear S; intro a w S
                        refine te S ?_
                        refine tl ?_
                        refine sw S ?_; clear S; intro a w S
                        refine te S ?_
                        refine tn ?_
                        have e := own_put (A := encL (st' ++ x.kids.take i)) (Z := [.int .i64 0, .int .i64 0, .int .i64 0, .string ⟨#[]⟩, .slice none 0 0]) (vs := y.cells) _ _ hrl rfl rfl
                        rw [e, show encL (st' ++ x.kids.take i) ++ y.cells = encL (st' ++ x.kids.take (i + 1)) from by rw [hti, ← List.append_assoc, encL_append (st' ++ x.kids.take i) [y], encT_cells]] at S
                        exact ⟨p4, c4, _, S.sub _ _⟩
                      · refine sw S ?_; clear S; intro a w S
                        refine te S ?_
                        refine tl ?_
                        refine sws S (st'.length + i + 1) (by omega) (by omega) ?_; clear S; intro a w S
                        refine te S ?_
                        refine tn ?_
                        have e := own_put (A := encL (st' ++ x.kids.take i)) (Z := [.int .i64 0, .int .i64 0, .int .i64 0, .string ⟨#[]⟩, .slice none 0 0]) (vs := y.cells) _ _ hrl rfl rfl
                        rw [e, show encL (st' ++ x.kids.take i) ++ y.cells = encL (st' ++ x.kids.take (i + 1)) from by rw [hti, ← List.append_assoc, encL_append (st' ++ x.kids.take i) [y], encT_cells]] at S
                        exact ⟨p4, c4, _, S.sub _ _⟩
                    · refine sw S ?_; clear S; intro a w S
                      refine te S ?_
                      refine tl ?_
                      refine sq S ?_; clear S; intro a S
                      refine te S ?_
                      refine tl ?_
                      refine sws S (st'.length + i + 1) (by omega) (by omega) ?_; clear S; intro a w S
                      refine te S ?_
                      refine tn ?_
                      have e := own_put (A := encL (st' ++ x.kids.take i)) (Z := [.int .i64 0, .int .i64 0, .int .i64 0, .string ⟨#[]⟩, .slice none 0 0]) (vs := y.cells) _ _ hrl rfl rfl
                      rw [e, show encL (st' ++ x.kids.take i) ++ y.cells = encL (st' ++ x.kids.take (i + 1)) from by rw [hti, ← List.append_assoc, encL_append (st' ++ x.kids.take i) [y], encT_cells]] at S
                      exact ⟨p4, c4, _, S.sub _ _⟩
                rintro a w ⟨p4, c4, l4, S⟩
                refine xbn ?_
                exact rnext (D := D) (b := bL) S fun W hW => ⟨(p4, c4), trivial, hW⟩
              · clear S
                rintro D ⟨p3, c3⟩ a w - S
                replace S := S.join (Ds := Ds)
                replace S := S.unRo (x := mp b (kvM km')) hown
                rw [List.take_length, ← List.length_append] at S
                iterate 3 (refine xbn ?_)
                refine xtn ?_
                have hI2 := hI.open48 h9 hO hk48
                have hkml : km'.length = km.length + 1 := by rw [hkm']; simp
                rw [← hkm'] at hI2
                have hw2 : wS (st' ++ x.kids) = wS st' + wS x.kids := wS_append _ _
                exact ⟨⟨p3, c3, ps, cs, st' ++ x.kids, sh, km', [D] ++ Ds⟩, ⟨_, _, _, _, _, _, _, _, rfl, hI2, by omega, by omega, S.uu, S.sub _ _⟩, by simp only; omega⟩
              · intro D k; exact k.elim
              · intro id D k; exact k.elim
            · refine c_merge (fun a w => ∃ uu : Nat → Value,  St w0 (fun _ => False) (dsOf Ds) a w ((.slice p xs.length c) :: uu 1 :: uu 2 :: (.map (some b)) :: (.pointer (some ⟨b4, 0, none⟩)) :: (.slice ps sh.length cs) :: (.pointer (some ⟨b6, 0, none⟩)) :: uu 7 :: uu 8 :: uu 9 :: uu 10 :: uu 11 :: uu 12 :: uu 13 :: uu 14 :: uu 15 :: uu 16 :: uu 17 :: uu 18 :: uu 19 :: uu 20 :: uu 21 :: uu 22 :: uu 23 :: uu 24 :: uu 25 :: uu 26 :: uu 27 :: uu 28 :: uu 29 :: uu 30 :: uu 31 :: uu 32 :: uu 33 :: uu 34 :: uu 35 :: uu 36 :: uu 37 :: uu 38 :: uu 39 :: uu 40 :: uu 41 :: uu 42 :: (.int .i64 x.kind) :: uu 44 :: uu 45 :: uu 46 :: uu 47 :: uu 48 :: uu 49 :: uu 50 :: uu 51 :: uu 52 :: uu 53 :: uu 54 :: uu 55 :: uu 56 :: (.bool (decide (x.kind = 6) || decide (x.kind = 7))) :: uu 58 :: uu 59 :: uu 60 :: uu 61 :: uu 62 :: uu 63 :: uu 64 :: uu 65 :: uu 66 :: uu 67 :: uu 68 :: uu 69 :: uu 70 :: uu 71 :: uu 72 :: uu 73 :: uu 74 :: uu 75 :: uu 76 :: uu 77 :: uu 78 :: uu 79 :: uu 80 :: uu 81 :: uu 82 :: uu 83 :: uu 84 :: uu 85 :: []) [Wk.box b6 24 x.cells, Wk.row 24 5 ps sh.length cs (encL sh), Wk.box b4 22 [.slice p2 st'.length c2], Wk.row 24 5 p2 st'.length c2 (encL st'), mp b (kvM (km ++ [(nameF x.t, x)])), marks Ds] [LsF p 0 xs, UF w0]) ?_ ?_
              · refine c_seq ?_
                refine c_region ?_
                iterate 2 (refine sq S ?_; clear S; intro a S)
                refine wl_nil ?_
                refine xtn ?_
                refine c_cond S (fun h17 => ?_) (fun h17 => ?_)
                · refine c_skip ?_
                  refine xtn ?_
                  rw [show decide (x.kind = 6) = (decide (x.kind = 6) || decide (x.kind = 7)) from by rw [h17]; rfl] at S
                  exact ⟨S.uu, S.sub _ _⟩
                · refine c_region ?_
                  iterate 2 (refine sq S ?_; clear S; intro a S)
                  refine wl_nil ?_
                  refine xtn ?_
                  rw [show decide (x.kind = 7) = (decide (x.kind = 6) || decide (x.kind = 7)) from by rw [h17]; rfl] at S
                  exact ⟨S.uu, S.sub _ _⟩
              · clear S; rintro a w ⟨uu, S⟩
                refine c_cond S (fun h17 => ?_) (fun h17 => ?_)
                · refine c_region ?_
                  iterate 2 (refine sq S ?_; clear S; intro a S)
                  refine sn S ?_; clear S; intro b62 a w S
                  have e1 : encL sh ++ x.cells = encL (sh ++ [x]) := by rw [encL_append, encT_cells]
                  refine sap S (by simp [maxLen]; omega) (by omega) ?_; clear S; rintro ps2 cs2 a w - S
                  rw [show encL sh ++ [Value.int .i64 x.kind, Value.int .i64 x.user, Value.int .i64 x.num, str x.text, Value.slice x.p x.kids.length x.cap] = encL (sh ++ [x]) from e1, show sh.length + 1 = (sh ++ [x]).length from by simp] at S
                  refine sq S ?_; clear S; intro a S
                  refine wl_nil ?_
                  iterate 2 (refine xbn ?_)
                  refine xtn ?_
                  have hI2 := hI.shut h9
                  have hw2 : wH (sh ++ [x]) = wH sh + (2 * cnt x.t - 1) := by rw [wH_append]; simp [wH]
                  exact ⟨⟨p2, c2, ps2, cs2, st', sh ++ [x], km ++ [(nameF x.t, x)], Ds⟩, ⟨_, _, _, _, _, _, _, _, rfl, hI2, by omega, by (try simp only [List.length_append, List.length_singleton]); omega, S.uu, S.sub _ _⟩, by simp only; omega⟩
                · refine c_skip ?_
                  iterate 2 (refine xbn ?_)
                  refine xtn ?_
                  have hI2 := hI.other h9 (by rintro h; simp [h] at h12) (by rintro h; simp [h] at h12) (by rintro h; simp [h] at h17) (by rintro h; simp [h] at h17)
                  exact ⟨⟨p2, c2, ps, cs, st', sh, km ++ [(nameF x.t, x)], Ds⟩, ⟨_, _, _, _, _, _, _, _, rfl, hI2, by omega, by (try simp only [List.length_append, List.length_singleton]); omega, S.uu, S.sub _ _⟩, by simp only; omega⟩
      · refine c_exit ?_
        iterate 2 (refine xte ?_)
        refine xbe ?_
        refine xtn ?_
        iterate 2 (refine c_seq ?_)
        have hst0 : st = [] := by
          cases st with
          | nil => rfl
          | cons x st => simp at h4
        subst hst0
        rw [List.length_nil, encL_nil] at S
        refine c_region ?_
        iterate 3 (refine sq S ?_; clear S; intro a S)
        refine wl_nil ?_
        refine xtn ?_
        refine c_block ?_
        refine c_loop (ι := Nat × Option Addr × Nat) (fun q a w => ∃ i p3 c3, q = (i, p3, c3) ∧ i ≤ sh.length ∧ (∀ j, j < i → givesF (inM km) (nthL sh j) = []) ∧ ∃ uu : Nat → Value,  St w0 (fun _ => False) (dsOf Ds) a w ((.slice p xs.length c) :: uu 1 :: uu 2 :: (.map (some b)) :: (.pointer (some ⟨b4, 0, none⟩)) :: (.slice ps sh.length cs) :: uu 6 :: uu 7 :: uu 8 :: uu 9 :: uu 10 :: uu 11 :: uu 12 :: uu 13 :: uu 14 :: uu 15 :: uu 16 :: uu 17 :: uu 18 :: uu 19 :: uu 20 :: uu 21 :: uu 22 :: uu 23 :: uu 24 :: uu 25 :: uu 26 :: uu 27 :: uu 28 :: uu 29 :: uu 30 :: uu 31 :: uu 32 :: uu 33 :: uu 34 :: uu 35 :: uu 36 :: uu 37 :: uu 38 :: uu 39 :: uu 40 :: uu 41 :: uu 42 :: uu 43 :: uu 44 :: uu 45 :: uu 46 :: uu 47 :: uu 48 :: uu 49 :: uu 50 :: uu 51 :: uu 52 :: uu 53 :: uu 54 :: uu 55 :: uu 56 :: uu 57 :: uu 58 :: uu 59 :: uu 60 :: uu 61 :: uu 62 :: uu 63 :: (.slice ps sh.length cs) :: (.int .i64 sh.length) :: (.int .i64 (i : Nat)) :: uu 67 :: uu 68 :: uu 69 :: uu 70 :: uu 71 :: uu 72 :: uu 73 :: uu 74 :: uu 75 :: uu 76 :: uu 77 :: uu 78 :: uu 79 :: uu 80 :: uu 81 :: uu 82 :: uu 83 :: uu 84 :: uu 85 :: []) [Wk.row 24 5 ps sh.length cs (encL sh), Wk.box b4 22 [.slice p3 0 c3], Wk.row 24 5 p3 0 c3 [], mp b (kvM km), marks Ds] [LsF p 0 xs, UF w0]) (fun q => sh.length - q.1) (0, p2, c2) ?_ ?_
        · exact ⟨_, _, _, rfl, Nat.zero_le _, fun j hj => absurd hj (Nat.not_lt_zero _), S.uu, S⟩
        · clear S
          rintro _ a w ⟨i, p3, c3, rfl, hi, hno, uu, S⟩
          refine c_seq ?_
          refine c_region ?_
          refine sq S ?_; clear S; intro a S
          refine wl_nil ?_
          refine xtn ?_
          refine c_seq ?_
          refine c_cond S (fun h21 => ?_) (fun h21 => ?_)
          · refine c_skip ?_
            refine xtn ?_
            refine c_seq ?_
            refine c_block ?_
            refine c_seq ?_
            have hil : i < sh.length := by simp at h21; omega
            have hKL : KLt i sh.length := ⟨hil⟩
            obtain ⟨x, hxd⟩ : ∃ x, x = nthL sh i := ⟨_, rfl⟩
            have hxi : sh[i]? = some x := by rw [hxd]; exact nth_get hil
            obtain ⟨hox, hgx, hdx⟩ := hI.old x (.inr (.inl (List.mem_of_getElem? hxi)))
            have hxo : Stable (fun _ => False) w0 (LtF x) := by rw [hOdef] at hox; exact hox.1
            obtain ⟨g, hgd⟩ : ∃ g, g = givesF (inM km) x := ⟨_, rfl⟩
            have hwg := wS_gives (inM km) x
            rw [← hgd] at hwg
            have hwe := wH_erase sh i x hxi
            have hlg := wS_len g
            have hlh2 := wH_len sh
            have hw00 : wS [] = 0 := rfl
            refine c_region ?_
            iterate 2 (refine sq S ?_; clear S; intro a S)
            refine slrA x.cells S sh.length (fun j v hj => encL_at hxi hj) ?_; clear S; intro a S
            refine sa S ?_; clear S; intro b12 a w S
            refine sq S ?_; clear S; intro a S
            refine sw S ?_; clear S; intro a w S
            refine wl_nil ?_
            refine xtn ?_
            refine c_seq ?_
            refine c_drawT (.q 1 (.q 2 (.b2 0 3 (.l 3 (.l 4 (.l 5 (.e)))) (.l 0 (.l 4 (.l 5 (.e))))))) [Wk.box b12 24 x.cells, mp b (kvM km)] S
              (fun a w => ∃ (p' : Option Addr) (c' : Nat), ∃ uu : Nat → Value,  St w0 (fun _ => False) (dsOf Ds) a w ((.slice p xs.length c) :: uu 1 :: uu 2 :: (.map (some b)) :: (.pointer (some ⟨b4, 0, none⟩)) :: (.slice ps sh.length cs) :: uu 6 :: uu 7 :: uu 8 :: uu 9 :: uu 10 :: (.int .i64 (i : Nat)) :: uu 12 :: uu 13 :: uu 14 :: uu 15 :: uu 16 :: uu 17 :: uu 18 :: uu 19 :: uu 20 :: uu 21 :: uu 22 :: uu 23 :: uu 24 :: uu 25 :: uu 26 :: uu 27 :: uu 28 :: uu 29 :: uu 30 :: uu 31 :: uu 32 :: uu 33 :: uu 34 :: uu 35 :: uu 36 :: uu 37 :: uu 38 :: uu 39 :: uu 40 :: uu 41 :: uu 42 :: uu 43 :: uu 44 :: uu 45 :: uu 46 :: uu 47 :: uu 48 :: uu 49 :: uu 50 :: uu 51 :: uu 52 :: uu 53 :: uu 54 :: uu 55 :: uu 56 :: uu 57 :: uu 58 :: uu 59 :: uu 60 :: uu 61 :: uu 62 :: uu 63 :: (.slice ps sh.length cs) :: (.int .i64 sh.length) :: (.int .i64 (i : Nat)) :: uu 67 :: uu 68 :: uu 69 :: uu 70 :: uu 71 :: uu 72 :: uu 73 :: uu 74 :: uu 75 :: uu 76 :: uu 77 :: uu 78 :: uu 79 :: uu 80 :: uu 81 :: uu 82 :: uu 83 :: uu 84 :: uu 85 :: []) [Wk.row 24 5 ps sh.length cs (encL sh), Wk.box b4 22 [.slice p' g.length c'], Wk.row 24 5 p' g.length c' (encL g), mp b (kvM km), marks Ds] [LsF p 0 xs, UF w0]) ?_ ?_
            · intro w S
              iterate 2 (refine tq S ?_; clear S; intro a S)
              refine tb2 ?_ ?_
              · refine sq S ?_; clear S; intro a S
                refine te S ?_
                refine tl ?_
                have hlt := foots_lt S
                refine sr S (opens_c x b w) ?_; clear S; rintro _ a w ⟨b1, b2, rfl, n1, n2, f1, f2⟩ S
                replace S := S.add (Φ := BoxF b2 99 [.map (some b)]) (BoxF.stable f2 (fun hm => by have := hlt _ hm; omega))
                replace S := S.add (Φ := BoxF b1 24 x.cells) (BoxF.stable f1 (fun hm => by have := hlt _ hm; omega))
                clear hlt n1 n2 f1 f2
                refine te S ?_
                refine tl ?_
                have hfs : ∀ Φ ∈ [BoxF b1 24 x.cells, BoxF b2 99 [.map (some b)], MpF b (kvM km), LtF x], Stable (fun k => ∃ ad, p3 = some ad ∧ k = ad.block) w Φ := by
                  intro Φ hΦ
                  simp only [List.mem_cons, List.not_mem_nil, or_false] at hΦ
                  rcases hΦ with rfl | rfl | rfl | rfl
                  · exact S.rowFact p3 0 (by simp)
                  · exact S.rowFact p3 0 (by simp)
                  · exact MpF.stable (S.wd.held (mp b (kvM km)) (by simp)) (fun hm => S.apart2 (Wk.row 24 5 p3 0 c3 []) (mp b (kvM km)) b hm rfl)
                  · exact (S.rowFact (Φ := UF w0) p3 0 (by simp)).imp fun w h => h x hxo
                have hap := appendSeq_c 123 [.pointer (some ⟨b1, 0, none⟩), .pointer (some ⟨b2, 0, none⟩)] g [] [BoxF b1 24 x.cells, BoxF b2 99 [.map (some b)], MpF b (kvM km), LtF x] p3 0 c3 w (by omega) (S.row p3 0) hfs
                  (fun M w1 hM hF => by
                    have := opens_it b1 b2 b x km w1 M hM (hF _ (by simp)) (hF _ (by simp)) (hF _ (by simp)) (hF _ (by simp)) (kids6 hgx)
                    rw [← hgd] at this; exact this)
                refine srg p3 0 S hap ?_; clear S hfs hap; rintro _ a w ⟨p4, c4, rfl, hown4, hnew4⟩ hS
                have S := hS _ hown4 hnew4
                clear hS hown4 hnew4
                rw [Nat.zero_add, List.nil_append] at S
                refine te S ?_
                refine tl ?_
                refine sw S ?_; clear S; intro a w S
                refine te S ?_
                refine tn ?_
                exact ⟨p4, c4, S.uu, S.sub _ _⟩
              · have hlt := foots_lt S
                refine sr S (opens_c x b w) ?_; clear S; rintro _ a w ⟨b1, b2, rfl, n1, n2, f1, f2⟩ S
                replace S := S.add (Φ := BoxF b2 99 [.map (some b)]) (BoxF.stable f2 (fun hm => by have := hlt _ hm; omega))
                replace S := S.add (Φ := BoxF b1 24 x.cells) (BoxF.stable f1 (fun hm => by have := hlt _ hm; omega))
                clear hlt n1 n2 f1 f2
                refine te S ?_
                refine tl ?_
                refine sq S ?_; clear S; intro a S
                refine te S ?_
                refine tl ?_
                have hfs : ∀ Φ ∈ [BoxF b1 24 x.cells, BoxF b2 99 [.map (some b)], MpF b (kvM km), LtF x], Stable (fun k => ∃ ad, p3 = some ad ∧ k = ad.block) w Φ := by
                  intro Φ hΦ
                  simp only [List.mem_cons, List.not_mem_nil, or_false] at hΦ
                  rcases hΦ with rfl | rfl | rfl | rfl
                  · exact S.rowFact p3 0 (by simp)
                  · exact S.rowFact p3 0 (by simp)
                  · exact MpF.stable (S.wd.held (mp b (kvM km)) (by simp)) (fun hm => S.apart2 (Wk.row 24 5 p3 0 c3 []) (mp b (kvM km)) b hm rfl)
                  · exact (S.rowFact (Φ := UF w0) p3 0 (by simp)).imp fun w h => h x hxo
                have hap := appendSeq_c 123 [.pointer (some ⟨b1, 0, none⟩), .pointer (some ⟨b2, 0, none⟩)] g [] [BoxF b1 24 x.cells, BoxF b2 99 [.map (some b)], MpF b (kvM km), LtF x] p3 0 c3 w (by omega) (S.row p3 0) hfs
                  (fun M w1 hM hF => by
                    have := opens_it b1 b2 b x km w1 M hM (hF _ (by simp)) (hF _ (by simp)) (hF _ (by simp)) (hF _ (by simp)) (kids6 hgx)
                    rw [← hgd] at this; exact this)
                refine srg p3 0 S hap ?_; clear S hfs hap; rintro _ a w ⟨p4, c4, rfl, hown4, hnew4⟩ hS
                have S := hS _ hown4 hnew4
                clear hS hown4 hnew4
                rw [Nat.zero_add, List.nil_append] at S
                refine te S ?_
                refine tl ?_
                refine sw S ?_; clear S; intro a w S
                refine te S ?_
                refine tn ?_
                exact ⟨p4, c4, S.uu, S.sub _ _⟩
            rintro a w ⟨p4, c4, uu, S⟩
            refine xtn ?_
            refine c_seq ?_
            refine c_region ?_
            iterate 3 (refine sq S ?_; clear S; intro a S)
            refine wl_nil ?_
            refine xtn ?_
            refine c_cond S (fun h24 => ?_) (fun h24 => ?_)
            · refine c_seq ?_
              refine c_region ?_
              iterate 4 (refine sq S ?_; clear S; intro a S)
              rw [w64 _ (by omega) (by omega), show (i : Int) + 1 = ((i + 1 : Nat) : Int) from rfl] at S
              refine srg ps sh.length S (delete_c sh i ps sh.length cs w hil rfl (by omega) (S.row ps sh.length)) ?_; clear S; rintro _ a w ⟨rfl, hown5⟩ hS
              have S := hS _ hown5 (fun ad h => .inl ⟨ad, h, rfl⟩)
              clear hS hown5
              rw [show sh.length - 1 = (sh.eraseIdx i).length from by rw [List.length_eraseIdx_of_lt hil]] at S
              refine sq S ?_; clear S; intro a S
              refine wl_nil ?_
              refine xtn ?_
              refine c_exit ?_
              refine xbx ?_
              iterate 2 (refine xte ?_)
              refine xbx ?_
              refine xte ?_
              refine xbe ?_
              refine xtn ?_
              have hgne : givesF (inM km) x ≠ [] := by
                rw [← hgd]; rintro rfl; simp at h24
              have hI2 := hI.reopen hO hxi hgne
              rw [← hgd] at hI2
              exact ⟨⟨p4, c4, ps, cs, g, sh.eraseIdx i, km, Ds⟩, ⟨_, _, _, _, _, _, _, _, rfl, hI2, by omega, S.uu, S⟩, by simp only; omega⟩
            · refine c_skip ?_
              refine xbn ?_
              refine xtn ?_
              refine c_region ?_
              iterate 2 (refine sq S ?_; clear S; intro a S)
              refine wl_nil ?_
              refine xtn ?_
              have hg0 : g = [] := by
                cases hq : g with
                | nil => rfl
                | cons y g' => rw [hq] at h24; simp at h24
              rw [w64 ((i : Int) + 1) (by omega) (by omega), hg0, List.length_nil, encL_nil] at S
              refine ⟨(i + 1, p4, c4), ⟨_, _, _, rfl, hil, fun j hj => ?_, S.uu, S⟩, by simp only; omega⟩
              rcases Nat.lt_or_ge j i with h | h
              · exact hno j h
              · obtain rfl : j = i := by omega
                rw [← hxd, ← hgd, hg0]
          · refine c_exit ?_
            iterate 2 (refine xte ?_)
            refine xbe ?_
            refine xtn ?_
            refine c_exit ?_
            refine xbx ?_
            refine xte ?_
            refine xbe ?_
            refine xtn ?_
            refine c_seq ?_
            refine c_region ?_
            iterate 2 (refine sq S ?_; clear S; intro a S)
            refine wl_nil ?_
            refine xtn ?_
            refine c_ret ?_
            refine xsr ?_
            have hi2 : sh.length ≤ i := by simp at h21; omega
            have hA := hI.apart fun x hx' => by
              obtain ⟨j, hj, hjx⟩ := List.mem_iff_getElem.1 hx'
              have := hno j (by omega)
              rw [show nthL sh j = x from by rw [← hjx]; simp [nthL, hj]] at this
              exact this
            have hown := S.wd.own (mp b (kvM km)) (by simp) rfl b rfl
            refine endM1 S (fun w hw => ?_)
            exact ⟨b, km, rfl, hw.held (mp b (kvM km)) (by simp), hown.elim (fun h => h.elim) id, hA, by omega, fun e he => by
              have := (hI.old e.2 (.inr (.inr ⟨e, he, rfl⟩))).1
              rw [hOdef] at this
              exact ⟨fun w2 hw2 => this.1 w2 (hw.agree.trans' hw2 fun i hi hib => by
                subst hib
                exact hown.elim (fun h => h.elim) (fun h => absurd hi (by omega))), this.2⟩⟩
end Go.Proofs.YtgielmldblopeaaDoor

/- Package close: Can. -/
namespace Go.Proofs.YtgielmldblopeaaDoor
open Go Go.Wk
set_option synthInstance.maxSize 100000
set_option synthInstance.maxHeartbeats 400000
set_option maxRecDepth 100000

noncomputable def derB (K : List Term) (t : Term) : Bool := @decide (Der K t) (Classical.propDecidable _)
theorem derB_iff {K : List Term} {t : Term} : derB K t = true ↔ Der K t := by
  unfold derB; exact @decide_eq_true_iff _ (Classical.propDecidable _)
/-- what close.Can tells. -/
noncomputable def canB (K : List Term) (t : Term) : Bool := if chkF K [t] = 0 then derB K t else false
theorem chk_zero {K L : List Term} : chkF K L = 0 ↔ K.length ≤ 500 ∧ ∀ t ∈ K ++ L, Good t := by
  have hb : ∀ t, badF t = false ↔ Good t := fun t => by rw [badF, ← good_check]; simp
  unfold chkF
  split
  · rename_i h; constructor
    · intro h; cases h
    · intro h2; omega
  · rename_i h
    split
    · rename_i h2
      constructor
      · intro h; cases h
      · rintro ⟨_, h3⟩
        obtain ⟨t, ht, h4⟩ := List.any_eq_true.1 h2
        rw [(hb t).2 (h3 t ht)] at h4; cases h4
    · rename_i h2
      refine ⟨fun _ => ⟨by omega, fun t ht => (hb t).1 ?_⟩, fun _ => rfl⟩
      cases hq : badF t with
      | false => rfl
      | true => exact absurd (List.any_eq_true.2 ⟨t, ht, hq⟩) h2
theorem can_cl (xs : List LTerm) (t : LTerm) (p : Option Addr) (c : Nat) (w0 : World) (hx : Stable (fun _ => False) w0 (LsF p 0 xs)) (ht : Stable (fun _ => False) w0 (LtF t)) :
    Ret Tryd.prog 29 [.slice p xs.length c, vL t] w0 (fun _ => False) fun v _ => v = .tuple ⟨[.bool (canB (xs.map LTerm.t) t.t), .int .i64 (chkF (xs.map LTerm.t) [t.t])]⟩ := by
  refine enter Tryd.func29 rfl rfl (Wd.begin (fs := [LtF t, LsF p 0 xs]) (by simp; exact ⟨ht, hx⟩)) (fun a S => ?_)
  simp only [Tryd.ntmps29, List.length_cons, List.length_nil, Nat.reduceAdd, Nat.reduceSub, List.replicate_succ, List.replicate_zero, List.cons_append, List.nil_append] at S
  refine c_seq ?_
  refine c_region ?_
  refine sa S ?_; clear S; intro b3 a w S
  iterate 2 (refine sq S ?_; clear S; intro a S)
  refine wl_nil ?_
  refine xtn ?_
  iterate 2 (refine c_seq ?_)
  refine c_region ?_
  iterate 2 (refine sq S ?_; clear S; intro a S)
  refine sn S ?_; clear S; intro b9 a w S
  have hb9 := S.box b9
  have h9 : Stable (fun _ => False) w (LsF (some ⟨b9, 0, none⟩) 0 [t]) := fun w' hw' =>
    LsIn.of_block [t] (by rw [hw'.blk (Array.getElem?_eq_some_iff.1 hb9).1 (fun h => h)]; exact hb9) (fun x hx => by obtain rfl := List.mem_singleton.1 hx; exact S.mem.t0 x w' hw')
  have hck := check_cl xs [t] p (some ⟨b9, 0, none⟩) xs.length 1 c 1 w rfl rfl (by omega) (S.mem.fact0 (LsF p 0 xs)) h9
  refine sr S hck ?_; clear S hck h9 hb9; rintro _ a w rfl S
  refine sq S ?_; clear S; intro a S
  refine wl_nil ?_
  refine xtn ?_
  refine c_seq ?_
  refine c_region ?_
  iterate 2 (refine sq S ?_; clear S; intro a S)
  refine wl_nil ?_
  refine xtn ?_
  refine c_cond S (fun h2 => ?_) (fun h2 => ?_)
  · refine c_seq ?_
    refine c_region ?_
    iterate 3 (refine sq S ?_; clear S; intro a S)
    refine wl_nil ?_
    refine xtn ?_
    refine c_ret ?_
    refine xtr ?_
    refine end2 S (fun _ => ?_)
    have h2' : ¬ chkF (xs.map LTerm.t) [t.t] = 0 := by simpa using h2
    rw [canB, if_neg h2']
    rfl
  · refine c_skip ?_
    refine xtn ?_
    refine c_seq ?_
    refine c_drawD [(0, true), (2, true), (1, false), (3, false), (4, true), (5, true)] [] S ?_; clear S; intro w S
    iterate 2 (refine dq S ?_; clear S; intro a S)
    refine dl ?_
    have h2' : chkF (xs.map LTerm.t) [t.t] = 0 := by simpa using h2
    obtain ⟨hlen, hgood⟩ := chk_zero.1 h2'
    rw [List.length_map] at hlen
    refine sr S (apart_c xs p c w hlen (S.mem.fact0 (LsF p 0 xs)) (fun x hx => hgood _ (List.mem_append_left _ (List.mem_map.2 ⟨x, hx, rfl⟩)))) ?_; clear S; rintro _ a w ⟨b, km, rfl, hm, hb, hA, -, -⟩ S
    refine de S ?_
    refine dl ?_
    refine sr S (can_c t b km w (S.mem.t0 t) (MpF.stable hm (fun h => h))) ?_; clear S; rintro _ a w rfl S
    refine de S ?_
    iterate 2 (refine dq S ?_; clear S; intro a S)
    refine dn ?_
    refine xtn ?_
    refine c_ret ?_
    refine end2 S (fun _ => ?_)
    rw [canB, if_pos h2', h2']
    have hgt : Good t.t := hgood _ (List.mem_append_right _ (by simp))
    have e : canF (inM km) t.t = derB (xs.map LTerm.t) t.t := by
      rw [Bool.eq_iff_iff, derB_iff, can_iff hA hgt]
    rw [e]
instance {xs : List LTerm} {t : LTerm} {p : Option Addr} {n c : Nat} {bs fs} [hn : LenN xs n] [hx : HasLs fs p xs] [HasT fs t] : CallV Tryd.prog 29 [.slice p n c, vL t] bs fs (.tuple ⟨[.bool (canB (xs.map LTerm.t) t.t), .int .i64 (chkF (xs.map LTerm.t) [t.t])]⟩) :=
  ⟨fun w m => by
    have := hn.eq
    subst this
    exact can_cl xs t p c w ((hx.of _ _ m.facts).less fun _ _ h => h.elim) (m.t0 _)⟩
end Go.Proofs.YtgielmldblopeaaDoor
