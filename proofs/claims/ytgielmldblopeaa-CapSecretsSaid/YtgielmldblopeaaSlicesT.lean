/- Package slices over terms: IndexFunc, ContainsFunc. -/
import Derived.Test.YtgielmldblopeaaTermC
import Derived.Test.YtgielmldblopeaaW3
namespace Go.Proofs.Ytgielmldblopeaa
open Go Go.Wk
set_option synthInstance.maxSize 100000
set_option synthInstance.maxHeartbeats 400000
set_option maxRecDepth 100000

def idxQ (q : LTerm → Bool) : List LTerm → Int → Int
  | [], _ => -1
  | x :: xs, i => if q x then i else idxQ q xs (i + 1)
theorem idxQ_any (q : LTerm → Bool) : ∀ (xs : List LTerm) (i : Int), 0 ≤ i → (decide (0 ≤ idxQ q xs i) = xs.any q)
  | [], i, h => by simp [idxQ]
  | x :: xs, i, h => by
    rw [idxQ, List.any_cons]
    cases hq : q x with
    | true => simp [h]
    | false => simpa using idxQ_any q xs (i + 1) (by omega)
theorem index_c (F : Nat) [EntF Try.prog F] (ca : List Value) (q : LTerm → Bool) (xs : List LTerm) (p : Option Addr) (n c : Nat) (w0 : World) (hn : xs.length = n) (hl : n ≤ 9223372036854775807) (hx : Stable (fun _ => False) w0 (LsF p 0 xs))
    (hF : ∀ x ∈ xs, ∀ w, Agree (fun _ => False) w0 w → Ret Try.prog F (vL x :: ca) w (fun _ => False) fun v _ => v = .bool (q x)) :
    Ret Try.prog 128 [.slice p n c, .func (.func F) #[] ⟨ca⟩] w0 (fun _ => False) fun v _ => v = .int .i64 (idxQ q xs 0) := by
  refine enter Try.func128 rfl rfl (Wd.begin (fs := [LsF p 0 xs]) (by simpa using hx)) (fun a S => ?_)
  simp only [Try.ntmps128, List.length_cons, List.length_nil, Nat.reduceAdd, Nat.reduceSub, List.replicate_succ, List.replicate_zero, List.cons_append, List.nil_append] at S
  refine c_seq ?_
  refine c_region ?_
  refine sq S ?_; clear S; intro a S
  refine wl_nil ?_
  refine xtn ?_
  iterate 2 (refine c_seq ?_)
  refine c_region ?_
  iterate 3 (refine sq S ?_; clear S; intro a S)
  refine wl_nil ?_
  refine xtn ?_
  refine c_block ?_
  refine c_loop (ι := Nat) (fun k a w => k ≤ n ∧ idxQ q (xs.drop k) k = idxQ q xs 0 ∧ ∃ uu : Nat → Value,  St w0 (fun _ => False) [] a w ((.slice p n c) :: (.func (.func F) #[] ⟨ca⟩) :: uu 2 :: uu 3 :: uu 4 :: uu 5 :: uu 6 :: (.int .i64 n) :: (.int .i64 (k : Nat)) :: uu 9 :: uu 10 :: uu 11 :: uu 12 :: uu 13 :: uu 14 :: uu 15 :: uu 16 :: uu 17 :: uu 18 :: []) [] [LsF p 0 xs]) (fun k => n - k) 0 ?_ ?_
  · exact ⟨Nat.zero_le _, rfl, S.uu, S⟩
  · clear S
    rintro k a w ⟨hk, hrel, uu, S⟩
    refine c_seq ?_
    refine c_region ?_
    refine sq S ?_; clear S; intro a S
    refine wl_nil ?_
    refine xtn ?_
    refine c_seq ?_
    refine c_cond S (fun h2 => ?_) (fun h2 => ?_)
    · refine c_skip ?_
      refine xtn ?_
      refine c_seq ?_
      refine c_block ?_
      refine c_seq ?_
      refine c_region ?_
      iterate 2 (refine sq S ?_; clear S; intro a S)
      refine wl_nil ?_
      refine xtn ?_
      refine c_seq ?_
      refine c_region ?_
      iterate 3 (refine sq S ?_; clear S; intro a S)
      have hkl : k < n := by simp at h2; omega
      have hK : KLt k n := ⟨hkl⟩
      have hK2 : KLt k xs.length := ⟨by omega⟩
      iterate 2 (refine sq S ?_; clear S; intro a S)
      rw [nth_drop (show k < xs.length by omega), idxQ] at hrel
      refine sr S (hF (nthL xs k) (nth_mem (by omega)) w S.wd.agree) ?_; clear S; rintro _ a w rfl S
      refine wl_nil ?_
      refine xtn ?_
      refine c_cond S (fun h4 => ?_) (fun h4 => ?_)
      · refine c_seq ?_
        refine c_region ?_
        iterate 2 (refine sq S ?_; clear S; intro a S)
        refine wl_nil ?_
        refine xtn ?_
        refine c_ret ?_
        refine xbr ?_
        iterate 2 (refine xtr ?_)
        refine xbr ?_
        refine xtr ?_
        refine end1 S (fun _ => ?_)
        rw [if_pos (by simpa using h4)] at hrel
        rw [← hrel]
      · refine c_skip ?_
        refine xbn ?_
        refine xtn ?_
        refine c_region ?_
        iterate 2 (refine sq S ?_; clear S; intro a S)
        refine wl_nil ?_
        refine xtn ?_
        rw [if_neg (by simpa using h4)] at hrel
        rw [w64 ((k : Int) + 1) (by omega) (by omega)] at S
        exact ⟨k + 1, ⟨hkl, by rw [← hrel]; rfl, S.uu, S⟩, by omega⟩
    · refine c_exit ?_
      iterate 2 (refine xte ?_)
      refine xbe ?_
      refine xtn ?_
      refine c_seq ?_
      refine c_region ?_
      refine sq S ?_; clear S; intro a S
      refine wl_nil ?_
      refine xtn ?_
      refine c_ret ?_
      refine end1 S (fun _ => ?_)
      have h6 : n ≤ k := by simp at h2; omega
      rw [List.drop_of_length_le (by omega), idxQ] at hrel
      rw [← hrel]
theorem contains_c (F : Nat) [EntF Try.prog F] (ca : List Value) (q : LTerm → Bool) (xs : List LTerm) (p : Option Addr) (n c : Nat) (w0 : World) (hn : xs.length = n) (hl : n ≤ 9223372036854775807) (hx : Stable (fun _ => False) w0 (LsF p 0 xs))
    (hF : ∀ x ∈ xs, ∀ w, Agree (fun _ => False) w0 w → Ret Try.prog F (vL x :: ca) w (fun _ => False) fun v _ => v = .bool (q x)) :
    Ret Try.prog 90 [.slice p n c, .func (.func F) #[] ⟨ca⟩] w0 (fun _ => False) fun v _ => v = .bool (xs.any q) := by
  refine enter Try.func90 rfl rfl (Wd.begin (fs := [LsF p 0 xs]) (by simpa using hx)) (fun a S => ?_)
  simp only [Try.ntmps90, List.length_cons, List.length_nil, Nat.reduceAdd, Nat.reduceSub, List.replicate_succ, List.replicate_zero, List.cons_append, List.nil_append] at S
  refine c_seq ?_
  refine c_region ?_
  refine sq S ?_; clear S; intro a S
  refine wl_nil ?_
  refine xtn ?_
  refine c_seq ?_
  refine c_region ?_
  iterate 2 (refine sq S ?_; clear S; intro a S)
  refine sr S (index_c F ca q xs p n c _ hn hl (S.mem.fact0 (LsF p 0 xs)) (fun x hx w' hw' => hF x hx w' (S.wd.agree.trans hw'))) ?_; clear S; rintro _ a w rfl S
  iterate 2 (refine sq S ?_; clear S; intro a S)
  refine wl_nil ?_
  refine xtn ?_
  refine c_ret ?_
  refine end1 S (fun _ => ?_)
  rw [← idxQ_any q xs 0 (by omega)]
end Go.Proofs.Ytgielmldblopeaa
