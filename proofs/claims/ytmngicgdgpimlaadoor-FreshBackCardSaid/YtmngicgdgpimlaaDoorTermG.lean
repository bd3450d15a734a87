/- Package term: Lock, Seal, List. -/
import Derived.Test.YtmngicgdgpimlaaDoorTermC
import Derived.Test.YtmngicgdgpimlaaDoorW5
namespace Go.Proofs.YtmngicgdgpimlaaDoor
open Go Go.Wk
set_option synthInstance.maxSize 100000
set_option synthInstance.maxHeartbeats 400000
set_option maxRecDepth 100000

def lockT (a b : Term) : Term := .mk 6 0 0 [] [a, b]
def sealT (u : Int) (a : Term) : Term := .mk 7 u 0 [] [a]
def textT (s : List UInt8) : Term := .mk 1 0 0 s []
def listT : List Term → Term
  | [] => textT []
  | t :: ts => .pair t (listT ts)
def backV (b : Nat) : Value := .func (.func 56) #[] ⟨[.pointer (some ⟨b, 0, none⟩)]⟩
theorem back_f (p : Option Addr) (n c : Nat) (w0 : World) : Ret Tryd.prog 37 [.slice p n c] w0 (fun _ => False) fun v w' => ∃ b, v = backV b ∧ w0.heap.size ≤ b ∧ BoxF b 26 [.slice p n c] w' := by
  refine enter Tryd.func37 rfl rfl (Wd.start w0) (fun a S => ?_)
  simp only [Tryd.ntmps37, List.length_cons, List.length_nil, Nat.reduceAdd, Nat.reduceSub, List.replicate_succ, List.replicate_zero, List.cons_append, List.nil_append] at S
  refine c_seq ?_
  refine c_region ?_
  refine sa S ?_; clear S; intro b1 a w S
  refine sq S ?_; clear S; intro a S
  refine wl_nil ?_
  refine xtn ?_
  refine c_seq ?_
  refine c_region ?_
  iterate 2 (refine sq S ?_; clear S; intro a S)
  refine wl_nil ?_
  refine xtn ?_
  refine c_ret ?_
  have h1 := S.boxF b1
  have n1 := S.boxNew b1
  refine end1 S (fun _ => ?_)
  exact ⟨b1, rfl, n1.elim (fun h => h.elim) id, h1⟩
theorem back_get {n i : Nat} (h : i < n) : (List.range n).reverse[i]? = some (n - 1 - i) := by
  rw [List.getElem?_reverse (by simpa using h), List.length_range, List.getElem?_range (by omega)]
theorem back_it (b : Nat) (xs : List LTerm) (p : Option Addr) (n c : Nat) (hn : xs.length = n) (hl : n ≤ 1000000) (w0 : World) (M : Nat → Prop) (hM : ∀ k, M k → k < w0.heap.size) (f1 : Stable M w0 (BoxF b 26 [.slice p n c])) (f2 : Stable M w0 (LsF p 0 xs)) :
    IterRet Tryd.prog 56 [.pointer (some ⟨b, 0, none⟩)] w0 M (fun (i : Nat) vs _ _ => vs = [.int .i64 (i : Nat), vL (nthL xs i)]) (List.range n).reverse := by
  intro L J Jx hy hJ
  subst hn
  have hF : ∀ Φ ∈ [BoxF b 26 [.slice p xs.length c], LsF p 0 xs], Stable M w0 Φ := by simp; exact ⟨f1, f2⟩
  obtain ⟨n, hn⟩ : ∃ n, n = xs.length := ⟨_, rfl⟩
  refine (callsIn_wide (n := 0)).2 ?_
  refine enter Tryd.func56 rfl rfl (Wd.beginM (M := M) (fs := [BoxF b 26 [.slice p xs.length c], LsF p 0 xs]) hM hF) (fun a S => ?_)
  simp only [Tryd.ntmps56, List.length_cons, List.length_nil, Nat.reduceAdd, Nat.reduceSub, List.replicate_succ, List.replicate_zero, List.cons_append, List.nil_append] at S
  refine c_seq ?_
  refine c_region ?_
  iterate 3 (refine sq S ?_; clear S; intro a S)
  rw [w64 _ (by omega) (by omega), show (xs.length : Int) - 1 = (n : Int) - 1 - ((0 : Nat) : Int) from by omega] at S
  refine sq S ?_; clear S; intro a S
  refine wl_nil ?_
  refine xtn ?_
  refine c_block ?_
  refine c_loop (ι := Nat) (fun k a w => k ≤ n ∧ ∃ N w1, J k w1 ∧ ∃ uu : Nat → Value,  St w1 (fun _ => False) [] a w ((.func (.yield L) #[] #[]) :: (.pointer (some ⟨b, 0, none⟩)) :: uu 2 :: (.int .i64 ((n : Int) - 1 - (k : Nat))) :: uu 4 :: uu 5 :: uu 6 :: uu 7 :: uu 8 :: uu 9 :: uu 10 :: uu 11 :: uu 12 :: uu 13 :: uu 14 :: uu 15 :: uu 16 :: uu 17 :: uu 18 :: []) [ext N] [BoxF b 26 [.slice p xs.length c], LsF p 0 xs]) (fun k => n - k) 0 ?_ ?_
  · exact ⟨Nat.zero_le _, M, w0, hJ, S.uu, S⟩
  · clear S
    rintro k a w ⟨hk, N, w1, hJk, uu, S⟩
    iterate 2 (refine c_seq ?_)
    refine c_region ?_
    iterate 2 (refine sq S ?_; clear S; intro a S)
    refine wl_nil ?_
    refine xtn ?_
    refine c_cond S (fun h1 => ?_) (fun h1 => ?_)
    · refine c_skip ?_
      refine xtn ?_
      refine c_seq ?_
      refine c_block ?_
      refine c_seq ?_
      have hkl : k < n := by simp at h1; omega
      have hK : KLt (n - 1 - k) xs.length := ⟨by omega⟩
      have hg := back_get hkl
      rw [show (n : Int) - 1 - (k : Nat) = ((n - 1 - k : Nat) : Int) from by omega] at S
      refine c_region ?_
      iterate 6 (refine sq S ?_; clear S; intro a S)
      refine sy S (M := M) (wI := w0) (fs0 := [BoxF b 26 [.slice p xs.length c], LsF p 0 xs]) hF (hy k _ _ w1 w (by rw [← hn]; exact hg) hJk S.wd.agree rfl) ?_; clear S; intro ok N' a w2 hT hX S
      refine sq S ?_; clear S; intro a S
      refine wl_nil ?_
      refine xtn ?_
      refine c_cond S (fun h3 => ?_) (fun h3 => ?_)
      · refine c_ret ?_
        refine xbr ?_
        iterate 2 (refine xtr ?_)
        refine xbr ?_
        exact endI S ⟨w2, S.wd.agree, .inr (hX (by simpa using h3))⟩
      · refine c_skip ?_
        refine xbn ?_
        refine xtn ?_
        refine c_region ?_
        iterate 2 (refine sq S ?_; clear S; intro a S)
        rw [w64 _ (by omega) (by omega), show ((n - 1 - k : Nat) : Int) - 1 = (n : Int) - 1 - ((k + 1 : Nat) : Int) from by omega] at S
        refine sq S ?_; clear S; intro a S
        refine wl_nil ?_
        refine xtn ?_
        exact ⟨k + 1, ⟨hkl, N', w2, hT (by simpa using h3), S.uu, S⟩, by omega⟩
    · refine c_exit ?_
      iterate 2 (refine xte ?_)
      refine xbe ?_
      refine endI S ⟨w1, S.wd.agree, .inl ?_⟩
      have h9 : k = n := by simp at h1; omega
      rw [List.length_reverse, List.length_range, ← hn, ← h9]; exact hJk
theorem list_c (xs : List LTerm) (p : Option Addr) (c : Nat) (M : Nat → Prop) (w0 : World) (hl : xs.length ≤ 1000000) (hM : ∀ k, M k → k < w0.heap.size) (hx : Stable M w0 (LsF p 0 xs)) : Ret Tryd.prog 19 [.slice p xs.length c] w0 (fun _ => False) fun v w' => IsT M w' v (listT (xs.map LTerm.t)) := by
  refine enterM Tryd.func19 rfl rfl (Wd.beginM (M := M) (fs := [LsF p 0 xs]) hM (by simpa using hx)) (fun a S => ?_)
  simp only [Tryd.ntmps19, List.length_cons, List.length_nil, Nat.reduceAdd, Nat.reduceSub, List.replicate_succ, List.replicate_zero, List.cons_append, List.nil_append] at S
  refine c_seq ?_
  refine c_region ?_
  refine sa S ?_; clear S; intro b2 a w S
  refine wl_nil ?_
  refine xtn ?_
  refine c_seq ?_
  refine c_region ?_
  refine sc S ?_; clear S; intro a w S
  refine sa S ?_; clear S; intro b3 a w S
  refine sw S ?_; clear S; intro a w S
  refine wl_nil ?_
  refine xtn ?_
  iterate 2 (refine c_seq ?_)
  refine c_region ?_
  refine sq S ?_; clear S; intro a S
  have hlt := foots_lt S
  refine sr S (back_f p xs.length c w) ?_; clear S; rintro _ a w ⟨g, rfl, n1, f1⟩ S
  replace S := S.add (Φ := BoxF g 26 [.slice p xs.length c]) (BoxF.stable f1 (fun hm => by have := hlt _ hm; omega))
  clear hlt n1 f1
  refine wl_nil ?_
  refine xtn ?_
  refine c_block ?_
  replace S := S.add (Φ := LtF (textL [])) (fun _ _ => by simp [LtIn, textL, LsIn, LtF])
  refine c_range (κ := LTerm) (κx := Empty) (Ds := []) (List.range xs.length).reverse
    (fun _ t => [Wk.box b3 28 t.cells, Wk.box b2 28 zeroL.cells, marks [], ext M]) (fun _ t => [LtF t, BoxF g 26 [.slice p xs.length c], LsF p 0 xs]) (fun i t => t.t = listT ((xs.map LTerm.t).drop (xs.length - i))) (fun k => k.elim) (fun k => k.elim) (fun _ k => k.elim) (textL []) S
    (fun M w1 hM hF _ => back_it g xs p xs.length c rfl hl w1 M hM (hF _ (by simp)) (hF _ (by simp))) ⟨by rw [Nat.sub_zero, List.drop_of_length_le (by simp)]; rfl, rfl, rfl⟩ ?_ ?_ ?_ ?_
  · clear S
    rintro L D bL M' w1 i x vs t W0 w hx hrel hW0 hgr rfl
    have hi : i < xs.length := by have := (List.getElem?_eq_some_iff.1 hx).1; simpa using this
    rw [back_get hi] at hx
    obtain rfl : xs.length - 1 - i = x := by simpa using hx
    have hK : KLt (xs.length - 1 - i) xs.length := ⟨by omega⟩
    refine ⟨_, inferInstance, fun a S => ?_⟩
    refine c_region ?_
    refine sa S ?_; clear S; intro b5 a w S
    refine sw S ?_; clear S; intro a w S
    refine wl_nil ?_
    refine xtn ?_
    refine rbegin (D := D) (b := bL) S ?_; clear S; intro a w S
    refine c_block ?_
    refine c_region ?_
    iterate 2 (refine sq S ?_; clear S; intro a S)
    refine sr S (pair_c (nthL xs (xs.length - 1 - i)) t _ w (foots_lt S) (S.t _) (S.t _)) ?_; clear S; rintro _ a w ⟨r, rfl, hr, hrf⟩ S
    replace S := S.add hrf
    refine sw S ?_; clear S; intro a w S
    refine wl_nil ?_
    refine xbn ?_
    replace S := S.sub [lpI L D (lpR bL .busy none), Wk.box b3 28 r.cells, Wk.box b2 28 zeroL.cells, marks [], ext M] [LtF r, BoxF g 26 [.slice p xs.length c], LsF p 0 xs]
    refine rnext (D := D) (b := bL) S fun W hW => ⟨r, ?_, ?_⟩
    · rw [hr, hrel, show xs.length - i = xs.length - (i + 1) + 1 from by omega]
      have h5 : xs.length - (i + 1) < (xs.map LTerm.t).length := by simp; omega
      rw [List.drop_eq_getElem_cons h5, listT]
      simp [nthL, show xs.length - 1 - i = xs.length - (i + 1) from by omega, show xs.length - (i + 1) < xs.length from by omega]
    · exact hW
  · clear S
    rintro D t a w hrel S
    refine xbn ?_
    refine xtn ?_
    refine c_seq ?_
    refine c_region ?_
    refine sq S ?_; clear S; intro a S
    refine sw S ?_; clear S; intro a w S
    refine wl_nil ?_
    refine xtn ?_
    refine c_ret ?_
    rw [List.length_reverse, List.length_range, Nat.sub_self, List.drop_zero] at hrel
    replace S := S.join (Ds := [])
    refine endM1 S (fun w hw => ?_)
    exact ⟨t, rfl, hrel, (hw.facts (LtF t) (by simp)).less fun k _ hk => ⟨ext M, by simp, hk⟩⟩
  · intro D k; exact k.elim
  · intro id D k; exact k.elim
end Go.Proofs.YtmngicgdgpimlaaDoor
