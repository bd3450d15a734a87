/- Package tree: the proof of a key. -/
import Derived.Test.YtgielmldblopeaaDoorPlainTree
namespace Go.Proofs.YtgielmldblopeaaDoor
open Go Go.Wk
set_option synthInstance.maxSize 100000
set_option synthInstance.maxHeartbeats 400000
set_option maxRecDepth 100000

theorem encL_setG (ys : List LTerm) (i : Nat) (x : LTerm) (h : i < ys.length) : (encL ys).take (i * 5) ++ x.cells ++ (encL ys).drop (i * 5 + x.cells.length) = encL (ys.set i x) := by
  have e : x.cells.length = 5 := rfl
  rw [e, ← show encL (ys.take i) = (encL ys).take (i * 5) from encL_takeG ys i, ← show encL (ys.drop (i + 1)) = (encL ys).drop (i * 5 + 5) from by rw [show i * 5 + 5 = (i + 1) * 5 from by omega]; exact encL_dropG ys (i + 1)]
  rw [← encT_cells, ← encL_append, ← encL_append, List.set_eq_take_append_cons_drop, if_pos h, List.append_assoc]; rfl
def revAt (xs : List LTerm) (k t : Nat) : LTerm := if t < k ∨ xs.length ≤ t + k then nthL xs (xs.length - 1 - t) else nthL xs t
theorem nthL_set (l : List LTerm) (i : Nat) (x : LTerm) (t : Nat) (h : i < l.length) : nthL (l.set i x) t = if i = t then x else nthL l t := by
  unfold nthL
  rw [List.getD_eq_getElem?_getD, List.getD_eq_getElem?_getD, List.getElem?_set]
  split
  · rfl
  · rfl
theorem reverse_nil (p : Option Addr) (c : Nat) (w0 : World) (hown : w0.ownsRow 0 24 5 (.slice p 0 c) 0 []) :
    Ret Tryd.prog 77 [.slice p 0 c] w0 (fun k => ∃ ad, p = some ad ∧ k = ad.block) fun v w' => v = .tuple #[] ∧ w'.ownsRow 0 24 5 (.slice p 0 c) 0 [] := by
  refine enter Tryd.func77 rfl rfl (Wd.rowLent (fs := []) hown nofun) (fun a S => ?_)
  simp only [Tryd.ntmps77, List.length_cons, List.length_nil, Nat.reduceAdd, Nat.reduceSub, List.replicate_succ, List.replicate_zero, List.cons_append, List.nil_append] at S
  refine c_seq ?_
  refine c_region ?_
  iterate 3 (refine sq S ?_; clear S; intro a S)
  rw [w64 _ (by omega) (by omega), show ((0 : Nat) : Int) - 1 = -1 from rfl] at S
  iterate 2 (refine sq S ?_; clear S; intro a S)
  refine wl_nil ?_
  refine xtn ?_
  refine c_block ?_
  refine c_forf1 S (fun (k : Nat) uu => [(2, .int .i64 0), (0, .int .i64 (-1)), (3, uu 7), (0, uu 8), (0, uu 9), (0, uu 10), (0, uu 11), (0, uu 12), (0, uu 13), (0, uu 14), (0, uu 15), (0, uu 16), (0, uu 17), (0, uu 18), (0, uu 19), (0, uu 20), (0, uu 21), (0, uu 22), (0, uu 23), (0, uu 24), (0, uu 25), (0, uu 26), (0, uu 27)]) (fun (k : Nat) => [Wk.row 24 5 p 0 c []]) (fun (k : Nat) => True) (fun (k : Nat) => 0) (0) ?_ S.uu ?_ ?_
  · trivial
  · first | exact S | exact S.sub _ _
  · clear S; rintro k uu a w hrel S
    iterate 2 (refine c_seq ?_)
    refine c_region ?_
    iterate 3 (refine sq S ?_; clear S; intro a S)
    rw [show decide ((0 : Int) < -1) = false from rfl] at S
    refine wl_nil ?_
    refine xtn ?_
    refine c_condF S ?_
    refine c_exit ?_
    iterate 2 (refine xte ?_)
    refine xbe ?_
    have hrow := S.row p 0
    refine end0 S (fun _ => ?_)
    exact ⟨rfl, hrow⟩
theorem reverse_c (xs : List LTerm) (p : Option Addr) (n c : Nat) (w0 : World) (hn : xs.length = n) (hl : n ≤ 1000) (hown : w0.ownsRow 0 24 5 (.slice p n c) n (encL xs)) :
    Ret Tryd.prog 77 [.slice p n c] w0 (fun k => ∃ ad, p = some ad ∧ k = ad.block) fun v w' => v = .tuple #[] ∧ w'.ownsRow 0 24 5 (.slice p n c) n (encL xs.reverse) := by
  subst hn
  by_cases h0 : xs.length = 0
  · have hx0 : xs = [] := List.eq_nil_of_length_eq_zero h0
    subst hx0
    exact reverse_nil p c w0 hown
  refine enter Tryd.func77 rfl rfl (Wd.rowLent (fs := []) hown nofun) (fun a S => ?_)
  simp only [Tryd.ntmps77, List.length_cons, List.length_nil, Nat.reduceAdd, Nat.reduceSub, List.replicate_succ, List.replicate_zero, List.cons_append, List.nil_append] at S
  refine c_seq ?_
  refine c_region ?_
  iterate 3 (refine sq S ?_; clear S; intro a S)
  rw [w64 _ (by omega) (by omega), show (xs.length : Int) - 1 = ((xs.length - 1 - 0 : Nat) : Int) from by omega] at S
  iterate 2 (refine sq S ?_; clear S; intro a S)
  refine wl_nil ?_
  refine xtn ?_
  refine c_block ?_
  refine c_forf2 S (fun (k : Nat) (ys : List LTerm) uu => [(2, .int .i64 (k : Nat)), (0, .int .i64 ((xs.length - 1 - k : Nat) : Int)), (3, uu 7), (0, uu 8), (0, uu 9), (0, uu 10), (0, uu 11), (0, uu 12), (0, uu 13), (0, uu 14), (0, uu 15), (0, uu 16), (0, uu 17), (0, uu 18), (0, uu 19), (0, uu 20), (0, uu 21), (0, uu 22), (0, uu 23), (0, uu 24), (0, uu 25), (0, uu 26), (0, uu 27)]) (fun (k : Nat) (ys : List LTerm) => [Wk.row 24 5 p xs.length c (encL ys)]) (fun (k : Nat) (ys : List LTerm) => 2 * k ≤ xs.length ∧ ys.length = xs.length ∧ ∀ t < xs.length, nthL ys t = revAt xs k t) (fun (k : Nat) (ys : List LTerm) => xs.length - k) (0) (xs) ?_ S.uu ?_ ?_
  · exact ⟨by omega, rfl, fun t ht => by rw [revAt, if_neg (by omega)]⟩
  · first | exact S | exact S.sub _ _
  · clear S; rintro k ys uu a w ⟨hk, hyl, hys⟩ S
    iterate 2 (refine c_seq ?_)
    refine c_region ?_
    iterate 3 (refine sq S ?_; clear S; intro a S)
    refine wl_nil ?_
    refine xtn ?_
    refine c_cond S (fun h1 => ?_) (fun h1 => ?_)
    · refine c_skip ?_
      refine xtn ?_
      refine c_seq ?_
      refine c_block ?_
      have hkl : k < xs.length - 1 - k := by simp at h1; omega
      have hK1 : KLt k xs.length := ⟨by omega⟩
      have hK2 : KLt (xs.length - 1 - k) xs.length := ⟨by omega⟩
      have hPS : PS p := PS.of (S.row p xs.length) (by omega)
      refine c_drwf1 (.q 0 (.q 1 (.q 2 (.q 3 (.q 4 (.q 5 (.q 6 (.q 8 (.q 9 (.q 10 (.b2 7 11 (.l 11 (.q 12 (.l 13 (.q 14 (.l 15 (.e)))))) (.l 7 (.q 12 (.l 13 (.q 14 (.l 15 (.e))))))))))))))))) S (fun (zs : List LTerm) uu => [(14, uu 14), (0, uu 15), (0, uu 16), (0, uu 17), (0, uu 18), (0, uu 19), (0, uu 20), (0, uu 21), (0, uu 22), (0, uu 23), (0, uu 24), (0, uu 25), (0, uu 26), (0, uu 27)]) [] (fun (zs : List LTerm) => [Wk.row 24 5 p xs.length c (encL zs)]) (fun (zs : List LTerm) => zs.length = xs.length ∧ ∀ t < xs.length, nthL zs t = revAt xs (k + 1) t) ?_ ?_
      · intro w S
        iterate 10 (refine tq S ?_; clear S; intro a S)
        refine tb2 ?_ ?_
        · refine slrA (nthL ys (xs.length - 1 - k)).cells S xs.length (fun j v hj => ?_) ?_
          · have hj5 : j < 5 := (List.getElem?_eq_some_iff.1 hj).1
            rw [← hj]; exact encL_get ys _ _ (nth_get (by omega)) j hj5
          clear S; intro a S
          refine te S ?_
          refine tl ?_
          refine slrA (nthL ys k).cells S xs.length (fun j v hj => ?_) ?_
          · have hj5 : j < 5 := (List.getElem?_eq_some_iff.1 hj).1
            rw [← hj]; exact encL_get ys _ _ (nth_get (by omega)) j hj5
          clear S; intro a S
          refine te S ?_
          refine tq S ?_; clear S; intro a S
          refine tl ?_
          refine sws S xs.length (by omega) (by omega) ?_; clear S; intro a w S
          rw [encL_setG _ _ _ (by first | omega | (simp; omega))] at S
          refine te S ?_
          refine tq S ?_; clear S; intro a S
          refine tl ?_
          refine sws S xs.length (by omega) (by omega) ?_; clear S; intro a w S
          rw [encL_setG _ _ _ (by first | omega | (simp; omega))] at S
          refine te S ?_
          refine tn ?_
          refine ⟨(ys.set k (nthL ys (xs.length - 1 - k))).set (xs.length - 1 - k) (nthL ys k), S.uu, ⟨by simpa using hyl, fun t ht => ?_⟩, S.sub _ _⟩
          rw [nthL_set _ _ _ _ (by simp; omega), nthL_set _ _ _ _ (by omega)]
          have e1 := hys k (by omega)
          have e2 := hys (xs.length - 1 - k) (by omega)
          rw [revAt, if_neg (by omega)] at e1 e2
          rw [e1, e2, revAt]
          split
          · rename_i h; subst h
            rw [if_pos (by omega)]; congr 1; omega
          · rename_i h
            split
            · rename_i h2; subst h2
              rw [if_pos (by omega)]
            · rename_i h2
              rw [hys t ht, revAt]
              by_cases h3 : t < k ∨ xs.length ≤ t + k
              · rw [if_pos h3, if_pos (by omega)]
              · rw [if_neg h3, if_neg (by omega)]
        · refine slrA (nthL ys k).cells S xs.length (fun j v hj => ?_) ?_
          · have hj5 : j < 5 := (List.getElem?_eq_some_iff.1 hj).1
            rw [← hj]; exact encL_get ys _ _ (nth_get (by omega)) j hj5
          clear S; intro a S
          refine te S ?_
          refine tl ?_
          refine slrA (nthL ys (xs.length - 1 - k)).cells S xs.length (fun j v hj => ?_) ?_
          · have hj5 : j < 5 := (List.getElem?_eq_some_iff.1 hj).1
            rw [← hj]; exact encL_get ys _ _ (nth_get (by omega)) j hj5
          clear S; intro a S
          refine te S ?_
          refine tq S ?_; clear S; intro a S
          refine tl ?_
          refine sws S xs.length (by omega) (by omega) ?_; clear S; intro a w S
          rw [encL_setG _ _ _ (by first | omega | (simp; omega))] at S
          refine te S ?_
          refine tq S ?_; clear S; intro a S
          refine tl ?_
          refine sws S xs.length (by omega) (by omega) ?_; clear S; intro a w S
          rw [encL_setG _ _ _ (by first | omega | (simp; omega))] at S
          refine te S ?_
          refine tn ?_
          refine ⟨(ys.set k (nthL ys (xs.length - 1 - k))).set (xs.length - 1 - k) (nthL ys k), S.uu, ⟨by simpa using hyl, fun t ht => ?_⟩, S.sub _ _⟩
          rw [nthL_set _ _ _ _ (by simp; omega), nthL_set _ _ _ _ (by omega)]
          have e1 := hys k (by omega)
          have e2 := hys (xs.length - 1 - k) (by omega)
          rw [revAt, if_neg (by omega)] at e1 e2
          rw [e1, e2, revAt]
          split
          · rename_i h; subst h
            rw [if_pos (by omega)]; congr 1; omega
          · rename_i h
            split
            · rename_i h2; subst h2
              rw [if_pos (by omega)]
            · rename_i h2
              rw [hys t ht, revAt]
              by_cases h3 : t < k ∨ xs.length ≤ t + k
              · rw [if_pos h3, if_pos (by omega)]
              · rw [if_neg h3, if_neg (by omega)]
      clear S; rintro zs uu a w ⟨hzl, hzs⟩ S
      refine xbn ?_
      refine xtn ?_
      refine c_region ?_
      iterate 2 (refine sq S ?_; clear S; intro a S)
      rw [w64 _ (by omega) (by omega)] at S
      iterate 2 (refine sq S ?_; clear S; intro a S)
      rw [w64 _ (by omega) (by omega), show ((xs.length - 1 - k : Nat) : Int) - 1 = ((xs.length - 1 - (k + 1) : Nat) : Int) from by omega] at S
      iterate 2 (refine sq S ?_; clear S; intro a S)
      refine wl_nil ?_
      refine xtn ?_
      exact ⟨k + 1, zs, S.uu, ⟨by omega, hzl, hzs⟩, S.sub _ _, by omega⟩
    · refine c_exit ?_
      iterate 2 (refine xte ?_)
      refine xbe ?_
      have hrow := S.row p xs.length
      have e : ys = xs.reverse := by
        apply List.ext_getElem?
        intro t
        rcases Nat.lt_or_ge t xs.length with ht | ht
        · rw [nth_get (show t < ys.length by omega), hys t ht, List.getElem?_reverse ht, nth_get (show xs.length - 1 - t < xs.length by omega), revAt]
          split
          · rfl
          · rename_i h
            have h1' : xs.length - 1 - k ≤ k := by simp at h1; omega
            congr 2; omega
        · rw [List.getElem?_eq_none (by omega), List.getElem?_eq_none (by simp; omega)]
      rw [e] at hrow
      refine end0 S (fun _ => ?_)
      exact ⟨rfl, hrow⟩
end Go.Proofs.YtgielmldblopeaaDoor
