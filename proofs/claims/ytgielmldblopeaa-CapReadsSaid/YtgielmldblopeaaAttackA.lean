/- Package attack: user, put, copied, right, Check. -/
import Derived.Test.YtgielmldblopeaaPlainSafe
import Derived.Test.YtgielmldblopeaaPlainRight
import Derived.Test.YtgielmldblopeaaW5
namespace Go.Proofs.Ytgielmldblopeaa
open Go Go.Wk
set_option synthInstance.maxSize 100000
set_option synthInstance.maxHeartbeats 400000
set_option maxRecDepth 100000

def isUser (u : Int) : Bool := decide (1 ≤ u) && decide (u ≤ 6)
theorem user_c (u : Int) (w0 : World) : Ret Try.prog 85 [.int .i64 u] w0 (fun _ => False) fun v _ => v = .bool (isUser u) := by
  refine enter Try.func85 rfl rfl (Wd.start w0) (fun a S => ?_)
  simp only [Try.ntmps85, List.length_cons, List.length_nil, Nat.reduceAdd, Nat.reduceSub, List.replicate_succ, List.replicate_zero, List.cons_append, List.nil_append] at S
  refine c_seq ?_
  refine c_region ?_
  refine sq S ?_; clear S; intro a S
  refine wl_nil ?_
  refine xtn ?_
  refine c_seq ?_
  refine c_region ?_
  iterate 3 (refine sq S ?_; clear S; intro a S)
  iterate 2 (refine gQ S ?_; clear S; intro a S)
  iterate 2 (refine sq S ?_; clear S; intro a S)
  refine wl_nil ?_
  refine xtn ?_
  refine c_ret ?_
  refine end1 S (fun _ => ?_)
  rfl
instance {u : Int} {bs fs} : CallV Try.prog 85 [.int .i64 u] bs fs (.bool (isUser u)) := ⟨fun w _ => user_c u w⟩

/-! a book: names -/
def addN (ns : List (List UInt8)) (k : List UInt8) : List (List UInt8) := if k ∈ ns then ns else ns ++ [k]
theorem mem_addN {ns : List (List UInt8)} {k s : List UInt8} : s ∈ addN ns k ↔ s ∈ ns ∨ s = k := by
  unfold addN
  split
  · rename_i h
    constructor
    · exact .inl
    · rintro (h1 | rfl)
      · exact h1
      · exact h
  · simp
def kvT (ns : List (List UInt8)) : List (List UInt8 × Value) := ns.map fun n => (n, .bool true)
theorem kvT_idx (k : List UInt8) : ∀ (ns : List (List UInt8)) (i : Nat), (((kvIdx k (kvT ns) i).map (·.2)).getD (.bool false)) = .bool (decide (k ∈ ns))
  | [], i => by simp [kvT, kvIdx]
  | u :: ns, i => by
    show ((kvIdx k ((u, .bool true) :: kvT ns) i).map (·.2)).getD (.bool false) = _
    rw [kvIdx]
    by_cases h : k = u
    · simp [h]
    · rw [if_neg h, kvT_idx k ns (i + 1)]; simp [h]
theorem kvT_get (k : List UInt8) (ns : List (List UInt8)) : (kvGet k (kvT ns)).getD (.bool false) = .bool (decide (k ∈ ns)) := kvT_idx k ns 0
theorem kvT_put (k : List UInt8) : ∀ ns : List (List UInt8), kvPut k (.bool true) (kvT ns) = kvT (addN ns k)
  | [] => rfl
  | u :: ns => by
    show kvPut k (.bool true) ((u, .bool true) :: kvT ns) = _
    rw [kvPut]
    by_cases h : k = u
    · subst h; simp [addN, kvT]
    · rw [if_neg h, kvT_put k ns]
      unfold addN
      by_cases h2 : k ∈ ns <;> simp [h, h2, kvT]
theorem bput_c (t : LTerm) (b : Nat) (ns : List (List UInt8)) (w0 : World) (hm : (mp b (kvT ns)).holds w0) (hf : Stable (fun k => k = b) w0 (LtF t)) :
    Ret Try.prog 84 [.map (some b), vL t] w0 (fun k => k = b) fun v w' => v = .bool (!decide (nameF t.t ∈ ns)) ∧ (mp b (kvT (addN ns (nameF t.t)))).holds w' := by
  refine enter Try.func84 rfl rfl (Wd.mpLent (fs := [LtF t]) hm (by simpa using hf)) (fun a S => ?_)
  simp only [Try.ntmps84, List.length_cons, List.length_nil, Nat.reduceAdd, Nat.reduceSub, List.replicate_succ, List.replicate_zero, List.cons_append, List.nil_append] at S
  refine c_seq ?_
  refine c_region ?_
  refine sa S ?_; clear S; intro b3 a w S
  refine sq S ?_; clear S; intro a S
  refine wl_nil ?_
  refine xtn ?_
  refine c_seq ?_
  refine c_region ?_
  refine sq S ?_; clear S; intro a S
  refine srn S (encode_c t _ (S.t0 t)) ?_; clear S; rintro _ a w ⟨p, c, rfl, hown, hnew⟩ hS -
  have S := hS hown hnew
  clear hS
  iterate 5 (refine sq S ?_; clear S; intro a S)
  refine wl_nil ?_
  refine xtn ?_
  refine c_seq ?_
  refine c_region ?_
  iterate 4 (refine sq S ?_; clear S; intro a S)
  rw [kvT_get] at S
  refine sq S ?_; clear S; intro a S
  refine wl_nil ?_
  refine xtn ?_
  refine c_seq ?_
  refine c_region ?_
  iterate 3 (refine sq S ?_; clear S; intro a S)
  refine smu S ?_; clear S; intro a w S
  rw [kvT_put] at S
  refine wl_nil ?_
  refine xtn ?_
  refine c_seq ?_
  refine c_region ?_
  iterate 3 (refine sq S ?_; clear S; intro a S)
  refine wl_nil ?_
  refine xtn ?_
  refine c_ret ?_
  have h := S.wd.held (mp b (kvT (addN ns (nameF t.t)))) (by simp)
  refine end1 S (fun _ => ?_)
  exact ⟨rfl, h⟩

/-! a term in memory of its own -/
theorem own_cap {w : World} {e : TypeId} {sz : Nat} {p : Option Addr} {n c : Nat} {xs : List Value} (h : w.ownsRow 0 e sz (.slice p n c) n xs) : c ≤ maxLen := by
  rcases h.2 with ⟨hv, h0⟩ | ⟨g, cap, cur, hv, hb, hg, hnc, hcm, hcs, ht⟩
  · cases hv; exact Nat.zero_le _
  · cases hv; exact hcm
theorem cntL_len (ts : List Term) : ts.length ≤ cntL ts := by
  induction ts with
  | nil => exact Nat.zero_le _
  | cons t ts ih => have := cnt_pos t; simp only [cntL, List.length_cons]; omega
theorem set_map (ys : List LTerm) (k : Nat) (r : LTerm) (zs : List Term) (h : ys.map LTerm.t = zs) (hr : zs[k]? = some r.t) : (ys.set k r).map LTerm.t = zs := by
  subst h
  rw [List.map_set]
  apply List.ext_getElem?
  intro i
  rw [List.getElem?_set]
  split
  · rename_i h; subst h
    split
    · exact hr.symm
    · rename_i h2; rw [List.getElem?_eq_none (by simpa using h2)] at hr; cases hr
  · rfl
/-- a term whose kids lie in memory of its own, from block B on. -/
def OwF (B : Nat) (x : LTerm) : World → Prop := fun w => LtIn w x ∧ w.ownsRow 0 35 5 (.slice x.p x.kids.length x.cap) x.kids.length (encL x.kids) ∧ ∀ ad, x.p = some ad → B ≤ ad.block
def IsTo (M : Nat → Prop) (B : Nat) (w : World) (v : Value) (T : Term) : Prop := ∃ r : LTerm, v = vL r ∧ r.t = T ∧ Stable M w (OwF B r)
theorem IsTo.t {M : Nat → Prop} {B : Nat} {w : World} {v : Value} {T : Term} (h : IsTo M B w v T) : IsT M w v T := by
  obtain ⟨r, h1, h2, h3⟩ := h
  exact ⟨r, h1, h2, h3.imp fun _ h => h.1⟩
theorem copied_c0 (N : Nat) : ∀ (t : LTerm) (M : Nat → Prop) (w0 : World), SizeOf.sizeOf t < N → cnt t.t ≤ 1200 → (∀ k, M k → k < w0.heap.size) → Stable M w0 (LtF t) → Ret Try.prog 39 [vL t] w0 (fun _ => False) fun v w' => IsTo M w0.heap.size w' v t.t := by
  induction N with
  | zero => intro t _ _ h; exact absurd h (Nat.not_lt_zero _)
  | succ N ih =>
  intro t M w0 hN hc hM hf
  have hlen : t.kids.length ≤ 1200 := by have h1 := cnt_kids t; have h2 := cntL_len (t.kids.map LTerm.t); rw [List.length_map] at h2; omega
  have hkc : ∀ x ∈ t.kids, cnt x.t ≤ 1200 := fun x hx => by have h1 := cnt_kids t; have h2 := cntL_mem (List.mem_map.2 ⟨x, hx, rfl⟩ : x.t ∈ t.kids.map LTerm.t); omega
  refine enter Try.func39 rfl rfl (Wd.beginM (M := M) (fs := [LtF t]) hM (by simpa using hf)) (fun a S => ?_)
  simp only [Try.ntmps39, List.length_cons, List.length_nil, Nat.reduceAdd, Nat.reduceSub, List.replicate_succ, List.replicate_zero, List.cons_append, List.nil_append] at S
  refine c_seq ?_
  refine c_region ?_
  refine sa S ?_; clear S; intro b1 a w S
  refine sa S ?_; clear S; intro b2 a w S
  refine wl_nil ?_
  refine xtn ?_
  refine c_seq ?_
  refine c_region ?_
  iterate 2 (refine sq S ?_; clear S; intro a S)
  refine srn S (clone_c t.kids t.p t.kids.length t.cap _ rfl (by omega) (ls_of_lt (S.t0 t))) ?_; clear S; rintro _ a w ⟨p', c', rfl, hown, hnew⟩ hS -
  have S := hS hown hnew
  clear hS
  refine sq S ?_; clear S; intro a S
  refine sw S ?_; clear S; intro a w S
  refine wl_nil ?_
  refine xtn ?_
  iterate 2 (refine c_seq ?_)
  refine c_region ?_
  iterate 4 (refine sq S ?_; clear S; intro a S)
  refine wl_nil ?_
  refine xtn ?_
  refine c_block ?_
  refine c_fore2 S (fun (k : Nat) (ys : List LTerm) uu => [(3, uu 3), (7, .int .i64 (k : Nat)), (0, uu 12), (0, uu 13), (0, uu 14), (0, uu 15), (0, uu 16), (0, uu 17), (0, uu 18), (0, uu 19), (0, uu 20), (0, uu 21), (0, uu 22), (0, uu 23), (0, uu 24)]) (fun (k : Nat) (ys : List LTerm) => [Wk.row 35 5 p' t.kids.length c' (encL ys), Wk.box b2 35 zeroL.cells, Wk.box b1 35 [.int .i64 t.kind, .int .i64 t.user, .int .i64 t.num, str t.text, .slice p' t.kids.length c'], ext M]) (fun (k : Nat) (ys : List LTerm) => [AllL ys, LtF t]) (fun (k : Nat) (ys : List LTerm) => k ≤ t.kids.length ∧ ys.length = t.kids.length ∧ ys.map LTerm.t = t.kids.map LTerm.t ∧ ys.drop k = t.kids.drop k) (fun (k : Nat) (ys : List LTerm) => t.kids.length - k) (0) (t.kids) ?_ S.uu ?_ ?_
  · exact ⟨Nat.zero_le _, rfl, rfl, rfl⟩
  · exact S.add (Φ := AllL t.kids) (AllL.stable fun x hx => kid_st (S.t t) hx)
  · clear S; rintro k ys uu a w ⟨hk, hyl, hym, hyd⟩ S
    refine c_seq ?_
    refine c_region ?_
    refine sq S ?_; clear S; intro a S
    refine wl_nil ?_
    refine xtn ?_
    refine c_seq ?_
    refine c_cond S (fun h3 => ?_) (fun h3 => ?_)
    · refine c_skip ?_
      refine xtn ?_
      refine c_seq ?_
      refine c_block ?_
      refine c_seq ?_
      have hkl : k < t.kids.length := by simp at h3; omega
      have hK : KLt k t.kids.length := ⟨hkl⟩
      have hyk : ys[k]? = some (nthL t.kids k) := by
        have := congrArg (fun l => l[0]?) hyd
        simp only [List.getElem?_drop, Nat.add_zero] at this
        rw [this, nth_get hkl]
      refine c_region ?_
      iterate 2 (refine sq S ?_; clear S; intro a S)
      refine wl_nil ?_
      refine xtn ?_
      refine c_drwe1 (.q 0 (.q 1 (.q 2 (.q 3 (.q 4 (.q 5 (.l 6 (.l 7 (.l 8 (.l 9 (.l 10 (.e)))))))))))) S (fun (ys' : List LTerm) uu => [(14, uu 14), (0, uu 15), (0, uu 16), (0, uu 17), (0, uu 18), (0, uu 19), (0, uu 20), (0, uu 21), (0, uu 22), (0, uu 23)]) [Wk.box b2 35 zeroL.cells, Wk.box b1 35 [.int .i64 t.kind, .int .i64 t.user, .int .i64 t.num, str t.text, .slice p' t.kids.length c'], ext M] (fun (ys' : List LTerm) => [Wk.row 35 5 p' t.kids.length c' (encL ys'), Wk.box b2 35 zeroL.cells, Wk.box b1 35 [.int .i64 t.kind, .int .i64 t.user, .int .i64 t.num, str t.text, .slice p' t.kids.length c'], ext M]) (fun (ys' : List LTerm) => [AllL ys', LtF t]) (fun (ys' : List LTerm) => ys'.length = t.kids.length ∧ ys'.map LTerm.t = t.kids.map LTerm.t ∧ ys'.drop (k + 1) = t.kids.drop (k + 1)) ?_ ?_
      · intro w S
        iterate 6 (refine tq S ?_; clear S; intro a S)
        refine tl ?_
        refine sq S ?_; clear S; intro a S
        refine te S ?_
        refine tl ?_
        refine slrA (nthL t.kids k).cells S t.kids.length (fun j v hj => ?_) ?_
        · have hj5 : j < 5 := (List.getElem?_eq_some_iff.1 hj).1
          rw [← hj]; exact encL_get ys k _ hyk j hj5
        clear S; intro a S
        refine te S ?_
        refine tl ?_
        refine sr S (ih (nthL t.kids k) _ w (by have := LTerm.kid_lt (nth_mem hkl); omega) (hkc _ (nth_mem hkl)) (foots_lt S) (kid_st (S.t t) (nth_mem hkl))) ?_; clear S; rintro _ a w ⟨r, rfl, hr, hrf⟩ S
        replace S := S.add (Φ := LtF r) (hrf.imp fun _ h => h.1)
        refine te S ?_
        refine tl ?_
        refine sq S ?_; clear S; intro a S
        refine te S ?_
        refine tl ?_
        refine sws S t.kids.length (by omega) (by omega) ?_; clear S; intro a w S
        rw [encL_set ys k r (by omega)] at S
        refine te S ?_
        refine tn ?_
        refine ⟨ys.set k r, S.uu, ⟨by simpa using hyl, set_map ys k r _ hym (by rw [List.getElem?_map, nth_get hkl, hr]; rfl), ?_⟩, ?_⟩
        · rw [List.drop_set_of_lt (by omega), ← List.drop_drop, hyd, List.drop_drop]
        · have h1 : Stable _ _ (AllL ys) := S.wd.facts (AllL ys) (by simp)
          have h2 := S.t r
          replace S := S.add (Φ := AllL (ys.set k r)) (fun w' hw' x hx => by
            rcases List.mem_or_eq_of_mem_set hx with h | rfl
            · exact h1 w' hw' x h
            · exact h2 w' hw')
          exact S.sub _ _
      clear S; rintro ys' uu a w ⟨hyl', hym', hyd'⟩ S
      refine xbn ?_
      refine xtn ?_
      refine c_region ?_
      iterate 2 (refine sq S ?_; clear S; intro a S)
      refine wl_nil ?_
      refine xtn ?_
      rw [w64 ((k : Int) + 1) (by omega) (by omega)] at S
      exact ⟨k + 1, ys', S.uu, ⟨hkl, hyl', hym', hyd'⟩, S.sub _ _, by omega⟩
    · refine c_exit ?_
      iterate 2 (refine xte ?_)
      refine xbe ?_
      refine xtn ?_
      refine c_seq ?_
      refine c_region ?_
      refine sq S ?_; clear S; intro a S
      refine sw S ?_; clear S; intro a w S
      refine wl_nil ?_
      refine xtn ?_
      refine c_ret ?_
      have hrow := S.row p' t.kids.length
      have hnew := S.rowNew p' t.kids.length
      have hall := S.laterFact (Φ := AllL ys) (by simp)
      refine end1 S (fun _ => ?_)
      refine ⟨.mk t.kind t.user t.num t.text p' c' ys, by simp only [vL, LTerm.kind, LTerm.user, LTerm.num, LTerm.text, LTerm.p, LTerm.cap, LTerm.kids, hyl], ?_, fun w' hw' => ?_⟩
      · rw [t.t_eq, ← hym]; exact LTerm.t_eq _
      · have hls := ls_of_own hrow (fun x hx => AllL.get hall hx) (fun ad h hm => (hnew ad h).elim id (fun h2 => by have := hM _ hm; omega))
        refine ⟨⟨by rw [hyl]; exact own_le hrow, own_cap hrow, hls w' hw'⟩, ?_, fun ad h => (hnew ad h).elim (fun h => h.elim) id⟩
        have h3 : (Wk.row 35 5 p' t.kids.length c' (encL ys)).holds w' := row_loc _ _ _ _ _ _ w w' (fun k hk => hw'.blk (row_foot_lt hrow k hk) (fun hm => by obtain ⟨ad, h, rfl⟩ := hk; exact (hnew ad h).elim id (fun h2 => by have := hM _ hm; omega))) hrow
        have h4 : w'.ownsRow 0 35 5 (.slice p' ys.length c') ys.length (encL ys) := by rw [hyl]; exact h3
        exact h4
theorem copiedo_c (t : LTerm) (M : Nat → Prop) (w0 : World) (hc : cnt t.t ≤ 1200) (hM : ∀ k, M k → k < w0.heap.size) (hf : Stable M w0 (LtF t)) : Ret Try.prog 39 [vL t] w0 (fun _ => False) fun v w' => IsTo M w0.heap.size w' v t.t := copied_c0 _ t M w0 (Nat.lt_succ_self _) hc hM hf
theorem copied_c (t : LTerm) (M : Nat → Prop) (w0 : World) (hc : cnt t.t ≤ 1200) (hM : ∀ k, M k → k < w0.heap.size) (hf : Stable M w0 (LtF t)) : Ret Try.prog 39 [vL t] w0 (fun _ => False) fun v w' => IsT M w' v t.t := (copied_c0 _ t M w0 (Nat.lt_succ_self _) hc hM hf).mono fun _ _ h => h.t
theorem right1_c (t : LTerm) (w0 : World) (hf : Stable (fun _ => False) w0 (LtF t)) : Ret Try.prog 91 [vL t] w0 (fun _ => False) fun v _ => v = .bool (badF t.t) := by
  refine enter Try.func91 rfl rfl (Wd.begin (fs := [LtF t]) (by simpa using hf)) (fun a S => ?_)
  simp only [Try.ntmps91, List.length_cons, List.length_nil, Nat.reduceAdd, Nat.reduceSub, List.replicate_succ, List.replicate_zero, List.cons_append, List.nil_append] at S
  refine c_seq ?_
  refine c_region ?_
  refine sa S ?_; clear S; intro b1 a w S
  refine sq S ?_; clear S; intro a S
  refine wl_nil ?_
  refine xtn ?_
  refine c_seq ?_
  refine c_region ?_
  refine sq S ?_; clear S; intro a S
  refine sc S ?_; clear S; intro a w S
  iterate 2 (refine sq S ?_; clear S; intro a S)
  refine wl_nil ?_
  refine xtn ?_
  refine c_ret ?_
  refine end1 S (fun _ => rfl)
theorem aright_c (xs : List LTerm) (p : Option Addr) (c : Nat) (w0 : World) (hl : xs.length ≤ 10000000) (hx : Stable (fun _ => False) w0 (LsF p 0 xs)) :
    Ret Try.prog 41 [.slice p xs.length c] w0 (fun _ => False) fun v _ => v = .int .i64 (if (xs.map LTerm.t).any badF then 150 else 0) := by
  refine enter Try.func41 rfl rfl (Wd.begin (fs := [LsF p 0 xs]) (by simpa using hx)) (fun a S => ?_)
  simp only [Try.ntmps41, List.length_cons, List.length_nil, Nat.reduceAdd, Nat.reduceSub, List.replicate_succ, List.replicate_zero, List.cons_append, List.nil_append] at S
  refine c_seq ?_
  refine c_region ?_
  refine sq S ?_; clear S; intro a S
  refine wl_nil ?_
  refine xtn ?_
  iterate 2 (refine c_seq ?_)
  refine c_region ?_
  refine sq S ?_; clear S; intro a S
  have hls := S.mem.fact0 (LsF p 0 xs)
  have hcc := contains_c 91 [] (fun x => badF x.t) xs p xs.length c _ rfl (by omega) hls fun x hx w' hw' => right1_c x w' ((kids_st hls hx).later hw')
  refine sr S hcc ?_
  clear S hcc hls; rintro _ a w rfl S
  refine wl_nil ?_
  refine xtn ?_
  refine c_cond S (fun h1 => ?_) (fun h1 => ?_)
  · refine c_seq ?_
    refine c_region ?_
    refine sq S ?_; clear S; intro a S
    refine wl_nil ?_
    refine xtn ?_
    refine c_ret ?_
    refine xtr ?_
    refine end1 S (fun _ => ?_)
    rw [if_pos (by rw [List.any_map]; exact h1)]
  · refine c_skip ?_
    refine xtn ?_
    refine c_seq ?_
    refine c_region ?_
    refine sq S ?_; clear S; intro a S
    refine wl_nil ?_
    refine xtn ?_
    refine c_ret ?_
    refine end1 S (fun _ => ?_)
    rw [if_neg (by rw [List.any_map]; simpa using h1)]

/-! who may be an attacker -/
def OkK (K : List Term) (n : Nat) : Prop := n ≤ 500 ∧ (∀ t ∈ K, Good t) ∧ K.Nodup
theorem OkK.snoc {K : List Term} {n : Nat} {t : Term} : OkK (K ++ [t]) n ↔ OkK K n ∧ Good t ∧ t ∉ K := by
  unfold OkK
  rw [List.nodup_append]
  constructor
  · rintro ⟨h1, h2, h3, -, h5⟩
    exact ⟨⟨h1, fun x hx => h2 x (by simp [hx]), h3⟩, h2 t (by simp), fun h => h5 t h t (by simp) rfl⟩
  · rintro ⟨⟨h1, h2, h3⟩, h4, h5⟩
    refine ⟨h1, fun x hx => ?_, h3, by simp, fun x hx y hy => ?_⟩
    · rcases List.mem_append.1 hx with hx | hx
      · exact h2 x hx
      · rw [List.mem_singleton.1 hx]; exact h4
    · rw [List.mem_singleton.1 hy]; rintro rfl; exact h5 hx
def lastU (us : List Int) : Nat → Int
  | 0 => 0
  | j + 1 => nthI us j
def UP (K : List Term) (us : List Int) (i : Nat) : Prop := (1 ≤ nthI us i ∧ nthI us i ≤ 6) ∧ lastU us i < nthI us i ∧ secretT (nthI us i) ∈ K
def RightA (K : List Term) (us : List Int) : Prop := OkK K K.length ∧ ∀ i < us.length, UP K us i
noncomputable def chkA (K : List Term) (us : List Int) : Int := @ite _ (RightA K us) (Classical.propDecidable _) 0 320
theorem chkA_zero {K : List Term} {us : List Int} : chkA K us = 0 ↔ RightA K us := by
  unfold chkA
  by_cases h : RightA K us
  · simp [h]
  · simp [h]
theorem chkA_pos {K : List Term} {us : List Int} (h : RightA K us) : chkA K us = 0 := chkA_zero.2 h
theorem chkA_neg {K : List Term} {us : List Int} (h : ¬ RightA K us) : chkA K us = 320 := by unfold chkA; rw [if_neg h]
theorem take_map_succ (ks : List LTerm) (k : Nat) (h : k < ks.length) : (ks.take (k + 1)).map LTerm.t = (ks.take k).map LTerm.t ++ [(nthL ks k).t] := by
  rw [List.take_add_one, nth_get h, List.map_append]; rfl
abbrev vA (pu : Option Addr) (nu cu : Nat) (pk : Option Addr) (nk ck : Nat) : Value := .agg #[.slice pu nu cu, .slice pk nk ck]
theorem mem_names {K : List LTerm} {t : Term} (hK : ∀ x ∈ K, Good x.t) (ht : Good t) : nameF t ∈ K.map (fun x => nameF x.t) ↔ t ∈ K.map LTerm.t := by
  constructor
  · intro h
    obtain ⟨x, hx, he⟩ := List.mem_map.1 h
    rw [← name_inj (hK x hx) ht he]
    exact List.mem_map.2 ⟨x, hx, rfl⟩
  · intro h
    obtain ⟨x, hx, rfl⟩ := List.mem_map.1 h
    exact List.mem_map.2 ⟨x, hx, rfl⟩
theorem acheck_c (us : List Int) (ks : List LTerm) (pu pk : Option Addr) (cu ck : Nat) (w0 : World) (hul : us.length ≤ 1000000) (hkl0 : ks.length ≤ 1000000) (hu : Stable (fun _ => False) w0 (SlF pu (encL us))) (hk : Stable (fun _ => False) w0 (LsF pk 0 ks)) :
    Ret Try.prog 37 [vA pu us.length cu pk ks.length ck] w0 (fun _ => False) fun v _ => v = .int .i64 (chkA (ks.map LTerm.t) us) := by
  refine enter Try.func37 rfl rfl (Wd.begin (fs := [SlF pu (encL us), LsF pk 0 ks]) (by simp; exact ⟨hu, hk⟩)) (fun a S => ?_)
  simp only [Try.ntmps37, List.length_cons, List.length_nil, Nat.reduceAdd, Nat.reduceSub, List.replicate_succ, List.replicate_zero, List.cons_append, List.nil_append] at S
  refine c_seq ?_
  refine c_region ?_
  refine sa S ?_; clear S; intro b1 a w S
  refine sq S ?_; clear S; intro a S
  refine wl_nil ?_
  refine xtn ?_
  refine c_seq ?_
  refine c_region ?_
  iterate 5 (refine sq S ?_; clear S; intro a S)
  refine wl_nil ?_
  refine xtn ?_
  refine c_seq ?_
  refine c_region ?_
  refine smm S ?_; clear S; intro bm a w S
  refine sq S ?_; clear S; intro a S
  refine wl_nil ?_
  refine xtn ?_
  iterate 2 (refine c_seq ?_)
  refine c_region ?_
  iterate 4 (refine sq S ?_; clear S; intro a S)
  refine wl_nil ?_
  refine xtn ?_
  refine c_block ?_
  refine c_forf3 S (fun (k : Nat) (ok : Bool) (ns : List (List UInt8)) uu => [(3, .bool ok), (2, uu 6), (11, .int .i64 (k : Nat)), (0, uu 19), (0, uu 20), (0, uu 21), (0, uu 22), (0, uu 23), (0, uu 24), (0, uu 25), (0, uu 26), (0, uu 27), (0, uu 28), (0, uu 29), (0, uu 30), (0, uu 31), (0, uu 32), (0, uu 33)]) (fun (k : Nat) (ok : Bool) (ns : List (List UInt8)) => [mp bm (kvT ns), Wk.box b1 25 [.slice pu us.length cu, .slice pk ks.length ck]]) (fun (k : Nat) (ok : Bool) (ns : List (List UInt8)) => k ≤ ks.length ∧ (ok = true ↔ OkK ((ks.take k).map LTerm.t) ks.length) ∧ (ok = true → ∀ s, s ∈ ns ↔ s ∈ (ks.take k).map fun x => nameF x.t)) (fun (k : Nat) (ok : Bool) (ns : List (List UInt8)) => ks.length - k) (0) (decide ((ks.length : Int) ≤ 500)) ([]) ?_ S.uu ?_ ?_
  · refine ⟨Nat.zero_le _, ?_, ?_⟩
    · simp [OkK]; omega
    · simp
  · first | exact S | exact S.sub _ _
  · clear S; rintro k ok ns uu a w ⟨hkk, hok, hns⟩ S
    refine c_seq ?_
    refine c_region ?_
    refine sq S ?_; clear S; intro a S
    refine wl_nil ?_
    refine xtn ?_
    refine c_seq ?_
    refine c_cond S (fun h4 => ?_) (fun h4 => ?_)
    · refine c_skip ?_
      refine xtn ?_
      refine c_seq ?_
      refine c_block ?_
      refine c_seq ?_
      have hkl : k < ks.length := by simp at h4; omega
      have hK : KLt k ks.length := ⟨hkl⟩
      have hstep := OkK.snoc (K := (ks.take k).map LTerm.t) (n := ks.length) (t := (nthL ks k).t)
      rw [← take_map_succ ks k hkl] at hstep
      refine c_region ?_
      iterate 2 (refine sq S ?_; clear S; intro a S)
      refine sa S ?_; clear S; intro b6 a w S
      refine sw S ?_; clear S; intro a w S
      refine wl_nil ?_
      refine xtn ?_
      refine c_region ?_
      iterate 2 (refine sq S ?_; clear S; intro a S)
      refine gS S (fun hb1 S => ?_) (fun hb1 S => ?_)
      · refine gT S ?_
        refine sq S ?_; clear S; intro a S
        refine gT S ?_
        refine sc S ?_; clear S; intro a w S
        refine gT S ?_
        iterate 3 (refine sq S ?_; clear S; intro a S)
        refine gS S (fun hb2 S => ?_) (fun hb2 S => ?_)
        · refine gT S ?_
          refine sq S ?_; clear S; intro a S
          refine gT S ?_
          refine sq S ?_; clear S; intro a S
          refine gT S ?_
          have hG : Good (nthL ks k).t := good_check.1 (by simpa using hb2)
          refine sri (mp bm (kvT ns)) S (bput_c (nthL ks k) bm ns w (S.wd.held _ (by simp)) ((S.t (nthL ks k)).less (fun x _ hx => ⟨mp bm (kvT ns), by simp, hx⟩))) rfl ?_; clear S; rintro _ a w ⟨rfl, hm⟩ hS
          have S := hS (mp bm (kvT (addN ns (nameF (nthL ks k).t)))) _ inferInstance hm (fun k hk => .inl hk) (mp_lt hm) (mp_loc _ _)
          clear hS
          iterate 2 (refine sq S ?_; clear S; intro a S)
          refine wl_nil ?_
          refine xbn ?_
          refine xtn ?_
          refine c_region ?_
          iterate 2 (refine sq S ?_; clear S; intro a S)
          refine wl_nil ?_
          refine xtn ?_
          rw [w64 ((k : Int) + 1) (by omega) (by omega)] at S
          have hO := hok.1 hb1
          have hG : Good (nthL ks k).t := good_check.1 (by simpa using hb2)
          have hm1 := mem_names (K := ks.take k) (fun x hx => hO.2.1 _ (List.mem_map.2 ⟨x, hx, rfl⟩)) hG
          have hm2 := hns hb1 (nameF (nthL ks k).t)
          refine ⟨k + 1, !decide (nameF (nthL ks k).t ∈ ns), addN ns (nameF (nthL ks k).t), S.uu, ⟨hkl, ?_, ?_⟩, S.sub _ _, by omega⟩
          · rw [hstep]; simp only [Bool.not_eq_true', decide_eq_false_iff_not, hm2, hm1]
            exact ⟨fun h => ⟨hO, hG, h⟩, fun h => h.2.2⟩
          · intro _ s
            rw [mem_addN, hns hb1 s, List.take_add_one, nth_get hkl, List.map_append]
            simp
        · refine gF S ?_; clear S; intro a S
          iterate 2 (refine gF S ?_; clear S; intro a S)
          iterate 2 (refine sq S ?_; clear S; intro a S)
          refine wl_nil ?_
          refine xbn ?_
          refine xtn ?_
          refine c_region ?_
          iterate 2 (refine sq S ?_; clear S; intro a S)
          refine wl_nil ?_
          refine xtn ?_
          rw [w64 ((k : Int) + 1) (by omega) (by omega)] at S
          have hG : ¬ Good (nthL ks k).t := fun h => by rw [good_check.2 h] at hb2; simp at hb2
          refine ⟨k + 1, false, ns, S.uu, ⟨hkl, ?_, ?_⟩, S.sub _ _, by omega⟩
          · rw [hstep]; exact ⟨nofun, fun h => absurd h.2.1 hG⟩
          · nofun
      · refine gF S ?_; clear S; intro a S
        iterate 2 (refine gF S ?_; clear S; intro a S)
        iterate 2 (refine sq S ?_; clear S; intro a S)
        iterate 3 (refine gF S ?_; clear S; intro a S)
        iterate 2 (refine sq S ?_; clear S; intro a S)
        refine wl_nil ?_
        refine xbn ?_
        refine xtn ?_
        refine c_region ?_
        iterate 2 (refine sq S ?_; clear S; intro a S)
        refine wl_nil ?_
        refine xtn ?_
        rw [w64 ((k : Int) + 1) (by omega) (by omega)] at S
        have hO : ¬ OkK ((ks.take k).map LTerm.t) ks.length := fun h => by rw [hok.2 h] at hb1; cases hb1
        refine ⟨k + 1, false, ns, S.uu, ⟨hkl, ?_, ?_⟩, S.sub _ _, by omega⟩
        · rw [hstep]; exact ⟨nofun, fun h => absurd h.1 hO⟩
        · nofun
    · refine c_exit ?_
      iterate 2 (refine xte ?_)
      refine xbe ?_
      refine xtn ?_
      refine c_seq ?_
      refine c_region ?_
      refine sq S ?_; clear S; intro a S
      refine wl_nil ?_
      refine xtn ?_
      iterate 2 (refine c_seq ?_)
      refine c_region ?_
      iterate 4 (refine sq S ?_; clear S; intro a S)
      refine wl_nil ?_
      refine xtn ?_
      refine c_block ?_
      rw [List.take_of_length_le (by simp at h4; omega)] at hok hns
      refine c_forf3 S (fun (k : Nat) (ok : Bool) (ns : List (List UInt8)) uu => [(3, .bool ok), (3, .int .i64 (lastU us k)), (1, uu 9), (27, .int .i64 (k : Nat)), (0, uu 38), (0, uu 39), (0, uu 40), (0, uu 41), (0, uu 42), (0, uu 43), (0, uu 44), (0, uu 45), (0, uu 46), (0, uu 47), (0, uu 48), (0, uu 49), (0, uu 50), (0, uu 51), (0, uu 52), (0, uu 53), (0, uu 54), (0, uu 55), (0, uu 56), (0, uu 57), (0, uu 58), (0, uu 59)]) (fun (k : Nat) (ok : Bool) (ns : List (List UInt8)) => [mp bm (kvT ns), Wk.box b1 25 [.slice pu us.length cu, .slice pk ks.length ck]]) (fun (k : Nat) (ok : Bool) (ns : List (List UInt8)) => k ≤ us.length ∧ (ok = true ↔ OkK (ks.map LTerm.t) ks.length ∧ ∀ i < k, UP (ks.map LTerm.t) us i) ∧ (ok = true → ∀ s, s ∈ ns ↔ s ∈ ks.map fun x => nameF x.t)) (fun (k : Nat) (ok : Bool) (ns : List (List UInt8)) => us.length - k) (0) (ok) (ns) ?_ S.uu ?_ ?_
      · exact ⟨Nat.zero_le _, by simpa using hok, hns⟩
      · first | exact S | exact S.sub _ _
      · clear S; rintro k ok ns uu a w ⟨hkk2, hok2, hns2⟩ S
        refine c_seq ?_
        refine c_region ?_
        refine sq S ?_; clear S; intro a S
        refine wl_nil ?_
        refine xtn ?_
        refine c_seq ?_
        refine c_cond S (fun h10 => ?_) (fun h10 => ?_)
        · refine c_skip ?_
          refine xtn ?_
          refine c_seq ?_
          refine c_block ?_
          refine c_seq ?_
          have hkl : k < us.length := by simp at h10; omega
          have hK : KLt k us.length := ⟨hkl⟩
          have hsp : ∀ p : Nat → Prop, (∀ i < k + 1, p i) ↔ (∀ i < k, p i) ∧ p k := fun p => ⟨fun h => ⟨fun i hi => h i (by omega), h k (by omega)⟩, fun h i hi => (Nat.lt_succ_iff_lt_or_eq.1 hi).elim (h.1 i) (fun e => by rw [e]; exact h.2)⟩
          refine c_region ?_
          iterate 3 (refine sq S ?_; clear S; intro a S)
          refine wl_nil ?_
          refine xtn ?_
          refine c_seq ?_
          refine c_region ?_
          iterate 2 (refine sq S ?_; clear S; intro a S)
          refine gS S (fun hc1 S => ?_) (fun hc1 S => ?_)
          · refine gT S ?_
            refine sq S ?_; clear S; intro a S
            refine gT S ?_
            refine sc S ?_; clear S; intro a w S
            iterate 2 (refine sq S ?_; clear S; intro a S)
            refine gS S (fun hc2 S => ?_) (fun hc2 S => ?_)
            · refine gT S ?_
              refine sq S ?_; clear S; intro a S
              refine gT S ?_
              refine sq S ?_; clear S; intro a S
              refine gT S ?_
              iterate 3 (refine sq S ?_; clear S; intro a S)
              refine gS S (fun hc3 S => ?_) (fun hc3 S => ?_)
              · refine gT S ?_
                refine sq S ?_; clear S; intro a S
                refine gT S ?_
                refine sq S ?_; clear S; intro a S
                refine gT S ?_
                refine sc S ?_; clear S; intro a w S
                refine gT S ?_
                refine sri (mp bm (kvT ns)) S (bput_c (secretL (nthI us k)) bm ns w (S.wd.held _ (by simp)) ((S.t (secretL (nthI us k))).less (fun x _ hx => ⟨mp bm (kvT ns), by simp, hx⟩))) rfl ?_; clear S; rintro _ a w ⟨rfl, hm⟩ hS
                have S := hS (mp bm (kvT (addN ns (nameF (secretL (nthI us k)).t)))) _ inferInstance hm (fun k hk => .inl hk) (mp_lt hm) (mp_loc _ _)
                clear hS
                refine gT S ?_
                iterate 3 (refine sq S ?_; clear S; intro a S)
                refine wl_nil ?_
                refine xtn ?_
                refine c_region ?_
                iterate 2 (refine sq S ?_; clear S; intro a S)
                refine wl_nil ?_
                refine xbn ?_
                refine xtn ?_
                refine c_region ?_
                iterate 2 (refine sq S ?_; clear S; intro a S)
                refine wl_nil ?_
                refine xtn ?_
                rw [w64 ((k : Int) + 1) (by omega) (by omega)] at S
                rw [secretL_t] at S
                obtain ⟨hO, hU⟩ := hok2.1 hc1
                have hu6 : 1 ≤ nthI us k ∧ nthI us k ≤ 6 := by simpa [isUser] using hc2
                have hlt : lastU us k < nthI us k := by simpa using hc3
                have hm1 := mem_names (K := ks) (t := secretT (nthI us k)) (fun x hx => hO.2.1 _ (List.mem_map.2 ⟨x, hx, rfl⟩)) (good_secret hu6)
                have hm2 := hns2 hc1 (nameF (secretT (nthI us k)))
                refine ⟨k + 1, !!decide (nameF (secretT (nthI us k)) ∈ ns), addN ns (nameF (secretT (nthI us k))), S.uu, ⟨hkl, ?_, ?_⟩, S.sub _ _, by omega⟩
                · rw [hsp]; simp only [Bool.not_not, decide_eq_true_eq, hm2, hm1]
                  exact ⟨fun h => ⟨hO, hU, hu6, hlt, h⟩, fun h => h.2.2.2.2⟩
                · intro hq s
                  have hin : nameF (secretT (nthI us k)) ∈ ns := by simpa using hq
                  rw [mem_addN, hns2 hc1 s]
                  exact ⟨fun h => h.elim id (fun e => by rw [e]; exact (hns2 hc1 _).1 hin), .inl⟩
              · refine gF S ?_; clear S; intro a S
                iterate 4 (refine gF S ?_; clear S; intro a S)
                iterate 2 (refine sq S ?_; clear S; intro a S)
                refine wl_nil ?_
                refine xtn ?_
                refine c_region ?_
                iterate 2 (refine sq S ?_; clear S; intro a S)
                refine wl_nil ?_
                refine xbn ?_
                refine xtn ?_
                refine c_region ?_
                iterate 2 (refine sq S ?_; clear S; intro a S)
                refine wl_nil ?_
                refine xtn ?_
                rw [w64 ((k : Int) + 1) (by omega) (by omega)] at S
                have hlt : ¬ lastU us k < nthI us k := by simpa using hc3
                refine ⟨k + 1, false, ns, S.uu, ⟨hkl, ?_, nofun⟩, S.sub _ _, by omega⟩
                rw [hsp]; exact ⟨nofun, fun h => absurd h.2.2.2.1 hlt⟩
            · refine gF S ?_; clear S; intro a S
              iterate 2 (refine gF S ?_; clear S; intro a S)
              iterate 2 (refine sq S ?_; clear S; intro a S)
              iterate 5 (refine gF S ?_; clear S; intro a S)
              iterate 2 (refine sq S ?_; clear S; intro a S)
              refine wl_nil ?_
              refine xtn ?_
              refine c_region ?_
              iterate 2 (refine sq S ?_; clear S; intro a S)
              refine wl_nil ?_
              refine xbn ?_
              refine xtn ?_
              refine c_region ?_
              iterate 2 (refine sq S ?_; clear S; intro a S)
              refine wl_nil ?_
              refine xtn ?_
              rw [w64 ((k : Int) + 1) (by omega) (by omega)] at S
              have hu6 : ¬ (1 ≤ nthI us k ∧ nthI us k ≤ 6) := fun h => by simp [isUser, h] at hc2
              refine ⟨k + 1, false, ns, S.uu, ⟨hkl, ?_, nofun⟩, S.sub _ _, by omega⟩
              rw [hsp]; exact ⟨nofun, fun h => absurd h.2.2.1 hu6⟩
          · refine gF S ?_; clear S; intro a S
            refine gF S ?_; clear S; intro a S
            iterate 2 (refine sq S ?_; clear S; intro a S)
            iterate 3 (refine gF S ?_; clear S; intro a S)
            iterate 2 (refine sq S ?_; clear S; intro a S)
            iterate 5 (refine gF S ?_; clear S; intro a S)
            iterate 2 (refine sq S ?_; clear S; intro a S)
            refine wl_nil ?_
            refine xtn ?_
            refine c_region ?_
            iterate 2 (refine sq S ?_; clear S; intro a S)
            refine wl_nil ?_
            refine xbn ?_
            refine xtn ?_
            refine c_region ?_
            iterate 2 (refine sq S ?_; clear S; intro a S)
            refine wl_nil ?_
            refine xtn ?_
            rw [w64 ((k : Int) + 1) (by omega) (by omega)] at S
            have hn : ¬ (OkK (ks.map LTerm.t) ks.length ∧ ∀ i < k, UP (ks.map LTerm.t) us i) := fun h => by rw [hok2.2 h] at hc1; cases hc1
            refine ⟨k + 1, false, ns, S.uu, ⟨hkl, ?_, nofun⟩, S.sub _ _, by omega⟩
            rw [hsp]; exact ⟨nofun, fun h => absurd ⟨h.1, h.2.1⟩ hn⟩
        · refine c_exit ?_
          iterate 2 (refine xte ?_)
          refine xbe ?_
          refine xtn ?_
          iterate 2 (refine c_seq ?_)
          refine c_region ?_
          iterate 2 (refine sq S ?_; clear S; intro a S)
          refine wl_nil ?_
          refine xtn ?_
          refine c_cond S (fun h15 => ?_) (fun h15 => ?_)
          · refine c_seq ?_
            refine c_region ?_
            refine sq S ?_; clear S; intro a S
            refine wl_nil ?_
            refine xtn ?_
            refine c_ret ?_
            refine xtr ?_
            have hn : ¬ RightA (ks.map LTerm.t) us := fun h => by
              have hke : k = us.length := by simp at h10; omega
              have : ok = true := hok2.2 ⟨by simpa using h.1, fun i hi => h.2 i (by omega)⟩
              rw [this] at h15; simp at h15
            refine end1 S (fun _ => ?_)
            rw [chkA_neg hn]
          · refine c_skip ?_
            refine xtn ?_
            refine c_seq ?_
            refine c_region ?_
            refine sq S ?_; clear S; intro a S
            refine wl_nil ?_
            refine xtn ?_
            refine c_ret ?_
            have hke : k = us.length := by simp at h10; omega
            have hk2 : ok = true := by simpa using h15
            have h := hok2.1 hk2
            refine end1 S (fun _ => ?_)
            rw [chkA_pos ⟨by simpa using h.1, fun i hi => h.2 i (by omega)⟩]
end Go.Proofs.Ytgielmldblopeaa
