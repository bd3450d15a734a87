/- Package safehouselaw22: small, terms, short; and attackers that are the same. -/
import Derived.Test.YtgielmldblopeaaAttackB
import Derived.Test.YtgielmldblopeaaRefSame
namespace Go.Proofs.Ytgielmldblopeaa
open Go Go.Wk
set_option synthInstance.maxSize 100000
set_option synthInstance.maxHeartbeats 400000
set_option maxRecDepth 100000

def Term.kidsT : Term → List Term
  | .mk _ _ _ _ ks => ks
def smallT : Nat → Term → Term
  | 0, .mk k u n s _ => .mk k u n (s.take 65) []
  | d + 1, .mk k u n s ks => .mk k u n (s.take 65) ((ks.take 3).map (smallT d))
def smallK (d : Nat) (ks : List Term) : List Term := match d with | 0 => [] | d + 1 => (ks.take 3).map (smallT d)
theorem smallT_eq (d : Nat) (t : LTerm) : smallT d t.t = .mk t.kind t.user t.num (t.text.take 65) (smallK d (t.kids.map LTerm.t)) := by
  rw [t.t_eq]; cases d <;> rfl
theorem smallK_len (d : Nat) (ks : List Term) : (smallK d ks).length ≤ 3 := by
  cases d
  · simp [smallK]
  · simp only [smallK, List.length_map, List.length_take]; omega
theorem smallK_more {d : Nat} {ks : List LTerm} {k : Nat} (h : k < ks.length) (hk : k < 3) : smallK (d + 1) ((ks.take (k + 1)).map LTerm.t) = smallK (d + 1) ((ks.take k).map LTerm.t) ++ [smallT d (nthL ks k).t] := by
  simp only [smallK]
  have e1 : ((ks.take (k + 1)).map LTerm.t).take 3 = (ks.take (k + 1)).map LTerm.t := List.take_of_length_le (by simp; omega)
  have e2 : ((ks.take k).map LTerm.t).take 3 = (ks.take k).map LTerm.t := List.take_of_length_le (by simp; omega)
  rw [e1, e2, take_map_succ ks k h, List.map_append]; rfl
theorem smallK_same {d : Nat} {ks : List LTerm} {k : Nat} (h : k < ks.length) (hk : ¬ (k < 3 ∧ 0 < d)) : smallK d ((ks.take (k + 1)).map LTerm.t) = smallK d ((ks.take k).map LTerm.t) := by
  cases d with
  | zero => rfl
  | succ d =>
    simp only [smallK]
    rw [take_map_succ ks k h, List.take_append_of_le_length (by simp; omega)]
theorem small_c (d : Nat) : ∀ (t : LTerm) (M : Nat → Prop) (w0 : World), d ≤ 30 → (∀ k, M k → k < w0.heap.size) → Stable M w0 (LtF t) → Ret Try.prog 36 [vL t, .int .i64 (d : Int)] w0 (fun _ => False) fun v w' => IsT M w' v (smallT d t.t) := by
  induction d using Nat.strongRecOn with
  | _ d ih =>
  intro t M w0 hd hM hf
  have hlen := LTerm.len_le hf
  refine enter Try.func36 rfl rfl (Wd.beginM (M := M) (fs := [LtF t]) hM (by simpa using hf)) (fun a S => ?_)
  simp only [Try.ntmps36, List.length_cons, List.length_nil, Nat.reduceAdd, Nat.reduceSub, List.replicate_succ, List.replicate_zero, List.cons_append, List.nil_append] at S
  refine c_seq ?_
  refine c_region ?_
  refine sa S ?_; clear S; intro b2 a w S
  refine sa S ?_; clear S; intro b4 a w S
  refine wl_nil ?_
  refine xtn ?_
  refine c_seq ?_
  refine c_region ?_
  iterate 7 (refine sq S ?_; clear S; intro a S)
  rw [show (t.text.take (min t.text.length 65)).drop 0 = t.text.take 65 from by rw [List.drop_zero, List.take_eq_take_iff]; omega] at S
  refine sq S ?_; clear S; intro a S
  refine sw S ?_; clear S; intro a w S
  refine wl_nil ?_
  refine xtn ?_
  refine c_seq ?_
  refine c_region ?_
  refine sq S ?_; clear S; intro a S
  refine wl_nil ?_
  refine xtn ?_
  iterate 2 (refine c_seq ?_)
  refine c_region ?_
  iterate 4 (refine sq S ?_; clear S; intro a S)
  refine wl_nil ?_
  refine xtn ?_
  refine c_block ?_
  replace S := S.addNil 35 5
  refine c_fore4 S (fun (k : Nat) (os : List LTerm) (p' : Option Addr) (c' : Nat) uu => [(5, .slice p' os.length c'), (0, uu 6), (0, uu 7), (11, .int .i64 (k : Nat)), (0, uu 20), (0, uu 21), (0, uu 22), (0, uu 23), (0, uu 24), (0, uu 25), (0, uu 26), (0, uu 27), (0, uu 28), (0, uu 29), (0, uu 30), (0, uu 31), (0, uu 32), (0, uu 33), (0, uu 34), (0, uu 35), (0, uu 36), (0, uu 37)]) (fun (k : Nat) (os : List LTerm) (p' : Option Addr) (c' : Nat) => [Wk.row 35 5 p' os.length c' (encL os), Wk.box b4 35 zeroL.cells, Wk.box b2 35 [.int .i64 t.kind, .int .i64 t.user, .int .i64 t.num, str (t.text.take 65), .slice t.p t.kids.length t.cap], ext M]) (fun (k : Nat) (os : List LTerm) (p' : Option Addr) (c' : Nat) => [AllL os, LtF t]) (fun (k : Nat) (os : List LTerm) (p' : Option Addr) (c' : Nat) => k ≤ t.kids.length ∧ os.map LTerm.t = smallK d ((t.kids.take k).map LTerm.t)) (fun (k : Nat) (os : List LTerm) (p' : Option Addr) (c' : Nat) => t.kids.length - k) (0) ([]) (none) (0) ?_ S.uu ?_ ?_
  · refine ⟨Nat.zero_le _, ?_⟩
    cases d <;> rfl
  · exact S.add (Φ := AllL []) (fun _ _ x hx => by cases hx)
  · clear S; rintro k os p' c' uu a w ⟨hk, hrel⟩ S
    refine c_seq ?_
    refine c_region ?_
    refine sq S ?_; clear S; intro a S
    refine wl_nil ?_
    refine xtn ?_
    refine c_seq ?_
    refine c_cond S (fun h4 => ?_) (fun h4 => ?_)
    · refine c_skip ?_
      refine xtn ?_
      refine c_seq ?_
      refine c_block ?_
      refine c_seq ?_
      have hkl : k < t.kids.length := by simpa using h4
      have hK : KLt k t.kids.length := ⟨hkl⟩
      have hol : os.length ≤ 3 := by have := congrArg List.length hrel; rw [List.length_map] at this; have h2 := smallK_len d ((t.kids.take k).map LTerm.t); omega
      refine c_region ?_
      iterate 3 (refine sq S ?_; clear S; intro a S)
      refine sa S ?_; clear S; intro b7 a w S
      refine sq S ?_; clear S; intro a S
      refine sw S ?_; clear S; intro a w S
      refine wl_nil ?_
      refine xtn ?_
      refine c_seq ?_
      refine c_region ?_
      iterate 3 (refine sq S ?_; clear S; intro a S)
      iterate 2 (refine gQ S ?_; clear S; intro a S)
      refine sq S ?_; clear S; intro a S
      refine wl_nil ?_
      refine xtn ?_
      refine c_cond S (fun h6 => ?_) (fun h6 => ?_)
      · have h6' : k < 3 ∧ 0 < d := by simp at h6; omega
        obtain ⟨d', rfl⟩ : ∃ d', d = d' + 1 := ⟨d - 1, by omega⟩
        refine c_region ?_
        iterate 4 (refine sq S ?_; clear S; intro a S)
        rw [show IntKind.i64.wrap ((((d' + 1 : Nat) : Int)) - 1) = (d' : Int) from by rw [w64 _ (by omega) (by omega)]; omega] at S
        refine sr S (ih d' (by omega) (nthL t.kids k) _ w (by omega) (foots_lt S) (S.t (nthL t.kids k))) ?_; clear S; rintro _ a w ⟨r, rfl, hr, hrf⟩ S
        replace S := S.add hrf
        refine sn S ?_; clear S; intro b35 a w S
        refine sap S (by simp [maxLen]; omega) (by omega) ?_; clear S; rintro p7 c7 a w - S
        rw [show encL os ++ r.cells = encL (os ++ [r]) from by rw [encL_append os [r], encT_cells], show os.length + 1 = (os ++ [r]).length from by simp] at S
        refine sq S ?_; clear S; intro a S
        refine wl_nil ?_
        refine xbn ?_
        refine xtn ?_
        refine c_region ?_
        iterate 2 (refine sq S ?_; clear S; intro a S)
        refine wl_nil ?_
        refine xtn ?_
        rw [w64 ((k : Int) + 1) (by omega) (by omega)] at S
        have h1 : Stable _ _ (AllL os) := S.wd.facts (AllL os) (by simp)
        have h2 := S.t r
        replace S := S.add (Φ := AllL (os ++ [r])) (fun w' hw' x hx => by
          rcases List.mem_append.1 hx with h | h
          · exact h1 w' hw' x h
          · rw [List.mem_singleton.1 h]; exact h2 w' hw')
        exact ⟨k + 1, os ++ [r], p7, c7, S.uu, ⟨hkl, by rw [smallK_more hkl h6'.1, List.map_append, hrel, List.map_singleton, hr]⟩, S.sub _ _, by omega⟩
      · refine c_skip ?_
        refine xbn ?_
        refine xtn ?_
        refine c_region ?_
        iterate 2 (refine sq S ?_; clear S; intro a S)
        refine wl_nil ?_
        refine xtn ?_
        have h6' : ¬ (k < 3 ∧ 0 < d) := fun h => by simp [h] at h6; omega
        rw [w64 ((k : Int) + 1) (by omega) (by omega)] at S
        exact ⟨k + 1, os, p', c', S.uu, ⟨hkl, by rw [smallK_same hkl h6']; exact hrel⟩, S.sub _ _, by omega⟩
    · refine c_exit ?_
      iterate 2 (refine xte ?_)
      refine xbe ?_
      refine xtn ?_
      refine c_seq ?_
      refine c_region ?_
      iterate 2 (refine sq S ?_; clear S; intro a S)
      refine sw S ?_; clear S; intro a w S
      refine wl_nil ?_
      refine xtn ?_
      refine c_seq ?_
      refine c_region ?_
      refine sq S ?_; clear S; intro a S
      refine sw S ?_; clear S; intro a w S
      refine wl_nil ?_
      refine xtn ?_
      refine c_ret ?_
      have hrow := S.row p' os.length
      have hnew := S.rowNew p' os.length
      have hall := S.laterFact (Φ := AllL os) (by simp)
      rw [List.take_of_length_le (by simp at h4; omega)] at hrel
      refine end1 S (fun _ => ?_)
      refine ⟨.mk t.kind t.user t.num (t.text.take 65) p' c' os, rfl, ?_, fun w' hw' => ?_⟩
      · rw [smallT_eq, ← hrel]; exact LTerm.t_eq _
      · have hls := ls_of_own hrow (fun x hx => AllL.get hall hx) (fun ad h hm => (hnew ad h).elim id (fun h2 => by have := hM _ hm; omega))
        exact ⟨own_le hrow, own_cap hrow, hls w' hw'⟩
theorem terms_c (xs : List LTerm) (n : Nat) (p : Option Addr) (c : Nat) (M : Nat → Prop) (w0 : World) (hn : n ≤ 1000) (hM : ∀ k, M k → k < w0.heap.size) (hl : xs.length ≤ 9223372036854775807) (hf : Stable M w0 (LsF p 0 xs)) :
    Ret Try.prog 9 [.slice p xs.length c, .int .i64 (n : Int)] w0 (fun _ => False) fun v w' => IsLs M w' v (((xs.take n).map LTerm.t).map (smallT 6)) := by
  refine enter Try.func9 rfl rfl (Wd.beginM (M := M) (fs := [LsF p 0 xs]) hM (by simpa using hf)) (fun a S => ?_)
  simp only [Try.ntmps9, List.length_cons, List.length_nil, Nat.reduceAdd, Nat.reduceSub, List.replicate_succ, List.replicate_zero, List.cons_append, List.nil_append] at S
  refine c_seq ?_
  refine c_region ?_
  refine sq S ?_; clear S; intro a S
  refine wl_nil ?_
  refine xtn ?_
  refine c_seq ?_
  refine c_region ?_
  refine sq S ?_; clear S; intro a S
  refine wl_nil ?_
  refine xtn ?_
  iterate 2 (refine c_seq ?_)
  refine c_region ?_
  iterate 3 (refine sq S ?_; clear S; intro a S)
  refine wl_nil ?_
  refine xtn ?_
  refine c_block ?_
  replace S := S.addNil 35 5
  refine c_fore4 S (fun (k : Nat) (os : List LTerm) (p' : Option Addr) (c' : Nat) uu => [(5, .slice p' os.length c'), (0, uu 6), (0, uu 7), (2, .int .i64 (k : Nat)), (0, uu 11), (0, uu 12), (0, uu 13), (0, uu 14), (0, uu 15), (0, uu 16), (0, uu 17), (0, uu 18), (0, uu 19), (0, uu 20), (0, uu 21), (0, uu 22), (0, uu 23)]) (fun (k : Nat) (os : List LTerm) (p' : Option Addr) (c' : Nat) => [Wk.row 35 5 p' os.length c' (encL os), ext M]) (fun (k : Nat) (os : List LTerm) (p' : Option Addr) (c' : Nat) => [AllL os, LsF p 0 xs]) (fun (k : Nat) (os : List LTerm) (p' : Option Addr) (c' : Nat) => k ≤ xs.length ∧ k ≤ n ∧ os.map LTerm.t = ((xs.take k).map LTerm.t).map (smallT 6)) (fun (k : Nat) (os : List LTerm) (p' : Option Addr) (c' : Nat) => xs.length - k) (0) ([]) (none) (0) ?_ S.uu ?_ ?_
  · exact ⟨Nat.zero_le _, Nat.zero_le _, rfl⟩
  · exact S.add (Φ := AllL []) (fun _ _ x hx => by cases hx)
  · clear S; rintro k os p' c' uu a w ⟨hk, hkn, hrel⟩ S
    refine c_seq ?_
    refine c_region ?_
    refine sq S ?_; clear S; intro a S
    refine wl_nil ?_
    refine xtn ?_
    refine c_seq ?_
    refine c_cond S (fun h3 => ?_) (fun h3 => ?_)
    · refine c_skip ?_
      refine xtn ?_
      refine c_seq ?_
      refine c_block ?_
      refine c_seq ?_
      have hkl : k < xs.length := by simpa using h3
      have hK : KLt k xs.length := ⟨hkl⟩
      have hol : os.length = k := by have := congrArg List.length hrel; simp at this; omega
      refine c_region ?_
      iterate 3 (refine sq S ?_; clear S; intro a S)
      refine sa S ?_; clear S; intro b7 a w S
      refine sq S ?_; clear S; intro a S
      refine sw S ?_; clear S; intro a w S
      refine wl_nil ?_
      refine xtn ?_
      iterate 2 (refine c_seq ?_)
      refine c_region ?_
      iterate 3 (refine sq S ?_; clear S; intro a S)
      refine wl_nil ?_
      refine xtn ?_
      refine c_cond S (fun h5 => ?_) (fun h5 => ?_)
      · refine c_exit ?_
        refine xte ?_
        refine xbx ?_
        iterate 2 (refine xte ?_)
        refine xbe ?_
        refine xtn ?_
        refine c_seq ?_
        refine c_region ?_
        iterate 2 (refine sq S ?_; clear S; intro a S)
        refine wl_nil ?_
        refine xtn ?_
        refine c_ret ?_
        have hrow := S.row p' os.length
        have hnew := S.rowNew p' os.length
        have hall := S.laterFact (Φ := AllL os) (by simp)
        have hkn2 : k = n := by simpa [Int.ofNat_inj] using h5
        refine end1 S (fun _ => ?_)
        exact ⟨p', c', os, rfl, by rw [← hkn2]; exact hrel, own_le hrow, own_cap hrow, ls_of_own hrow (fun x hx => AllL.get hall hx) (fun ad h hm => (hnew ad h).elim id (fun h2 => by have := hM _ hm; omega))⟩
      · refine c_skip ?_
        refine xtn ?_
        refine c_region ?_
        iterate 2 (refine sq S ?_; clear S; intro a S)
        refine sr S (small_c 6 (nthL xs k) _ w (by omega) (foots_lt S) (S.t (nthL xs k))) ?_; clear S; rintro _ a w ⟨r, rfl, hr, hrf⟩ S
        replace S := S.add hrf
        refine sn S ?_; clear S; intro b21 a w S
        refine sap S (by simp [maxLen]; omega) (by omega) ?_; clear S; rintro p7 c7 a w - S
        rw [show encL os ++ r.cells = encL (os ++ [r]) from by rw [encL_append os [r], encT_cells], show os.length + 1 = (os ++ [r]).length from by simp] at S
        refine sq S ?_; clear S; intro a S
        refine wl_nil ?_
        refine xbn ?_
        refine xtn ?_
        refine c_region ?_
        iterate 2 (refine sq S ?_; clear S; intro a S)
        refine wl_nil ?_
        refine xtn ?_
        have hkn2 : k < n := by
          have : k ≠ n := fun h => by rw [h] at h5; simp at h5
          omega
        rw [w64 ((k : Int) + 1) (by omega) (by omega)] at S
        have h1 : Stable _ _ (AllL os) := S.wd.facts (AllL os) (by simp)
        have h2 := S.t r
        replace S := S.add (Φ := AllL (os ++ [r])) (fun w' hw' x hx => by
          rcases List.mem_append.1 hx with h | h
          · exact h1 w' hw' x h
          · rw [List.mem_singleton.1 h]; exact h2 w' hw')
        exact ⟨k + 1, os ++ [r], p7, c7, S.uu, ⟨hkl, hkn2, by rw [take_map_succ xs k hkl, List.map_append, List.map_append, hrel, List.map_singleton, List.map_singleton, hr]⟩, S.sub _ _, by omega⟩
    · refine c_exit ?_
      iterate 2 (refine xte ?_)
      refine xbe ?_
      refine xtn ?_
      refine c_seq ?_
      refine c_region ?_
      iterate 2 (refine sq S ?_; clear S; intro a S)
      refine wl_nil ?_
      refine xtn ?_
      refine c_ret ?_
      have hrow := S.row p' os.length
      have hnew := S.rowNew p' os.length
      have hall := S.laterFact (Φ := AllL os) (by simp)
      have hkn2 : xs.take k = xs.take n := by rw [List.take_of_length_le (by simp at h3; omega), List.take_of_length_le (by simp at h3; omega)]
      refine end1 S (fun _ => ?_)
      exact ⟨p', c', os, rfl, by rw [← hkn2]; exact hrel, own_le hrow, own_cap hrow, ls_of_own hrow (fun x hx => AllL.get hall hx) (fun ad h hm => (hnew ad h).elim id (fun h2 => by have := hM _ hm; omega))⟩
/-- an attacker that somebody has. -/
def IsA (M : Nat → Prop) (w : World) (v : Value) (us : List Int) (Ts : List Term) : Prop := ∃ (pu : Option Addr) (cu : Nat) (pk : Option Addr) (ck : Nat) (ks : List LTerm), v = vA pu us.length cu pk ks.length ck ∧ ks.map LTerm.t = Ts ∧ us.length ≤ cu ∧ ks.length ≤ ck ∧ cu ≤ maxLen ∧ ck ≤ maxLen ∧ Stable M w (SlF pu (encL us)) ∧ Stable M w (LsF pk 0 ks)
def shortN (n : Nat) : Nat := if 250 < n then 501 else 12
def shortK (K : List Term) : List Term := (K.take (shortN K.length)).map (smallT 6)
theorem short_c (us : List Int) (ks : List LTerm) (pu pk : Option Addr) (cu ck : Nat) (M : Nat → Prop) (w0 : World) (hM : ∀ k, M k → k < w0.heap.size) (hul : us.length ≤ cu) (hkl : ks.length ≤ 9223372036854775807)
    (hu : Stable M w0 (SlF pu (encL us))) (hk : Stable M w0 (LsF pk 0 ks)) :
    Ret Try.prog 8 [vA pu us.length cu pk ks.length ck] w0 (fun _ => False) fun v w' => IsA M w' v (us.take 8) (shortK (ks.map LTerm.t)) := by
  have hle : LeC (min us.length 8) cu := ⟨by omega⟩
  refine enter Try.func8 rfl rfl (Wd.beginM (M := M) (fs := [SlF pu (encL us), LsF pk 0 ks]) hM (by simp; exact ⟨hu, hk⟩)) (fun a S => ?_)
  simp only [Try.ntmps8, List.length_cons, List.length_nil, Nat.reduceAdd, Nat.reduceSub, List.replicate_succ, List.replicate_zero, List.cons_append, List.nil_append] at S
  refine c_seq ?_
  refine c_region ?_
  refine sa S ?_; clear S; intro b1 a w S
  refine sa S ?_; clear S; intro b2 a w S
  refine wl_nil ?_
  refine xtn ?_
  refine c_seq ?_
  refine c_region ?_
  refine sq S ?_; clear S; intro a S
  refine wl_nil ?_
  refine xtn ?_
  refine c_mrgb1 S (fun (n : Nat) uu => [(3, .int .i64 (n : Nat)), (0, uu 4), (0, uu 5), (0, uu 6), (0, uu 7)]) (fun (n : Nat) => n = shortN ks.length) ?_ ?_
  · refine c_seq ?_
    refine c_region ?_
    iterate 4 (refine sq S ?_; clear S; intro a S)
    refine wl_nil ?_
    refine xtn ?_
    refine c_cond S (fun h2 => ?_) (fun h2 => ?_)
    · refine c_region ?_
      refine sq S ?_; clear S; intro a S
      refine wl_nil ?_
      refine xtn ?_
      exact ⟨501, S.uu, by have : 250 < ks.length := (by simp at h2; omega); simp [shortN, this], S⟩
    · refine c_skip ?_
      refine xtn ?_
      exact ⟨12, S.uu, by have : ¬ 250 < ks.length := (by simp at h2; omega); simp [shortN, this], S⟩
  · clear S; rintro n uu a w hn S
    refine c_seq ?_
    refine c_drawE [(1, true), (2, true), (3, true), (4, true), (5, true), (6, true), (7, true), (9, true), (10, true), (11, true), (0, false), (8, false), (12, false), (13, true), (14, false)] [Wk.box b1 25 [.slice pu us.length cu, .slice pk ks.length ck], ext M] S ?_; clear S; intro w S
    iterate 10 (refine dq S ?_; clear S; intro a S)
    refine dl ?_
    refine sn S ?_; clear S; intro b8 a w S
    refine de S ?_
    refine dl ?_
    replace S := S.boxRow b8 1 0 rfl (by omega)
    have hfu : Stable _ _ (SlF pu (encL us)) := S.wd.facts (SlF pu (encL us)) (by simp)
    replace S := S.add (hfu.imp fun _ h => SlF.take 8 h)
    have hN : LenN (us.take 8) (min us.length 8) := ⟨by simp; omega⟩
    refine sap S (by simp [maxLen]; omega) (by omega) ?_; clear S; rintro p8 c8 a w - S
    rw [List.nil_append, Nat.zero_add, show min us.length 8 = (us.take 8).length from by simp; omega] at S
    refine de S ?_
    refine dl ?_
    have hn5 : n ≤ 1000 := by rw [hn, shortN]; split <;> omega
    refine sr S (terms_c ks n pk ck _ w hn5 (foots_lt S) hkl (S.wd.facts (LsF pk 0 ks) (by simp))) ?_; clear S; rintro _ a w ⟨p12, c12, ks', rfl, hks', h1, h2, hf⟩ S
    replace S := S.add hf
    rw [show ((ks.take n).map LTerm.t).map (smallT 6) = shortK (ks.map LTerm.t) from by rw [shortK, List.map_take, List.length_map, hn]] at hks'
    refine de S ?_
    refine dq S ?_; clear S; intro a S
    refine dl ?_
    refine sw S ?_; clear S; intro a w S
    refine de S ?_
    refine dn ?_
    refine xtn ?_
    refine c_ret ?_
    have hrow := S.row p8 (us.take 8).length
    have hnew := S.rowNew p8 (us.take 8).length
    have hl := S.laterFact (Φ := LsF p12 0 ks') (by simp)
    refine end1 S (fun _ => ?_)
    exact ⟨p8, c8, p12, c12, ks', rfl, hks', own_le hrow, h1, own_cap hrow, h2, SlF.stable (own_sl hrow) (fun ad h hm => (hnew ad h).elim id (fun h2 => by have := hM _ hm; omega)), hl⟩

/-! attackers that are the same -/
theorem sl_gl {w : World} {p : Option Addr} {xs : List Int} (h : SlF p (encL xs) w) : GlF p xs w := ⟨h, fun _ _ => trivial⟩
theorem equalT_c (xs ys : List LTerm) (p q : Option Addr) (c e : Nat) (w0 : World) (hl : xs.length ≤ 9223372036854775807) (hx : Stable (fun _ => False) w0 (LsF p 0 xs)) (hy : Stable (fun _ => False) w0 (LsF q 0 ys)) :
    Ret Try.prog 40 [.slice p xs.length c, .slice q ys.length e, .func (.func 12) #[] #[]] w0 (fun _ => False) fun v _ => v = .bool (sameLF (xs.map LTerm.t) (ys.map LTerm.t)) :=
  equal_c (SizeOf.sizeOf xs) (same_all _) p q c e _ _ xs ys rfl rfl w0 hl (fun x hx => by have := List.sizeOf_lt_of_mem hx; omega) hx hy
def sameA (us vs : List Int) (K L : List Term) : Bool := decide (us = vs) && sameLF K L
theorem r22same_c (us vs : List Int) (ks ls : List LTerm) (pu pk qu qk : Option Addr) (cu ck du dk : Nat) (w0 : World) (hul : us.length ≤ 1000000) (hkl : ks.length ≤ 1000000) (hu : Stable (fun _ => False) w0 (SlF pu (encL us))) (hk : Stable (fun _ => False) w0 (LsF pk 0 ks)) (hv : Stable (fun _ => False) w0 (SlF qu (encL vs))) (hl : Stable (fun _ => False) w0 (LsF qk 0 ls)) :
    Ret Try.prog 23 [vA pu us.length cu pk ks.length ck, vA qu vs.length du qk ls.length dk] w0 (fun _ => False) fun v _ => v = .bool (sameA us vs (ks.map LTerm.t) (ls.map LTerm.t)) := by
  refine enter Try.func23 rfl rfl (Wd.begin (fs := [GlF pu us, LsF pk 0 ks, GlF qu vs, LsF qk 0 ls]) (by simp; exact ⟨hu.imp fun _ => sl_gl, hk, hv.imp fun _ => sl_gl, hl⟩)) (fun a S => ?_)
  simp only [Try.ntmps23, List.length_cons, List.length_nil, Nat.reduceAdd, Nat.reduceSub, List.replicate_succ, List.replicate_zero, List.cons_append, List.nil_append] at S
  refine c_seq ?_
  refine c_region ?_
  refine sa S ?_; clear S; intro b2 a w S
  refine sa S ?_; clear S; intro b3 a w S
  refine sq S ?_; clear S; intro a S
  refine wl_nil ?_
  refine xtn ?_
  iterate 2 (refine c_seq ?_)
  refine c_region ?_
  iterate 7 (refine sq S ?_; clear S; intro a S)
  refine wl_nil ?_
  refine xtn ?_
  refine c_cond S (fun h1 => ?_) (fun h1 => ?_)
  · refine c_seq ?_
    refine c_region ?_
    refine sq S ?_; clear S; intro a S
    refine wl_nil ?_
    refine xtn ?_
    refine c_ret ?_
    refine xtr ?_
    have hne : us ≠ vs := fun h => by rw [h] at h1; simp at h1
    refine end1 S (fun _ => ?_)
    rw [sameA, decide_eq_false hne]; rfl
  · refine c_skip ?_
    refine xtn ?_
    iterate 2 (refine c_seq ?_)
    refine c_region ?_
    iterate 4 (refine sq S ?_; clear S; intro a S)
    refine wl_nil ?_
    refine xtn ?_
    refine c_block ?_
    have hle : us.length = vs.length := by simp at h1; omega
    refine c_forb1 S (fun (k : Nat) uu => [(4, uu 4), (0, uu 5), (10, .int .i64 (k : Nat)), (0, uu 17), (0, uu 18), (0, uu 19), (0, uu 20), (0, uu 21), (0, uu 22), (0, uu 23), (0, uu 24), (0, uu 25), (0, uu 26), (0, uu 27), (0, uu 28), (0, uu 29), (0, uu 30)]) (fun (k : Nat) => k ≤ us.length ∧ us.take k = vs.take k) (fun (k : Nat) => us.length - k) (0) ?_ S.uu ?_ ?_
    · exact ⟨Nat.zero_le _, rfl⟩
    · first | exact S | exact S.sub _ _
    · clear S; rintro k uu a w ⟨hk2, hrel⟩ S
      refine c_seq ?_
      refine c_region ?_
      refine sq S ?_; clear S; intro a S
      refine wl_nil ?_
      refine xtn ?_
      refine c_seq ?_
      refine c_cond S (fun h4 => ?_) (fun h4 => ?_)
      · refine c_skip ?_
        refine xtn ?_
        refine c_seq ?_
        refine c_block ?_
        refine c_seq ?_
        have hkl2 : k < us.length := by simpa using h4
        have hK1 : KLt k us.length := ⟨hkl2⟩
        have hK2 : KLt k vs.length := ⟨by omega⟩
        refine c_region ?_
        iterate 2 (refine sq S ?_; clear S; intro a S)
        refine wl_nil ?_
        refine xtn ?_
        refine c_seq ?_
        refine c_drawD [(0, true), (1, true), (2, true), (3, true), (4, true), (5, true), (6, true), (7, true), (8, true), (9, true), (10, true)] [] S ?_; clear S; intro w S
        iterate 11 (refine dq S ?_; clear S; intro a S)
        refine dn ?_
        refine xtn ?_
        refine c_cond S (fun h6 => ?_) (fun h6 => ?_)
        · refine c_seq ?_
          refine c_region ?_
          refine sq S ?_; clear S; intro a S
          refine wl_nil ?_
          refine xtn ?_
          refine c_ret ?_
          refine xbr ?_
          iterate 2 (refine xtr ?_)
          refine xbr ?_
          refine xtr ?_
          have h9 : nthG us k ≠ nthG vs k := by simpa using h6
          have hne : us ≠ vs := fun h => h9 (by rw [h])
          refine end1 S (fun _ => ?_)
          rw [sameA, decide_eq_false hne]; rfl
        · refine c_skip ?_
          refine xbn ?_
          refine xtn ?_
          refine c_region ?_
          iterate 2 (refine sq S ?_; clear S; intro a S)
          refine wl_nil ?_
          refine xtn ?_
          have h9 : nthG us k = nthG vs k := by simpa using h6
          rw [w64 ((k : Int) + 1) (by omega) (by omega)] at S
          exact ⟨k + 1, S.uu, ⟨hkl2, by rw [nthG_take hkl2, nthG_take (show k < vs.length by omega), hrel, h9]⟩, S.sub _ _, by omega⟩
      · refine c_exit ?_
        iterate 2 (refine xte ?_)
        refine xbe ?_
        refine xtn ?_
        refine c_seq ?_
        refine c_region ?_
        iterate 4 (refine sq S ?_; clear S; intro a S)
        refine sr S (rsameall_c pk qk ck dk ks ls w (by omega) (S.mem.fact0 (LsF pk 0 ks)) (S.mem.fact0 (LsF qk 0 ls))) ?_; clear S; rintro _ a w rfl S
        refine sq S ?_; clear S; intro a S
        refine wl_nil ?_
        refine xtn ?_
        refine c_ret ?_
        have h9 : us.length ≤ k := by simpa using h4
        rw [List.take_of_length_le h9, List.take_of_length_le (by omega)] at hrel
        refine end1 S (fun _ => ?_)
        rw [sameA, decide_eq_true hrel]; rfl
end Go.Proofs.Ytgielmldblopeaa
