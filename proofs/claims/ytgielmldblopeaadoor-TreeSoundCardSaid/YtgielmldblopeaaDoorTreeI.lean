/- Layer 14: small. -/
import Derived.Test.YtgielmldblopeaaDoorTreeH
namespace Go.Proofs.YtgielmldblopeaaDoor
open Go Go.Wk
set_option synthInstance.maxSize 100000
set_option synthInstance.maxHeartbeats 400000
set_option maxRecDepth 100000

theorem own_cap14 {w : World} {e : TypeId} {sz : Nat} {p : Option Addr} {n c : Nat} {xs : List Value} (h : w.ownsRow 0 e sz (.slice p n c) n xs) : c ≤ maxLen := by
  rcases h.2 with ⟨hv, h0⟩ | ⟨g, cap, cur, hv, hb, hg, hnc, hcm, hcs, ht⟩
  · cases hv; exact Nat.zero_le _
  · cases hv; exact hcm
theorem take_map14 (ks : List LTerm) (k : Nat) (h : k < ks.length) : (ks.take (k + 1)).map LTerm.t = (ks.take k).map LTerm.t ++ [(nthL ks k).t] := by
  rw [List.take_add_one, nth_get h, List.map_append]; rfl
def small14 : Nat → Term → Term
  | 0, .mk k u n s _ => .mk k u n (s.take 65) []
  | d + 1, .mk k u n s ks => .mk k u n (s.take 65) ((ks.take 3).map (small14 d))
def small14K (d : Nat) (ks : List Term) : List Term := match d with | 0 => [] | d + 1 => (ks.take 3).map (small14 d)
theorem small14_eq (d : Nat) (t : LTerm) : small14 d t.t = .mk t.kind t.user t.num (t.text.take 65) (small14K d (t.kids.map LTerm.t)) := by
  rw [t.t_eq]; cases d <;> rfl
theorem small14K_len (d : Nat) (ks : List Term) : (small14K d ks).length ≤ 3 := by
  cases d
  · simp [small14K]
  · simp only [small14K, List.length_map, List.length_take]; omega
theorem small14K_more {d : Nat} {ks : List LTerm} {k : Nat} (h : k < ks.length) (hk : k < 3) : small14K (d + 1) ((ks.take (k + 1)).map LTerm.t) = small14K (d + 1) ((ks.take k).map LTerm.t) ++ [small14 d (nthL ks k).t] := by
  simp only [small14K]
  have e1 : ((ks.take (k + 1)).map LTerm.t).take 3 = (ks.take (k + 1)).map LTerm.t := List.take_of_length_le (by simp; omega)
  have e2 : ((ks.take k).map LTerm.t).take 3 = (ks.take k).map LTerm.t := List.take_of_length_le (by simp; omega)
  rw [e1, e2, take_map14 ks k h, List.map_append]; rfl
theorem small14K_same {d : Nat} {ks : List LTerm} {k : Nat} (h : k < ks.length) (hk : ¬ (k < 3 ∧ 0 < d)) : small14K d ((ks.take (k + 1)).map LTerm.t) = small14K d ((ks.take k).map LTerm.t) := by
  cases d with
  | zero => rfl
  | succ d =>
    simp only [small14K]
    rw [take_map14 ks k h, List.take_append_of_le_length (by simp; omega)]
theorem small14_c (d : Nat) : ∀ (t : LTerm) (M : Nat → Prop) (w0 : World), d ≤ 30 → (∀ k, M k → k < w0.heap.size) → Stable M w0 (LtF t) → Ret Tryd.prog 40 [vL t, .int .i64 (d : Int)] w0 (fun _ => False) fun v w' => IsT M w' v (small14 d t.t) := by
  induction d using Nat.strongRecOn with
  | _ d ih =>
  intro t M w0 hd hM hf
  have hlen := LTerm.len_le hf
  refine enter Tryd.func40 rfl rfl (Wd.beginM (M := M) (fs := [LtF t]) hM (by simpa using hf)) (fun a S => ?_)
  simp only [Tryd.ntmps40, List.length_cons, List.length_nil, Nat.reduceAdd, Nat.reduceSub, List.replicate_succ, List.replicate_zero, List.cons_append, List.nil_append] at S
  refine c_seq ?_
  refine c_region ?_
  refine sa S ?_; clear S; intro b2 a w S
  refine sa S ?_; clear S; intro b4 a w S
  refine wl_nil ?_
  refine xtn ?_
  refine c_seq ?_
  refine c_region ?_
  iterate 7 (refine sq S ?_; clear S; intro a S)
  rw [show (t.text.take (min t.text.length 65)).drop 0 = t.text.take 65 from by rw [List.drop_zero, List.take_eq_take_iff]; omega] at S
  refine sq S ?_; clear S; intro a S
  refine sw S ?_; clear S; intro a w S
  refine wl_nil ?_
  refine xtn ?_
  refine c_seq ?_
  refine c_region ?_
  refine sq S ?_; clear S; intro a S
  refine wl_nil ?_
  refine xtn ?_
  iterate 2 (refine c_seq ?_)
  refine c_region ?_
  iterate 4 (refine sq S ?_; clear S; intro a S)
  refine wl_nil ?_
  refine xtn ?_
  refine c_block ?_
  replace S := S.addNil 24 5
  refine c_fore4 S (fun (k : Nat) (os : List LTerm) (p' : Option Addr) (c' : Nat) uu => [(5, .slice p' os.length c'), (0, uu 6), (0, uu 7), (11, .int .i64 (k : Nat)), (0, uu 20), (0, uu 21), (0, uu 22), (0, uu 23), (0, uu 24), (0, uu 25), (0, uu 26), (0, uu 27), (0, uu 28), (0, uu 29), (0, uu 30), (0, uu 31), (0, uu 32), (0, uu 33), (0, uu 34), (0, uu 35), (0, uu 36), (0, uu 37)]) (fun (k : Nat) (os : List LTerm) (p' : Option Addr) (c' : Nat) => [Wk.row 24 5 p' os.length c' (encL os), Wk.box b4 24 zeroL.cells, Wk.box b2 24 [.int .i64 t.kind, .int .i64 t.user, .int .i64 t.num, str (t.text.take 65), .slice t.p t.kids.length t.cap], ext M]) (fun (k : Nat) (os : List LTerm) (p' : Option Addr) (c' : Nat) => [AllI os, LtF t]) (fun (k : Nat) (os : List LTerm) (p' : Option Addr) (c' : Nat) => k ≤ t.kids.length ∧ os.map LTerm.t = small14K d ((t.kids.take k).map LTerm.t)) (fun (k : Nat) (os : List LTerm) (p' : Option Addr) (c' : Nat) => t.kids.length - k) (0) ([]) (none) (0) ?_ S.uu ?_ ?_
  · refine ⟨Nat.zero_le _, ?_⟩
    cases d <;> rfl
  · exact S.add (Φ := AllI (α := LTerm) []) AllI.nil
  · clear S; rintro k os p' c' uu a w ⟨hk, hrel⟩ S
    refine c_seq ?_
    refine c_region ?_
    refine sq S ?_; clear S; intro a S
    refine wl_nil ?_
    refine xtn ?_
    refine c_seq ?_
    refine c_cond S (fun h4 => ?_) (fun h4 => ?_)
    · refine c_skip ?_
      refine xtn ?_
      refine c_seq ?_
      refine c_block ?_
      refine c_seq ?_
      have hkl : k < t.kids.length := by simpa using h4
      have hK : KLt k t.kids.length := ⟨hkl⟩
      have hol : os.length ≤ 3 := by have := congrArg List.length hrel; rw [List.length_map] at this; have h2 := small14K_len d ((t.kids.take k).map LTerm.t); omega
      refine c_region ?_
      iterate 3 (refine sq S ?_; clear S; intro a S)
      refine sa S ?_; clear S; intro b7 a w S
      refine sq S ?_; clear S; intro a S
      refine sw S ?_; clear S; intro a w S
      refine wl_nil ?_
      refine xtn ?_
      refine c_seq ?_
      refine c_region ?_
      iterate 3 (refine sq S ?_; clear S; intro a S)
      iterate 2 (refine gQ S ?_; clear S; intro a S)
      refine sq S ?_; clear S; intro a S
      refine wl_nil ?_
      refine xtn ?_
      refine c_cond S (fun h6 => ?_) (fun h6 => ?_)
      · have h6' : k < 3 ∧ 0 < d := by simp at h6; omega
        obtain ⟨d', rfl⟩ : ∃ d', d = d' + 1 := ⟨d - 1, by omega⟩
        refine c_region ?_
        iterate 4 (refine sq S ?_; clear S; intro a S)
        rw [show IntKind.i64.wrap ((((d' + 1 : Nat) : Int)) - 1) = (d' : Int) from by rw [w64 _ (by omega) (by omega)]; omega] at S
        refine sr S (ih d' (by omega) (nthL t.kids k) _ w (by omega) (foots_lt S) (S.t (nthL t.kids k))) ?_; clear S; rintro _ a w ⟨r, rfl, hr, hrf⟩ S
        replace S := S.add hrf
        refine sn S ?_; clear S; intro b35 a w S
        refine sap S (by simp [maxLen]; omega) (by omega) ?_; clear S; rintro p7 c7 a w - S
        rw [show encL os ++ r.cells = encL (os ++ [r]) from by rw [encL_append os [r], encT_cells], show os.length + 1 = (os ++ [r]).length from by simp] at S
        refine sq S ?_; clear S; intro a S
        refine wl_nil ?_
        refine xbn ?_
        refine xtn ?_
        refine c_region ?_
        iterate 2 (refine sq S ?_; clear S; intro a S)
        refine wl_nil ?_
        refine xtn ?_
        rw [w64 ((k : Int) + 1) (by omega) (by omega)] at S
        have h1 : Stable _ _ (AllI os) := S.wd.facts (AllI os) (by simp)
        have h2 := S.t r
        replace S := S.add (AllI.snoc h1 h2)
        exact ⟨k + 1, os ++ [r], p7, c7, S.uu, ⟨hkl, by rw [small14K_more hkl h6'.1, List.map_append, hrel, List.map_singleton, hr]⟩, S.sub _ _, by omega⟩
      · refine c_skip ?_
        refine xbn ?_
        refine xtn ?_
        refine c_region ?_
        iterate 2 (refine sq S ?_; clear S; intro a S)
        refine wl_nil ?_
        refine xtn ?_
        have h6' : ¬ (k < 3 ∧ 0 < d) := fun h => by simp [h] at h6; omega
        rw [w64 ((k : Int) + 1) (by omega) (by omega)] at S
        exact ⟨k + 1, os, p', c', S.uu, ⟨hkl, by rw [small14K_same hkl h6']; exact hrel⟩, S.sub _ _, by omega⟩
    · refine c_exit ?_
      iterate 2 (refine xte ?_)
      refine xbe ?_
      refine xtn ?_
      refine c_seq ?_
      refine c_region ?_
      iterate 2 (refine sq S ?_; clear S; intro a S)
      refine sw S ?_; clear S; intro a w S
      refine wl_nil ?_
      refine xtn ?_
      refine c_seq ?_
      refine c_region ?_
      refine sq S ?_; clear S; intro a S
      refine sw S ?_; clear S; intro a w S
      refine wl_nil ?_
      refine xtn ?_
      refine c_ret ?_
      have hrow := S.row p' os.length
      have hnew := S.rowNew p' os.length
      have hall := S.laterFact (Φ := AllI os) (by simp)
      rw [List.take_of_length_le (by simp at h4; omega)] at hrel
      refine end1 S (fun _ => ?_)
      refine ⟨.mk t.kind t.user t.num (t.text.take 65) p' c' os, rfl, ?_, fun w' hw' => ?_⟩
      · rw [small14_eq, ← hrel]; exact LTerm.t_eq _
      · have hls := (gl_own hrow hall (fun ad h hm => (hnew ad h).elim id (fun h2 => by have := hM _ hm; omega))).imp fun _ h => gl_ls h
        exact ⟨own_le hrow, own_cap14 hrow, hls w' hw'⟩
end Go.Proofs.YtgielmldblopeaaDoor
