/- Layer 16: FreshBack. -/
import Derived.Test.YtmngicgdgpimlaaDoorFreshC
import Derived.Test.YtmngicgdgpimlaaDoorTreeI
import Derived.Test.YtmngicgdgpimlaaDoorW7
namespace Go.Proofs.YtmngicgdgpimlaaDoor
open Go Go.Wk
set_option synthInstance.maxSize 100000
set_option synthInstance.maxHeartbeats 400000
set_option maxRecDepth 100000

theorem marks16_c (l : List LMark) (p : Option Addr) (c : Nat) (M : Nat → Prop) (w0 : World) (hl : l.length ≤ 9223372036854775807) (hM : ∀ k, M k → k < w0.heap.size) (hx : Stable M w0 (GlF p l)) :
    Ret Tryd.prog 6 [.slice p l.length c] w0 (fun _ => False) fun v w' => ∃ p' c', v = .slice p' (shortL l).length c' ∧ (shortL l).length ≤ c' ∧ Stable M w' (GlF p' (shortL l)) := by
  refine enter Tryd.func6 rfl rfl (Wd.beginM (M := M) (fs := [GlF p l]) hM (by simpa using hx)) (fun a S => ?_)
  simp only [Tryd.ntmps6, List.length_cons, List.length_nil, Nat.reduceAdd, Nat.reduceSub, List.replicate_succ, List.replicate_zero, List.cons_append, List.nil_append] at S
  refine c_seq ?_
  refine c_region ?_
  refine sq S ?_; clear S; intro a S
  refine wl_nil ?_
  refine xtn ?_
  refine c_seq ?_
  refine c_region ?_
  refine sq S ?_; clear S; intro a S
  refine wl_nil ?_
  refine xtn ?_
  iterate 2 (refine c_seq ?_)
  refine c_region ?_
  iterate 3 (refine sq S ?_; clear S; intro a S)
  refine wl_nil ?_
  refine xtn ?_
  refine c_block ?_
  replace S := S.addNil 36 2
  refine c_fore3 S (fun (k : Nat) (po : Option Addr) (co : Nat) uu => [(3, .slice po k co), (0, uu 4), (0, uu 5), (2, .int .i64 (k : Nat)), (0, uu 9), (0, uu 10), (0, uu 11), (0, uu 12), (0, uu 13), (0, uu 14), (0, uu 15), (0, uu 16), (0, uu 17), (0, uu 18), (0, uu 19), (0, uu 20), (0, uu 21), (0, uu 22), (0, uu 23), (0, uu 24), (0, uu 25), (0, uu 26), (0, uu 27)]) (fun (k : Nat) (po : Option Addr) (co : Nat) => [Wk.row 36 2 po k co (encL ((l.take k).map shortM)), ext M]) (fun (k : Nat) (po : Option Addr) (co : Nat) => [GlF p l]) (fun (k : Nat) (po : Option Addr) (co : Nat) => k ≤ l.length ∧ k ≤ 17) (fun (k : Nat) (po : Option Addr) (co : Nat) => l.length - k) (0) (none) (0) ?_ S.uu ?_ ?_
  · exact ⟨Nat.zero_le _, Nat.zero_le _⟩
  · first | exact S | exact S.sub _ _
  · clear S; rintro k po co uu a w ⟨hk, hk17⟩ S
    refine c_seq ?_
    refine c_region ?_
    refine sq S ?_; clear S; intro a S
    refine wl_nil ?_
    refine xtn ?_
    refine c_seq ?_
    refine c_cond S (fun h3 => ?_) (fun h3 => ?_)
    · refine c_skip ?_
      refine xtn ?_
      refine c_seq ?_
      refine c_block ?_
      refine c_seq ?_
      have hkl2 : k < l.length := by simp at h3; omega
      have hK : KLt k l.length := ⟨hkl2⟩
      refine c_region ?_
      iterate 3 (refine sq S ?_; clear S; intro a S)
      refine sa S ?_; clear S; intro b5 a w S
      refine sq S ?_; clear S; intro a S
      refine sw S ?_; clear S; intro a w S
      refine wl_nil ?_
      refine xtn ?_
      iterate 2 (refine c_seq ?_)
      refine c_region ?_
      iterate 2 (refine sq S ?_; clear S; intro a S)
      refine wl_nil ?_
      refine xtn ?_
      refine c_cond S (fun h5 => ?_) (fun h5 => ?_)
      · refine c_exit ?_
        refine xte ?_
        refine xbx ?_
        iterate 2 (refine xte ?_)
        refine xbe ?_
        refine xtn ?_
        refine c_seq ?_
        refine c_region ?_
        iterate 2 (refine sq S ?_; clear S; intro a S)
        refine wl_nil ?_
        refine xtn ?_
        refine c_ret ?_
        have hk17' : k = 17 := by simp at h5; omega
        have hlen : (shortL l).length = k := by simp [shortL]; omega
        have hrow := S.row po k
        have hnew := S.rowNew po k
        rw [hk17', show (l.take 17).map shortM = shortL l from rfl, ← hk17'] at hrow
        refine end1 S (fun _ => ?_)
        refine ⟨po, co, by rw [hlen], by rw [hlen]; exact own_le hrow, ?_⟩
        exact gl_own hrow (fun _ _ _ _ => trivial) (fun ad h hm => (hnew ad h).elim (fun h => h.elim) (fun h2 => by have := hM _ hm; omega))
      · refine c_skip ?_
        refine xtn ?_
        refine c_seq ?_
        refine c_region ?_
        iterate 7 (refine sq S ?_; clear S; intro a S)
        rw [show ((nthG l k).key.take (min (nthG l k).key.length 65)).drop 0 = (shortM (nthG l k)).key from by rw [List.drop_zero, shortM]; rw [Nat.min_def]; split <;> simp_all [List.take_of_length_le]] at S
        refine sq S ?_; clear S; intro a S
        refine sw S ?_; clear S; intro a w S
        refine wl_nil ?_
        refine xtn ?_
        refine c_region ?_
        iterate 2 (refine sq S ?_; clear S; intro a S)
        refine sn S ?_; clear S; intro b25 a w S
        refine sap S (by simp [maxLen]; omega) (by omega) ?_; clear S; rintro p7 c7 a w - S
        rw [show encL ((l.take k).map shortM) ++ [str (shortM (nthG l k)).key, .int .i64 (nthG l k).ver] = encL ((l.take (k + 1)).map shortM) from by rw [nthG_take hkl2, List.map_append, encL_append]; rfl] at S
        refine sq S ?_; clear S; intro a S
        refine wl_nil ?_
        refine xbn ?_
        refine xtn ?_
        refine c_region ?_
        iterate 2 (refine sq S ?_; clear S; intro a S)
        refine wl_nil ?_
        refine xtn ?_
        rw [w64 ((k : Int) + 1) (by omega) (by omega)] at S
        exact ⟨k + 1, p7, c7, S.uu, ⟨hkl2, by simp at h5; omega⟩, S.sub _ _, by omega⟩
    · refine c_exit ?_
      iterate 2 (refine xte ?_)
      refine xbe ?_
      refine xtn ?_
      refine c_seq ?_
      refine c_region ?_
      iterate 2 (refine sq S ?_; clear S; intro a S)
      refine wl_nil ?_
      refine xtn ?_
      refine c_ret ?_
      have hke : k = l.length := by simp at h3; omega
      have hlen : (shortL l).length = k := by simp [shortL]; omega
      have hrow := S.row po k
      have hnew := S.rowNew po k
      rw [show (l.take k).map shortM = shortL l from by rw [shortL, List.take_of_length_le (by omega), List.take_of_length_le (by omega)]] at hrow
      refine end1 S (fun _ => ?_)
      refine ⟨po, co, by rw [hlen], by rw [hlen]; exact own_le hrow, ?_⟩
      exact gl_own hrow (fun _ _ _ _ => trivial) (fun ad h hm => (hnew ad h).elim (fun h => h.elim) (fun h2 => by have := hM _ hm; omega))
theorem small16_c (d : Nat) : ∀ (t : LTerm) (M : Nat → Prop) (w0 : World), d ≤ 30 → (∀ k, M k → k < w0.heap.size) → Stable M w0 (LtF t) → Ret Tryd.prog 11 [vL t, .int .i64 (d : Int)] w0 (fun _ => False) fun v w' => IsT M w' v (small14 d t.t) := by
  induction d using Nat.strongRecOn with
  | _ d ih =>
  intro t M w0 hd hM hf
  have hlen := LTerm.len_le hf
  refine enter Tryd.func11 rfl rfl (Wd.beginM (M := M) (fs := [LtF t]) hM (by simpa using hf)) (fun a S => ?_)
  simp only [Tryd.ntmps11, List.length_cons, List.length_nil, Nat.reduceAdd, Nat.reduceSub, List.replicate_succ, List.replicate_zero, List.cons_append, List.nil_append] at S
  refine c_seq ?_
  refine c_region ?_
  refine sa S ?_; clear S; intro b2 a w S
  refine sa S ?_; clear S; intro b4 a w S
  refine wl_nil ?_
  refine xtn ?_
  refine c_seq ?_
  refine c_region ?_
  iterate 7 (refine sq S ?_; clear S; intro a S)
  rw [show (t.text.take (min t.text.length 65)).drop 0 = t.text.take 65 from by rw [List.drop_zero, List.take_eq_take_iff]; omega] at S
  refine sq S ?_; clear S; intro a S
  refine sw S ?_; clear S; intro a w S
  refine wl_nil ?_
  refine xtn ?_
  refine c_seq ?_
  refine c_region ?_
  refine sq S ?_; clear S; intro a S
  refine wl_nil ?_
  refine xtn ?_
  iterate 2 (refine c_seq ?_)
  refine c_region ?_
  iterate 4 (refine sq S ?_; clear S; intro a S)
  refine wl_nil ?_
  refine xtn ?_
  refine c_block ?_
  replace S := S.addNil 28 5
  refine c_fore4 S (fun (k : Nat) (os : List LTerm) (p' : Option Addr) (c' : Nat) uu => [(5, .slice p' os.length c'), (0, uu 6), (0, uu 7), (11, .int .i64 (k : Nat)), (0, uu 20), (0, uu 21), (0, uu 22), (0, uu 23), (0, uu 24), (0, uu 25), (0, uu 26), (0, uu 27), (0, uu 28), (0, uu 29), (0, uu 30), (0, uu 31), (0, uu 32), (0, uu 33), (0, uu 34), (0, uu 35), (0, uu 36), (0, uu 37)]) (fun (k : Nat) (os : List LTerm) (p' : Option Addr) (c' : Nat) => [Wk.row 28 5 p' os.length c' (encL os), Wk.box b4 28 zeroL.cells, Wk.box b2 28 [.int .i64 t.kind, .int .i64 t.user, .int .i64 t.num, str (t.text.take 65), .slice t.p t.kids.length t.cap], ext M]) (fun (k : Nat) (os : List LTerm) (p' : Option Addr) (c' : Nat) => [AllI os, LtF t]) (fun (k : Nat) (os : List LTerm) (p' : Option Addr) (c' : Nat) => k ≤ t.kids.length ∧ os.map LTerm.t = small14K d ((t.kids.take k).map LTerm.t)) (fun (k : Nat) (os : List LTerm) (p' : Option Addr) (c' : Nat) => t.kids.length - k) (0) ([]) (none) (0) ?_ S.uu ?_ ?_
  · refine ⟨Nat.zero_le _, ?_⟩
    cases d <;> rfl
  · exact S.add (Φ := AllI (α := LTerm) []) AllI.nil
  · clear S; rintro k os p' c' uu a w ⟨hk, hrel⟩ S
    refine c_seq ?_
    refine c_region ?_
    refine sq S ?_; clear S; intro a S
    refine wl_nil ?_
    refine xtn ?_
    refine c_seq ?_
    refine c_cond S (fun h4 => ?_) (fun h4 => ?_)
    · refine c_skip ?_
      refine xtn ?_
      refine c_seq ?_
      refine c_block ?_
      refine c_seq ?_
      have hkl : k < t.kids.length := by simpa using h4
      have hK : KLt k t.kids.length := ⟨hkl⟩
      have hol : os.length ≤ 3 := by have := congrArg List.length hrel; rw [List.length_map] at this; have h2 := small14K_len d ((t.kids.take k).map LTerm.t); omega
      refine c_region ?_
      iterate 3 (refine sq S ?_; clear S; intro a S)
      refine sa S ?_; clear S; intro b7 a w S
      refine sq S ?_; clear S; intro a S
      refine sw S ?_; clear S; intro a w S
      refine wl_nil ?_
      refine xtn ?_
      refine c_seq ?_
      refine c_region ?_
      iterate 3 (refine sq S ?_; clear S; intro a S)
      iterate 2 (refine gQ S ?_; clear S; intro a S)
      refine sq S ?_; clear S; intro a S
      refine wl_nil ?_
      refine xtn ?_
      refine c_cond S (fun h6 => ?_) (fun h6 => ?_)
      · have h6' : k < 3 ∧ 0 < d := by simp at h6; omega
        obtain ⟨d', rfl⟩ : ∃ d', d = d' + 1 := ⟨d - 1, by omega⟩
        refine c_region ?_
        iterate 4 (refine sq S ?_; clear S; intro a S)
        rw [show IntKind.i64.wrap ((((d' + 1 : Nat) : Int)) - 1) = (d' : Int) from by rw [w64 _ (by omega) (by omega)]; omega] at S
        refine sr S (ih d' (by omega) (nthL t.kids k) _ w (by omega) (foots_lt S) (S.t (nthL t.kids k))) ?_; clear S; rintro _ a w ⟨r, rfl, hr, hrf⟩ S
        replace S := S.add hrf
        refine sn S ?_; clear S; intro b35 a w S
        refine sap S (by simp [maxLen]; omega) (by omega) ?_; clear S; rintro p7 c7 a w - S
        rw [show encL os ++ r.cells = encL (os ++ [r]) from by rw [encL_append os [r], encT_cells], show os.length + 1 = (os ++ [r]).length from by simp] at S
        refine sq S ?_; clear S; intro a S
        refine wl_nil ?_
        refine xbn ?_
        refine xtn ?_
        refine c_region ?_
        iterate 2 (refine sq S ?_; clear S; intro a S)
        refine wl_nil ?_
        refine xtn ?_
        rw [w64 ((k : Int) + 1) (by omega) (by omega)] at S
        have h1 : Stable _ _ (AllI os) := S.wd.facts (AllI os) (by simp)
        have h2 := S.t r
        replace S := S.add (AllI.snoc h1 h2)
        exact ⟨k + 1, os ++ [r], p7, c7, S.uu, ⟨hkl, by rw [small14K_more hkl h6'.1, List.map_append, hrel, List.map_singleton, hr]⟩, S.sub _ _, by omega⟩
      · refine c_skip ?_
        refine xbn ?_
        refine xtn ?_
        refine c_region ?_
        iterate 2 (refine sq S ?_; clear S; intro a S)
        refine wl_nil ?_
        refine xtn ?_
        have h6' : ¬ (k < 3 ∧ 0 < d) := fun h => by simp [h] at h6; omega
        rw [w64 ((k : Int) + 1) (by omega) (by omega)] at S
        exact ⟨k + 1, os, p', c', S.uu, ⟨hkl, by rw [small14K_same hkl h6']; exact hrel⟩, S.sub _ _, by omega⟩
    · refine c_exit ?_
      iterate 2 (refine xte ?_)
      refine xbe ?_
      refine xtn ?_
      refine c_seq ?_
      refine c_region ?_
      iterate 2 (refine sq S ?_; clear S; intro a S)
      refine sw S ?_; clear S; intro a w S
      refine wl_nil ?_
      refine xtn ?_
      refine c_seq ?_
      refine c_region ?_
      refine sq S ?_; clear S; intro a S
      refine sw S ?_; clear S; intro a w S
      refine wl_nil ?_
      refine xtn ?_
      refine c_ret ?_
      have hrow := S.row p' os.length
      have hnew := S.rowNew p' os.length
      have hall := S.laterFact (Φ := AllI os) (by simp)
      rw [List.take_of_length_le (by simp at h4; omega)] at hrel
      refine end1 S (fun _ => ?_)
      refine ⟨.mk t.kind t.user t.num (t.text.take 65) p' c' os, rfl, ?_, fun w' hw' => ?_⟩
      · rw [small14_eq, ← hrel]; exact LTerm.t_eq _
      · have hls := (gl_own hrow hall (fun ad h hm => (hnew ad h).elim id (fun h2 => by have := hM _ hm; omega))).imp fun _ h => gl_ls h
        exact ⟨own_le hrow, own_cap14 hrow, hls w' hw'⟩
theorem short_len16 (l : List LMark) : (shortL l).length ≤ 17 := by simp [shortL]; omega
theorem freshback_c (u leaf n : Int) (l : List LMark) (p : Option Addr) (c : Nat) (w0 : World) (hl : l.length ≤ 9223372036854775807) (ht : Stable (fun _ => False) w0 LibF) (hx : Stable (fun _ => False) w0 (GlF p l)) :
    Ret Tryd.prog 3 [.agg ⟨[.int .i64 u, .int .i64 leaf, .int .i64 n]⟩, .slice p l.length c] w0 (fun _ => False) fun v _ => v = .bool true := by
  refine enter Tryd.func3 rfl rfl (Wd.begin (fs := [TabF, LibF, GlF p l]) (by simp; exact ⟨ht.imp fun _ h => h.1, ht, hx⟩)) (fun a S => ?_)
  simp only [Tryd.ntmps3, List.length_cons, List.length_nil, Nat.reduceAdd, Nat.reduceSub, List.replicate_succ, List.replicate_zero, List.cons_append, List.nil_append] at S
  refine c_seq ?_
  refine c_region ?_
  refine sa S ?_; clear S; intro b2 a w S
  refine sq S ?_; clear S; intro a S
  refine wl_nil ?_
  refine xtn ?_
  iterate 2 (refine c_seq ?_)
  refine c_region ?_
  refine sr S (wakes16_c _ (S.mem.fact0 LibF)) ?_; clear S; rintro _ a w rfl S
  refine sq S ?_; clear S; intro a S
  rw [show (!true) = false from rfl] at S
  refine wl_nil ?_
  refine xtn ?_
  refine c_condF S ?_
  refine c_skip ?_
  refine xtn ?_
  refine c_seq ?_
  refine c_region ?_
  refine sq S ?_; clear S; intro a S
  refine sr S (marks16_c l p c _ w hl (foots_lt S) (S.mem.fact (GlF p l))) ?_; clear S; rintro _ a w ⟨p1, c1, rfl, hc1, hf1⟩ S
  replace S := S.add hf1
  have hxl2 := short_len16 l
  refine sq S ?_; clear S; intro a S
  refine wl_nil ?_
  refine xtn ?_
  refine c_seq ?_
  refine c_region ?_
  iterate 7 (refine sq S ?_; clear S; intro a S)
  refine sr S (publish_c u leaf n (shortL l) p1 c1 _ w hc1 (by omega) (foots_lt S) (S.mem.fact TabF) (S.mem.fact (GlF p1 (shortL l)))) ?_; clear S; rintro _ a w ⟨t, x, e, rfl, htf, hxf, he, hy, -⟩ S
  replace S := (S.add htf).add hxf
  iterate 4 (refine sq S ?_; clear S; intro a S)
  refine sa S ?_; clear S; intro b5 a w S
  refine sa S ?_; clear S; intro b6 a w S
  iterate 2 (refine sw S ?_; clear S; intro a w S)
  refine sq S ?_; clear S; intro a S
  refine wl_nil ?_
  refine xtn ?_
  iterate 2 (refine c_seq ?_)
  refine c_region ?_
  iterate 2 (refine sq S ?_; clear S; intro a S)
  refine wl_nil ?_
  refine xtn ?_
  refine c_cond S (fun h5 => ?_) (fun h5 => ?_)
  · refine c_seq ?_
    refine c_region ?_
    iterate 3 (refine sq S ?_; clear S; intro a S)
    iterate 2 (refine gQ S ?_; clear S; intro a S)
    iterate 2 (refine sq S ?_; clear S; intro a S)
    refine wl_nil ?_
    refine xtn ?_
    refine c_ret ?_
    refine xtr ?_
    have hne : e ≠ 0 := by simpa using h5
    refine end1 S (fun _ => ?_)
    have : e = 2 ∨ e = 240 := by
      rw [he] at hne ⊢
      unfold pubF at *
      split
      · exact .inl rfl
      · split
        · exact .inr rfl
        · simp_all
    rcases this with h | h <;> simp [h]
  · refine c_skip ?_
    refine xtn ?_
    refine c_seq ?_
    have he0 : e = 0 := by simpa using h5
    obtain ⟨ho, hu, hlf, hn, ht1, hx1⟩ := hy he0
    have hok : FreshOk u n (shortL l) t.t x.t := ⟨hn, ho, by rw [ht1]; exact good_rooted hu hlf hn ho, ⟨leaf, ht1⟩, hx1, by rw [hx1]; exact good_write (okM_V ho).1 (okM_V ho).2⟩
    refine c_region ?_
    iterate 4 (refine sq S ?_; clear S; intro a S)
    refine sr S (fread_c u t x _ w (foots_lt S) (S.mem.fact LibF) (S.t t) (S.t x)) ?_; clear S; rintro _ a w ⟨n1, p2, c2, m1, e1, rfl, hm1, -, h1a, h1b⟩ S
    have he1 : e1 = 0 := Classical.byContradiction fun h => (h1b h).2.2.2 _ _ hok
    have hok1 := h1a he1
    have hn1 := (hok1.uniq hok).1
    have hm1' := (hok1.uniq hok).2
    subst hn1 hm1' he1
    replace S := S.add hm1
    iterate 7 (refine sq S ?_; clear S; intro a S)
    refine wl_nil ?_
    refine xtn ?_
    iterate 2 (refine c_seq ?_)
    refine c_region ?_
    iterate 2 (refine sq S ?_; clear S; intro a S)
    rw [show (!decide ((0 : Int) = 0)) = false from rfl] at S
    refine sq S ?_; clear S; intro a S
    refine gT' S ?_
    refine sq S ?_; clear S; intro a S
    refine gT' S ?_
    refine sq S ?_; clear S; intro a S
    refine gT' S ?_
    refine sq S ?_; clear S; intro a S
    refine gT' S ?_
    refine sq S ?_; clear S; intro a S
    rw [show (!decide (n1 = n1)) = false from by simp] at S
    iterate 2 (refine sq S ?_; clear S; intro a S)
    refine gT' S ?_
    refine sq S ?_; clear S; intro a S
    refine gT' S ?_
    refine sq S ?_; clear S; intro a S
    refine gT' S ?_
    refine sr S (equalm_c (shortL l) (shortL l) p1 p2 c1 c2 _ (by omega) (S.mem.fact0 (GlF p1 (shortL l))) (S.mem.fact0 (GlF p2 (shortL l)))) ?_; clear S; rintro _ a w rfl S
    rw [show decide (shortL l = shortL l) = true from decide_eq_true rfl] at S
    refine gT' S ?_
    refine sq S ?_; clear S; intro a S
    rw [show (!true) = false from rfl] at S
    refine sq S ?_; clear S; intro a S
    refine wl_nil ?_
    refine xtn ?_
    refine c_condF S ?_
    refine c_skip ?_
    refine xtn ?_
    iterate 2 (refine c_seq ?_)
    refine c_region ?_
    refine sq S ?_; clear S; intro a S
    refine wl_nil ?_
    refine xtn ?_
    refine c_block ?_
    refine c_fore1 S (fun (k : Nat) uu => [(4, uu 4), (5, .int .i64 (k : Nat)), (0, uu 11), (0, uu 12), (0, uu 13), (47, uu 61), (0, uu 62), (0, uu 63), (0, uu 64), (0, uu 65), (0, uu 66), (0, uu 67), (0, uu 68), (0, uu 69), (0, uu 70), (0, uu 71), (0, uu 72), (0, uu 73), (0, uu 74), (0, uu 75), (0, uu 76), (0, uu 77), (0, uu 78), (0, uu 79)]) (fun (k : Nat) => [Wk.box b6 28 x.cells, Wk.box b5 28 t.cells, Wk.box b2 22 [.int .i64 u, .int .i64 leaf, .int .i64 n1]]) (fun (k : Nat) => [LtF x, LtF t, TabF, LibF]) (fun (k : Nat) => 1 ≤ k ∧ k ≤ 7) (fun (k : Nat) => 7 - k) (1) ?_ S.uu ?_ ?_
    · exact ⟨by omega, by omega⟩
    · first | exact S | exact S.sub _ _
    · clear S; rintro k uu a w ⟨hk1, hk7⟩ S
      iterate 2 (refine c_seq ?_)
      refine c_region ?_
      iterate 2 (refine sq S ?_; clear S; intro a S)
      refine wl_nil ?_
      refine xtn ?_
      refine c_cond S (fun h11 => ?_) (fun h11 => ?_)
      · refine c_skip ?_
        refine xtn ?_
        refine c_seq ?_
        refine c_block ?_
        refine c_seq ?_
        have hk6 : k ≤ 6 := by simp at h11; omega
        refine c_region ?_
        iterate 3 (refine sq S ?_; clear S; intro a S)
        refine sr S (fread_c (k : Int) t x _ w (foots_lt S) (S.mem.fact LibF) (S.t t) (S.t x)) ?_; clear S; rintro _ a w ⟨n3, p3, c3, m3, e3, rfl, hm3, -, h3a, h3b⟩ S
        have hiff : decide (e3 = 0) = decide ((k : Int) = u) := by
          rw [Bool.eq_iff_iff, decide_eq_true_iff, decide_eq_true_iff]
          constructor
          · intro h; exact (h3a h).user hok
          · intro h
            refine Classical.byContradiction fun h0 => (h3b h0).2.2.2 n1 (shortL l) ?_
            rw [h]; exact hok
        iterate 7 (refine sq S ?_; clear S; intro a S)
        refine wl_nil ?_
        refine xtn ?_
        refine c_seq ?_
        refine c_region ?_
        iterate 7 (refine sq S ?_; clear S; intro a S)
        refine wl_nil ?_
        refine xtn ?_
        refine c_cond S (fun h14 => ?_) (fun h14 => ?_)
        · refine c_seq ?_
          refine c_region ?_
          refine sq S ?_; clear S; intro a S
          refine wl_nil ?_
          refine xtn ?_
          refine c_ret ?_
          refine xbr ?_
          iterate 2 (refine xtr ?_)
          refine xbr ?_
          refine xtr ?_
          rw [hiff] at h14
          simp at h14
        · refine c_skip ?_
          refine xbn ?_
          refine xtn ?_
          refine c_region ?_
          iterate 3 (refine sq S ?_; clear S; intro a S)
          refine wl_nil ?_
          refine xtn ?_
          rw [w64 ((k : Int) + 1) (by omega) (by omega)] at S
          exact ⟨k + 1, S.uu, ⟨by omega, by omega⟩, S.sub _ _, by omega⟩
      · refine c_exit ?_
        iterate 2 (refine xte ?_)
        refine xbe ?_
        refine xtn ?_
        refine c_seq ?_
        refine c_region ?_
        refine sq S ?_; clear S; intro a S
        refine wl_nil ?_
        refine xtn ?_
        refine c_ret ?_
        refine end1 S (fun _ => rfl)
end Go.Proofs.YtmngicgdgpimlaaDoor
