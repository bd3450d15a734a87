/- Layer 14: TreeSound. -/
import Derived.Test.YtgielmldblopeaaDoorLawTreeB
namespace Go.Proofs.YtgielmldblopeaaDoor
open Go Go.Wk
set_option synthInstance.maxSize 100000
set_option synthInstance.maxHeartbeats 400000
set_option maxRecDepth 100000

theorem indexM_c (x : LMark) (xs : List LMark) (p : Option Addr) (n c : Nat) (w0 : World) (hn : xs.length = n) (hl : n ≤ 9223372036854775807) (hx : Stable (fun _ => False) w0 (GlF p xs)) :
    Ret Tryd.prog 84 [.slice p n c, vMark x] w0 (fun _ => False) fun v _ => v = .int .i64 (idxG (fun y => decide (x = y)) xs 0) := by
  subst hn
  refine enter Tryd.func84 rfl rfl (Wd.begin (fs := [GlF p xs]) (by simpa using hx)) (fun a S => ?_)
  simp only [Tryd.ntmps84, List.length_cons, List.length_nil, Nat.reduceAdd, Nat.reduceSub, List.replicate_succ, List.replicate_zero, List.cons_append, List.nil_append] at S
  refine c_seq ?_
  refine c_region ?_
  refine sa S ?_; clear S; intro b3 a w S
  refine sq S ?_; clear S; intro a S
  refine wl_nil ?_
  refine xtn ?_
  iterate 2 (refine c_seq ?_)
  refine c_region ?_
  iterate 3 (refine sq S ?_; clear S; intro a S)
  refine wl_nil ?_
  refine xtn ?_
  refine c_block ?_
  refine c_fore1 S (fun (k : Nat) uu => [(4, uu 4), (0, uu 5), (2, .int .i64 (k : Nat)), (0, uu 9), (0, uu 10), (0, uu 11), (0, uu 12), (0, uu 13), (0, uu 14), (0, uu 15), (0, uu 16), (0, uu 17), (0, uu 18)]) (fun (k : Nat) => [Wk.box b3 57 [str x.key, .int .i64 x.ver]]) (fun (k : Nat) => [GlF p xs]) (fun (k : Nat) => k ≤ xs.length ∧ idxG (fun y => decide (x = y)) (xs.drop k) k = idxG (fun y => decide (x = y)) xs 0) (fun (k : Nat) => xs.length - k) (0) ?_ S.uu ?_ ?_
  · exact ⟨Nat.zero_le _, rfl⟩
  · first | exact S | exact S.sub _ _
  · clear S; rintro k uu a w ⟨hk, hrel⟩ S
    refine c_seq ?_
    refine c_region ?_
    refine sq S ?_; clear S; intro a S
    refine wl_nil ?_
    refine xtn ?_
    refine c_seq ?_
    refine c_cond S (fun h2 => ?_) (fun h2 => ?_)
    · refine c_skip ?_
      refine xtn ?_
      refine c_seq ?_
      refine c_block ?_
      refine c_seq ?_
      refine c_region ?_
      iterate 2 (refine sq S ?_; clear S; intro a S)
      refine wl_nil ?_
      refine xtn ?_
      refine c_seq ?_
      have hkl : k < xs.length := by simp at h2; omega
      have hK : KLt k xs.length := ⟨hkl⟩
      rw [nthG_drop hkl, idxG] at hrel
      refine c_drawD [(0, true), (1, true), (2, true), (3, true), (4, true), (5, true)] [] S ?_; clear S; intro w S
      iterate 6 (refine dq S ?_; clear S; intro a S)
      refine dn ?_
      refine xtn ?_
      refine c_cond S (fun h4 => ?_) (fun h4 => ?_)
      · refine c_seq ?_
        refine c_region ?_
        iterate 2 (refine sq S ?_; clear S; intro a S)
        refine wl_nil ?_
        refine xtn ?_
        refine c_ret ?_
        refine xbr ?_
        iterate 2 (refine xtr ?_)
        refine xbr ?_
        refine xtr ?_
        rw [if_pos h4] at hrel
        refine end1 S (fun _ => ?_)
        rw [hrel]
      · refine c_skip ?_
        refine xbn ?_
        refine xtn ?_
        refine c_region ?_
        iterate 2 (refine sq S ?_; clear S; intro a S)
        refine wl_nil ?_
        refine xtn ?_
        rw [if_neg (by simpa using h4)] at hrel
        rw [w64 ((k : Int) + 1) (by omega) (by omega)] at S
        exact ⟨k + 1, S.uu, ⟨hkl, by rw [← hrel]; rfl⟩, S.sub _ _, by omega⟩
    · refine c_exit ?_
      iterate 2 (refine xte ?_)
      refine xbe ?_
      refine xtn ?_
      refine c_seq ?_
      refine c_region ?_
      refine sq S ?_; clear S; intro a S
      refine wl_nil ?_
      refine xtn ?_
      refine c_ret ?_
      rw [List.drop_of_length_le (by simp at h2; omega)] at hrel
      refine end1 S (fun _ => ?_)
      rw [← hrel]; rfl
theorem containsM_c (x : LMark) (xs : List LMark) (p : Option Addr) (n c : Nat) (w0 : World) (hn : xs.length = n) (hl : n ≤ 9223372036854775807) (hx : Stable (fun _ => False) w0 (GlF p xs)) :
    Ret Tryd.prog 41 [.slice p n c, vMark x] w0 (fun _ => False) fun v _ => v = .bool (decide (x ∈ xs)) := by
  refine enter Tryd.func41 rfl rfl (Wd.begin (fs := [GlF p xs]) (by simpa using hx)) (fun a S => ?_)
  simp only [Tryd.ntmps41, List.length_cons, List.length_nil, Nat.reduceAdd, Nat.reduceSub, List.replicate_succ, List.replicate_zero, List.cons_append, List.nil_append] at S
  refine c_seq ?_
  refine c_region ?_
  refine sa S ?_; clear S; intro b3 a w S
  refine sq S ?_; clear S; intro a S
  refine wl_nil ?_
  refine xtn ?_
  refine c_seq ?_
  refine c_region ?_
  iterate 2 (refine sq S ?_; clear S; intro a S)
  refine sr S (indexM_c x xs p n c _ hn hl (S.gl0 p)) ?_; clear S; rintro _ a w rfl S
  iterate 2 (refine sq S ?_; clear S; intro a S)
  refine wl_nil ?_
  refine xtn ?_
  refine c_ret ?_
  refine end1 S (fun _ => ?_)
  rw [idxG_any _ xs 0 (by omega)]
  congr 1
  rw [Bool.eq_iff_iff]; simp
instance {a : List UInt8} {v : Int} {p : Option Addr} {n c : Nat} {xs : List LMark} {bs fs} [hg : HasG fs p LMark layMark xs] [hn : LenN xs n] [hk : LeC n 9223372036854775807] : CallV Tryd.prog 41 [.slice p n c, .agg ⟨[str a, .int .i64 v]⟩] bs fs (.bool (decide ((⟨a, v⟩ : LMark) ∈ xs))) := ⟨fun w m =>
  containsM_c ⟨a, v⟩ xs p n c w hn.eq hk.le ((hg.of _ _ m.facts).less fun _ _ h => h.elim)⟩
theorem key_inj {l : List LMark} (h : okM l = true) {i k : Nat} (hi : i < l.length) (hk : k < l.length) (e : (nthG l i).key = (nthG l k).key) : i = k := by
  obtain ⟨-, -, -, hp⟩ := okV l h
  rw [List.pairwise_iff_getElem] at hp
  have hget : ∀ j (hj : j < (l.map LMark.key).length), (l.map LMark.key)[j] = (nthG l j).key := fun j hj => by
    have hj' : j < l.length := by simpa using hj
    have := nthG_get hj'
    rw [List.getElem?_eq_getElem hj'] at this
    rw [List.getElem_map, Option.some.inj this]
  rcases Nat.lt_trichotomy i k with h1 | h1 | h1
  · have := hp i k (by simpa using hi) (by simpa using hk) h1
    rw [hget, hget, e, bl_irrefl] at this; cases this
  · exact h1
  · have := hp k i (by simpa using hk) (by simpa using hi) h1
    rw [hget, hget, e, bl_irrefl] at this; cases this
theorem shortM_eq (m : LMark) : (m.key.take (min m.key.length 65)).drop 0 = (shortM m).key := by
  rw [List.drop_zero, shortM]; rw [Nat.min_def]; split <;> simp_all [List.take_of_length_le]
theorem treesound_c (x : List LMark) (m : LMark) (ts : List LTerm) (px pt : Option Addr) (cx ct : Nat) (w0 : World) (hxl : x.length ≤ 9223372036854775807) (htl : ts.length ≤ 9223372036854775807) (ht : Stable (fun _ => False) w0 LibF) (hx : Stable (fun _ => False) w0 (GlF px x)) (hts : Stable (fun _ => False) w0 (LsF pt 0 ts)) :
    Ret Tryd.prog 8 [.slice px x.length cx, vMark m, .slice pt ts.length ct] w0 (fun _ => False) fun v _ => v = .bool true := by
  refine enter Tryd.func8 rfl rfl (Wd.begin (fs := [TabF, LibF, GlF px x, LsF pt 0 ts]) (by simp; exact ⟨ht.imp fun _ h => h.1, ht, hx, hts⟩)) (fun a S => ?_)
  simp only [Tryd.ntmps8, List.length_cons, List.length_nil, Nat.reduceAdd, Nat.reduceSub, List.replicate_succ, List.replicate_zero, List.cons_append, List.nil_append] at S
  refine c_seq ?_
  refine c_region ?_
  refine sa S ?_; clear S; intro b4 a w S
  refine sq S ?_; clear S; intro a S
  refine wl_nil ?_
  refine xtn ?_
  iterate 2 (refine c_seq ?_)
  refine c_region ?_
  refine sr S (wakes14_c _ (S.mem.fact0 LibF)) ?_; clear S; rintro _ a w rfl S
  refine sq S ?_; clear S; intro a S
  rw [show (!true) = false from rfl] at S
  refine wl_nil ?_
  refine xtn ?_
  refine c_condF S ?_
  refine c_skip ?_
  refine xtn ?_
  refine c_seq ?_
  refine c_region ?_
  refine sq S ?_; clear S; intro a S
  refine sr S (short_c x px cx _ w hxl (foots_lt S) (S.mem.fact (GlF px x))) ?_; clear S; rintro _ a w ⟨p1, c1, rfl, hc1, hf1⟩ S
  replace S := S.add hf1
  have hxl2 := shortL_len x
  refine sq S ?_; clear S; intro a S
  refine wl_nil ?_
  refine xtn ?_
  refine c_seq ?_
  refine c_region ?_
  refine sq S ?_; clear S; intro a S
  refine sr S (troot_c (shortL x) p1 c1 _ w hc1 (by omega) (foots_lt S) (S.mem.fact TabF) (S.mem.fact (GlF p1 (shortL x)))) ?_; clear S; rintro _ a w hR S
  obtain ⟨r1, e1, rfl, hf3, hy1, hn1⟩ := hR
  replace S := S.add hf3
  iterate 3 (refine sq S ?_; clear S; intro a S)
  refine sa S ?_; clear S; intro b7 a w S
  refine sw S ?_; clear S; intro a w S
  refine sq S ?_; clear S; intro a S
  refine wl_nil ?_
  refine xtn ?_
  iterate 2 (refine c_seq ?_)
  refine c_region ?_
  iterate 2 (refine sq S ?_; clear S; intro a S)
  refine wl_nil ?_
  refine xtn ?_
  refine c_cond S (fun h5 => ?_) (fun h5 => ?_)
  · refine c_seq ?_
    refine c_region ?_
    refine sq S ?_; clear S; intro a S
    refine wl_nil ?_
    refine xtn ?_
    refine c_ret ?_
    refine xtr ?_
    refine end1 S (fun _ => rfl)
  · refine c_skip ?_
    refine xtn ?_
    iterate 2 (refine c_seq ?_)
    have he1 : e1 = 0 := by simpa using h5
    have ho1 : okM (shortL x) = true := by
      cases h : okM (shortL x) with
      | true => rfl
      | false => have := (hn1 h).1; omega
    have q1 := (hy1 ho1).2
    replace S := S.boxToF b7
    refine c_region ?_
    iterate 3 (refine sq S ?_; clear S; intro a S)
    refine wl_nil ?_
    refine xtn ?_
    refine c_block ?_
    refine c_fore1 S (fun (k : Nat) uu => [(6, uu 6), (3, uu 10), (0, uu 11), (0, uu 12), (16, .int .i64 (k : Nat)), (0, uu 30), (0, uu 31), (0, uu 32), (0, uu 33), (0, uu 34), (0, uu 35), (0, uu 36), (0, uu 37), (0, uu 38), (0, uu 39), (0, uu 40), (0, uu 41), (0, uu 42), (0, uu 43), (0, uu 44), (0, uu 45), (0, uu 46), (0, uu 47), (0, uu 48), (0, uu 49)]) (fun (k : Nat) => [Wk.box b4 57 [str m.key, .int .i64 m.ver]]) (fun (k : Nat) => [BoxF b7 24 r1.cells, LtF r1, GlF p1 (shortL x), TabF, LibF, LsF pt 0 ts]) (fun (k : Nat) => k ≤ (shortL x).length) (fun (k : Nat) => (shortL x).length - k) (0) ?_ S.uu ?_ ?_
    · exact Nat.zero_le _
    · first | exact S | exact S.sub _ _
    · clear S; rintro k uu a w hk S
      refine c_seq ?_
      refine c_region ?_
      refine sq S ?_; clear S; intro a S
      refine wl_nil ?_
      refine xtn ?_
      refine c_seq ?_
      refine c_cond S (fun h8 => ?_) (fun h8 => ?_)
      · refine c_skip ?_
        refine xtn ?_
        refine c_seq ?_
        refine c_block ?_
        refine c_seq ?_
        have hkl : k < (shortL x).length := by simp at h8; omega
        have hK : KLt k (shortL x).length := ⟨hkl⟩
        refine c_region ?_
        iterate 2 (refine sq S ?_; clear S; intro a S)
        refine sa S ?_; clear S; intro b10 a w S
        refine sw S ?_; clear S; intro a w S
        refine wl_nil ?_
        refine xtn ?_
        refine c_seq ?_
        refine c_region ?_
        iterate 3 (refine sq S ?_; clear S; intro a S)
        refine sr S (tproof_c (shortL x) p1 c1 (nthG (shortL x) k).key _ w hc1 (by omega) (foots_lt S) (S.mem.fact TabF) (S.mem.fact (GlF p1 (shortL x)))) ?_; clear S; rintro _ a w ⟨pp, cp, ps, e, rfl, hps, -, -, h3⟩ S
        obtain ⟨rfl, i, hi, hik, hpath⟩ := h3 ho1 (List.mem_map_of_mem (nthG_mem hkl))
        obtain rfl := key_inj ho1 hi hkl hik
        replace S := S.add hps
        iterate 5 (refine sq S ?_; clear S; intro a S)
        refine wl_nil ?_
        refine xtn ?_
        refine c_seq ?_
        refine c_region ?_
        iterate 2 (refine sq S ?_; clear S; intro a S)
        rw [show (!decide ((0 : Int) = 0)) = false from rfl] at S
        refine sq S ?_; clear S; intro a S
        refine gT' S ?_
        refine sq S ?_; clear S; intro a S
        refine gT' S ?_
        refine sq S ?_; clear S; intro a S
        refine gT' S ?_
        refine sq S ?_; clear S; intro a S
        refine gT' S ?_
        refine sr S (proves_c r1 (nthG (shortL x) i) ps pp cp _ (by have := congrArg List.length hpath; rw [List.length_map, List.length_reverse] at this; have := path_log 5 (shortL x) i (by omega); omega) (S.t0 r1) (S.mem.fact0 (LsF pp 0 ps)) (S.mem.fact0 TabF)) ?_; clear S; rintro _ a w rfl S
        rw [show provesB r1.t (nthG (shortL x) i) (ps.map LTerm.t) = true from by rw [q1, hpath]; exact proves_ok ho1 hkl] at S
        refine gT' S ?_
        refine sq S ?_; clear S; intro a S
        rw [show (!true) = false from rfl] at S
        refine sq S ?_; clear S; intro a S
        refine wl_nil ?_
        refine xtn ?_
        refine c_condF S ?_
        refine c_skip ?_
        refine xbn ?_
        refine xtn ?_
        refine c_region ?_
        iterate 2 (refine sq S ?_; clear S; intro a S)
        refine wl_nil ?_
        refine xtn ?_
        rw [w64 ((i : Int) + 1) (by omega) (by omega)] at S
        exact ⟨i + 1, S.uu, hkl, S.sub _ _, by omega⟩
      · refine c_exit ?_
        iterate 2 (refine xte ?_)
        refine xbe ?_
        refine xtn ?_
        refine c_seq ?_
        refine c_region ?_
        refine sq S ?_; clear S; intro a S
        refine wl_nil ?_
        refine xtn ?_
        iterate 2 (refine c_seq ?_)
        refine c_region ?_
        iterate 3 (refine sq S ?_; clear S; intro a S)
        refine wl_nil ?_
        refine xtn ?_
        refine c_block ?_
        replace S := S.addNil 24 5
        refine c_fore4 S (fun (k : Nat) (os : List LTerm) (po : Option Addr) (co : Nat) uu => [(13, .slice po os.length co), (0, uu 14), (0, uu 15), (36, .int .i64 (k : Nat)), (0, uu 53), (0, uu 54), (0, uu 55), (0, uu 56), (0, uu 57), (0, uu 58), (0, uu 59), (0, uu 60), (0, uu 61), (0, uu 62), (0, uu 63), (0, uu 64)]) (fun (k : Nat) (os : List LTerm) (po : Option Addr) (co : Nat) => [Wk.row 24 5 po os.length co (encL os), Wk.box b4 57 [str m.key, .int .i64 m.ver]]) (fun (k : Nat) (os : List LTerm) (po : Option Addr) (co : Nat) => [AllI os, BoxF b7 24 r1.cells, LtF r1, GlF p1 (shortL x), TabF, LibF, LsF pt 0 ts]) (fun (k : Nat) (os : List LTerm) (po : Option Addr) (co : Nat) => k ≤ ts.length ∧ os.length ≤ 10 ∧ os.length ≤ k) (fun (k : Nat) (os : List LTerm) (po : Option Addr) (co : Nat) => ts.length - k) (0) ([]) (none) (0) ?_ S.uu ?_ ?_
        · exact ⟨Nat.zero_le _, Nat.zero_le _, Nat.zero_le _⟩
        · exact S.add (Φ := AllI (α := LTerm) []) AllI.nil
        · clear S; rintro k os po co uu a w ⟨hk, ho10, hok⟩ S
          refine c_seq ?_
          refine c_region ?_
          refine sq S ?_; clear S; intro a S
          refine wl_nil ?_
          refine xtn ?_
          refine c_seq ?_
          refine c_cond S (fun h16 => ?_) (fun h16 => ?_)
          · refine c_skip ?_
            refine xtn ?_
            refine c_seq ?_
            refine c_block ?_
            refine c_seq ?_
            have hkl2 : k < ts.length := by simp at h16; omega
            have hK2 : KLt k ts.length := ⟨hkl2⟩
            refine c_region ?_
            iterate 3 (refine sq S ?_; clear S; intro a S)
            refine sa S ?_; clear S; intro b15 a w S
            refine sq S ?_; clear S; intro a S
            refine sw S ?_; clear S; intro a w S
            refine wl_nil ?_
            refine xtn ?_
            refine c_seq ?_
            refine c_region ?_
            iterate 2 (refine sq S ?_; clear S; intro a S)
            refine wl_nil ?_
            refine xtn ?_
            refine c_cond S (fun h18 => ?_) (fun h18 => ?_)
            · have hk10 : k < 10 := by simp at h18; omega
              refine c_region ?_
              iterate 2 (refine sq S ?_; clear S; intro a S)
              refine sr S (small14_c 12 (nthL ts k) _ w (by omega) (foots_lt S) (S.t (nthL ts k))) ?_; clear S; rintro _ a w ⟨r, rfl, hr, hrf⟩ S
              replace S := S.add hrf
              refine sn S ?_; clear S; intro b62 a w S
              refine sap S (by simp [maxLen]; omega) (by omega) ?_; clear S; rintro p7 c7 a w - S
              rw [show encL os ++ r.cells = encL (os ++ [r]) from by rw [encL_append os [r], encT_cells], show os.length + 1 = (os ++ [r]).length from by simp] at S
              refine sq S ?_; clear S; intro a S
              refine wl_nil ?_
              refine xbn ?_
              refine xtn ?_
              refine c_region ?_
              iterate 2 (refine sq S ?_; clear S; intro a S)
              refine wl_nil ?_
              refine xtn ?_
              rw [w64 ((k : Int) + 1) (by omega) (by omega)] at S
              have h1 : Stable _ _ (AllI os) := S.wd.facts (AllI os) (by simp)
              have h2 := S.t r
              replace S := S.add (AllI.snoc h1 h2)
              exact ⟨k + 1, os ++ [r], p7, c7, S.uu, ⟨hkl2, by simp; omega, by simp; omega⟩, S.sub _ _, by omega⟩
            · refine c_skip ?_
              refine xbn ?_
              refine xtn ?_
              refine c_region ?_
              iterate 2 (refine sq S ?_; clear S; intro a S)
              refine wl_nil ?_
              refine xtn ?_
              rw [w64 ((k : Int) + 1) (by omega) (by omega)] at S
              exact ⟨k + 1, os, po, co, S.uu, ⟨hkl2, ho10, by omega⟩, S.sub _ _, by omega⟩
          · refine c_exit ?_
            iterate 2 (refine xte ?_)
            refine xbe ?_
            refine xtn ?_
            refine c_seq ?_
            refine c_region ?_
            iterate 7 (refine sq S ?_; clear S; intro a S)
            rw [shortM_eq m] at S
            refine sq S ?_; clear S; intro a S
            refine sw S ?_; clear S; intro a w S
            refine wl_nil ?_
            refine xtn ?_
            refine c_seq ?_
            replace S := S.rowToGl po os (e := 24) (sz := 5) (n := os.length) (c := co) (S.mem.fact (AllI os))
            have hLe : LeC (shortL x).length 9223372036854775807 := ⟨by omega⟩
            refine c_region ?_
            iterate 3 (refine sq S ?_; clear S; intro a S)
            refine sr S (proves_c r1 (shortM m) os po co _ (by omega) (S.t0 r1) ((S.mem.fact0 (GlF po os)).imp fun _ h => gl_ls h) (S.mem.fact0 TabF)) ?_; clear S; rintro _ a w rfl S
            iterate 2 (refine sq S ?_; clear S; intro a S)
            iterate 2 (refine gQ S ?_; clear S; intro a S)
            refine gC S ?_; clear S; intro a w S
            iterate 2 (refine sq S ?_; clear S; intro a S)
            refine wl_nil ?_
            refine xtn ?_
            refine c_ret ?_
            refine end1 S (fun _ => ?_)
            cases hp : provesB r1.t (shortM m) (os.map LTerm.t) with
            | false => simp
            | true =>
              have : shortM m ∈ shortL x := proves_sound ho1 (by rw [← q1]; exact hp)
              have h2 : decide ((⟨(shortM m).key, m.ver⟩ : LMark) ∈ shortL x) = true := decide_eq_true this
              simp [h2]
end Go.Proofs.YtgielmldblopeaaDoor
