/- 8: a part of this claim's texts, joined: VaultL VaultM RowVaultB. -/
import Derived.Test.YtdakncgafdnjfaaGreatPb7
/- Law 19: what is gone through; the same rows; VaultBack. -/
namespace Go.Proofs.YtdakncgafdnjfaaGreat
open Go Go.Wk
set_option synthInstance.maxSize 100000
set_option synthInstance.maxHeartbeats 400000
set_option maxRecDepth 100000

theorem large19_c (N : Nat) : ∀ (t : LTerm) (deep left : Int) (b : Nat) (w0 : World), SizeOf.sizeOf t ≤ N → 0 ≤ deep → deep ≤ 81 → 0 ≤ left → left ≤ 2000 → Stable (fun k => k = b) w0 (LtF t) → w0.heap[b]? = some (.cells #[.int .i64 left] 3 (0, 0)) →
    Ret Tryz.prog 62 [vL t, .int .i64 deep, .pointer (some ⟨b, 0, none⟩)] w0 (fun k => k = b) fun v w' => ∃ (r : Bool) (n : Int), v = .bool r ∧ n ≤ left ∧ (r = false → 0 ≤ n) ∧ w'.heap[b]? = some (.cells #[.int .i64 n] 3 (0, 0)) := by
  induction N with
  | zero => intro t _ _ _ _ h; cases t; simp at h
  | succ N ih =>
  intro t deep left b w0 hN hd hd' hl hl' hf hb
  have hlen := LTerm.len_le hf
  refine enter Tryz.func62 rfl rfl (Wd.lent (fs := [LtF t]) hb (by simpa using hf)) (fun a S => ?_)
  simp only [Tryz.ntmps62, List.length_cons, List.length_nil, Nat.reduceAdd, Nat.reduceSub, List.replicate_succ, List.replicate_zero, List.cons_append, List.nil_append] at S
  refine c_seq ?_
  refine c_region ?_
  refine sa S ?_; clear S; intro b3 a w S
  refine sq S ?_; clear S; intro a S
  refine wl_nil ?_
  refine xtn ?_
  iterate 2 (refine c_seq ?_)
  refine c_region ?_
  iterate 4 (refine sq S ?_; clear S; intro a S)
  rw [w64 (left - 1) (by omega) (by omega)] at S
  refine sq S ?_; clear S; intro a S
  refine sw S ?_; clear S; intro a w S
  refine wl_nil ?_
  refine xtn ?_
  refine c_seq ?_
  refine c_region ?_
  iterate 5 (refine sq S ?_; clear S; intro a S)
  iterate 2 (refine gQ S ?_; clear S; intro a S)
  iterate 2 (refine sq S ?_; clear S; intro a S)
  iterate 4 (refine gQ S ?_; clear S; intro a S)
  iterate 2 (refine sq S ?_; clear S; intro a S)
  iterate 4 (refine gQ S ?_; clear S; intro a S)
  refine sq S ?_; clear S; intro a S
  refine wl_nil ?_
  refine xtn ?_
  refine c_cond S (fun h2 => ?_) (fun h2 => ?_)
  · refine c_seq ?_
    refine c_region ?_
    refine sq S ?_; clear S; intro a S
    refine wl_nil ?_
    refine xtn ?_
    refine c_ret ?_
    refine xtr ?_
    have hbx := S.box b
    refine fin1 S (fun _ => ?_)
    exact ⟨true, _, rfl, by omega, nofun, hbx⟩
  · refine c_skip ?_
    refine xtn ?_
    iterate 2 (refine c_seq ?_)
    have h2' : 0 ≤ left - 1 ∧ deep ≤ 80 := by
      simp only [Bool.or_eq_false_iff, decide_eq_false_iff_not] at h2
      omega
    refine c_region ?_
    iterate 4 (refine sq S ?_; clear S; intro a S)
    refine wl_nil ?_
    refine xtn ?_
    refine c_block ?_
    refine c_fore2 S (fun (k : Nat) (lf : Int) uu => [(6, uu 6), (1, uu 8), (28, .int .i64 (k : Nat)), (0, uu 38), (0, uu 39), (0, uu 40), (0, uu 41), (0, uu 42), (0, uu 43), (0, uu 44), (0, uu 45), (0, uu 46)]) (fun (k : Nat) (lf : Int) => [Wk.box b3 43 t.cells, Wk.box b 3 [.int .i64 lf]]) (fun (k : Nat) (lf : Int) => [LtF t]) (fun (k : Nat) (lf : Int) => k ≤ t.kids.length ∧ 0 ≤ lf ∧ lf ≤ left) (fun (k : Nat) (lf : Int) => t.kids.length - k) (0) (left - 1) ?_ S.uu ?_ ?_
    · exact ⟨Nat.zero_le _, by omega, by omega⟩
    · first | exact S | exact S.sub _ _
    · clear S; rintro k lf uu a w ⟨hk, hlf, hlf'⟩ S
      refine c_seq ?_
      refine c_region ?_
      refine sq S ?_; clear S; intro a S
      refine wl_nil ?_
      refine xtn ?_
      refine c_seq ?_
      refine c_cond S (fun h5 => ?_) (fun h5 => ?_)
      · refine c_skip ?_
        refine xtn ?_
        refine c_seq ?_
        refine c_block ?_
        refine c_seq ?_
        have hkl : k < t.kids.length := by simp at h5; omega
        have hK : KLt k t.kids.length := ⟨hkl⟩
        refine c_region ?_
        iterate 2 (refine sq S ?_; clear S; intro a S)
        refine sa S ?_; clear S; intro b8 a w S
        refine sw S ?_; clear S; intro a w S
        refine wl_nil ?_
        refine xtn ?_
        refine c_seq ?_
        refine c_region ?_
        iterate 3 (refine sq S ?_; clear S; intro a S)
        rw [w64 (deep + 1) (by omega) (by omega)] at S
        refine sq S ?_; clear S; intro a S
        have hst : Stable (fun k => k = b) w (LtF (nthL t.kids k)) := (S.t (nthL t.kids k)).less fun j _ hj => ⟨Wk.box b 3 [.int .i64 lf], by simp, by rw [hj]; rfl⟩
        refine sb S (b := b) (ih (nthL t.kids k) (deep + 1) lf b w (by have := LTerm.kid_lt (nth_mem hkl); omega) (by omega) (by omega) hlf (by omega) hst (S.box b)) ?_; clear S
        rintro v a w ⟨r, n, rfl, hn1, hn2, hcb⟩ hS
        have S := hS [.int .i64 _] _ inferInstance hcb
        clear hS
        refine wl_nil ?_
        refine xtn ?_
        refine c_cond S (fun h7 => ?_) (fun h7 => ?_)
        · refine c_seq ?_
          refine c_region ?_
          refine sq S ?_; clear S; intro a S
          refine wl_nil ?_
          refine xtn ?_
          refine c_ret ?_
          refine xbr ?_
          iterate 2 (refine xtr ?_)
          refine xbr ?_
          refine xtr ?_
          have hbx := S.box b
          refine fin1 S (fun _ => ?_)
          exact ⟨true, _, rfl, by omega, nofun, hbx⟩
        · refine c_skip ?_
          refine xbn ?_
          refine xtn ?_
          refine c_region ?_
          iterate 2 (refine sq S ?_; clear S; intro a S)
          refine wl_nil ?_
          refine xtn ?_
          rw [w64 ((k : Int) + 1) (by omega) (by omega)] at S
          exact ⟨k + 1, n, S.uu, ⟨hkl, hn2 h7, by omega⟩, S.sub _ _, by omega⟩
      · refine c_exit ?_
        iterate 2 (refine xte ?_)
        refine xbe ?_
        refine xtn ?_
        refine c_seq ?_
        refine c_region ?_
        refine sq S ?_; clear S; intro a S
        refine wl_nil ?_
        refine xtn ?_
        refine c_ret ?_
        have hbx := S.box b
        refine fin1 S (fun _ => ?_)
        exact ⟨false, _, rfl, by omega, fun _ => hlf, hbx⟩
theorem over19_c (xs : List LRow) (p : Option Addr) (n c : Nat) (w0 : World) (hn : xs.length = n) (hl : n ≤ 9223372036854775807) (hf : Stable (fun _ => False) w0 (GlF p xs)) : Ret Tryz.prog 13 [.slice p n c] w0 (fun _ => False) fun v _ => ∃ b, v = .bool b ∧ (b = false → n ≤ 100 ∧ ∀ x ∈ xs, x.name.length ≤ 500) := by
  subst hn
  refine enter Tryz.func13 rfl rfl (Wd.begin (fs := [GlF p xs]) (by simpa using hf)) (fun a S => ?_)
  simp only [Tryz.ntmps13, List.length_cons, List.length_nil, Nat.reduceAdd, Nat.reduceSub, List.replicate_succ, List.replicate_zero, List.cons_append, List.nil_append] at S
  refine c_seq ?_
  refine c_region ?_
  refine sq S ?_; clear S; intro a S
  refine wl_nil ?_
  refine xtn ?_
  iterate 2 (refine c_seq ?_)
  refine c_region ?_
  iterate 3 (refine sq S ?_; clear S; intro a S)
  refine wl_nil ?_
  refine xtn ?_
  refine c_cond S (fun h1 => ?_) (fun h1 => ?_)
  · refine c_seq ?_
    refine c_region ?_
    refine sq S ?_; clear S; intro a S
    refine wl_nil ?_
    refine xtn ?_
    refine c_ret ?_
    refine xtr ?_
    exact end1 S (fun _ => ⟨true, rfl, nofun⟩)
  · refine c_skip ?_
    refine xtn ?_
    refine c_seq ?_
    refine c_region ?_
    refine sa S ?_; clear S; intro b3 a w S
    refine sw S ?_; clear S; intro a w S
    refine wl_nil ?_
    refine xtn ?_
    iterate 2 (refine c_seq ?_)
    refine c_region ?_
    iterate 3 (refine sq S ?_; clear S; intro a S)
    refine wl_nil ?_
    refine xtn ?_
    refine c_block ?_
    refine c_fore2 S (fun (k : Nat) (lf : Int) uu => [(2, uu 2), (2, uu 5), (5, .int .i64 (k : Nat)), (0, uu 12), (0, uu 13), (0, uu 14), (0, uu 15), (0, uu 16), (0, uu 17), (0, uu 18), (0, uu 19), (0, uu 20), (0, uu 21), (0, uu 22), (0, uu 23), (0, uu 24)]) (fun (k : Nat) (lf : Int) => [Wk.box b3 3 [.int .i64 lf]]) (fun (k : Nat) (lf : Int) => [GlF p xs]) (fun (k : Nat) (lf : Int) => k ≤ xs.length ∧ 0 ≤ lf ∧ lf ≤ 2000 ∧ ∀ i, i < k → (nthG xs i).name.length ≤ 500) (fun (k : Nat) (lf : Int) => xs.length - k) (0) (2000) ?_ S.uu ?_ ?_
    · exact ⟨Nat.zero_le _, by omega, by omega, fun i h => by omega⟩
    · first | exact S | exact S.sub _ _
    · clear S; rintro k lf uu a w ⟨hk, hlf, hlf', hnm⟩ S
      refine c_seq ?_
      refine c_region ?_
      refine sq S ?_; clear S; intro a S
      refine wl_nil ?_
      refine xtn ?_
      refine c_seq ?_
      refine c_cond S (fun h5 => ?_) (fun h5 => ?_)
      · refine c_skip ?_
        refine xtn ?_
        refine c_seq ?_
        refine c_block ?_
        refine c_seq ?_
        have hkl : k < xs.length := by simp at h5; omega
        have hK : KLt k xs.length := ⟨hkl⟩
        refine c_region ?_
        iterate 2 (refine sq S ?_; clear S; intro a S)
        refine sa S ?_; clear S; intro b5 a w S
        refine sw S ?_; clear S; intro a w S
        refine wl_nil ?_
        refine xtn ?_
        refine c_seq ?_
        refine c_region ?_
        iterate 5 (refine sq S ?_; clear S; intro a S)
        refine gS S (fun hs S => ?_) (fun hs S => ?_)
        · refine gF' S ?_; clear S; intro a S
          iterate 2 (refine gF' S ?_; clear S; intro a S)
          refine sq S ?_; clear S; intro a S
          refine wl_nil ?_
          refine xtn ?_
          refine c_condT S ?_
          refine c_seq ?_
          refine c_region ?_
          refine sq S ?_; clear S; intro a S
          refine wl_nil ?_
          refine xtn ?_
          refine c_ret ?_
          refine xbr ?_
          iterate 2 (refine xtr ?_)
          refine xbr ?_
          refine xtr ?_
          exact end1 S (fun _ => ⟨true, rfl, nofun⟩)
        · refine gT' S ?_
          refine sq S ?_; clear S; intro a S
          refine gT' S ?_
          refine sq S ?_; clear S; intro a S
          refine gT' S ?_
          have hst : Stable (fun k => k = b3) w (LtF (nthG xs k).term) := (S.t (nthG xs k).term).less fun j _ hj => ⟨Wk.box b3 3 [.int .i64 lf], by simp, by rw [hj]; rfl⟩
          refine sb S (b := b3) (large19_c _ (nthG xs k).term 1 lf b3 w (Nat.le_refl _) (by omega) (by omega) hlf (by omega) hst (S.box b3)) ?_; clear S
          rintro v a w ⟨r, n, rfl, hn1, hn2, hcb⟩ hS
          have S := hS [.int .i64 _] _ inferInstance hcb
          clear hS
          refine sq S ?_; clear S; intro a S
          refine wl_nil ?_
          refine xtn ?_
          refine c_cond S (fun h7 => ?_) (fun h7 => ?_)
          · refine c_seq ?_
            refine c_region ?_
            refine sq S ?_; clear S; intro a S
            refine wl_nil ?_
            refine xtn ?_
            refine c_ret ?_
            refine xbr ?_
            iterate 2 (refine xtr ?_)
            refine xbr ?_
            refine xtr ?_
            exact end1 S (fun _ => ⟨true, rfl, nofun⟩)
          · refine c_skip ?_
            refine xbn ?_
            refine xtn ?_
            refine c_region ?_
            iterate 2 (refine sq S ?_; clear S; intro a S)
            refine wl_nil ?_
            refine xtn ?_
            rw [w64 ((k : Int) + 1) (by omega) (by omega)] at S
            refine ⟨k + 1, n, S.uu, ⟨hkl, hn2 h7, by omega, fun i hi => ?_⟩, S.sub _ _, by omega⟩
            rcases Nat.lt_succ_iff_lt_or_eq.1 hi with h | rfl
            · exact hnm i h
            · have := of_decide_eq_false hs; omega
      · refine c_exit ?_
        iterate 2 (refine xte ?_)
        refine xbe ?_
        refine xtn ?_
        refine c_seq ?_
        refine c_region ?_
        refine sq S ?_; clear S; intro a S
        refine wl_nil ?_
        refine xtn ?_
        refine c_ret ?_
        refine end1 S (fun _ => ⟨false, rfl, fun _ => ⟨?_, fun x hx => ?_⟩⟩)
        · have := of_decide_eq_false h1; omega
        · obtain ⟨i, hi, rfl⟩ := List.mem_iff_getElem.1 hx
          have h2 := nthG_get hi
          rw [List.getElem?_eq_getElem hi] at h2
          rw [Option.some.inj h2]
          exact hnm i (by simp at h5; omega)
theorem same19_c (xs ys : List LRow) (p q : Option Addr) (n m c d : Nat) (w0 : World) (hn : xs.length = n) (hm : ys.length = m) (hl : n ≤ 9223372036854775807) (he : rsP xs = rsP ys) (hx : Stable (fun _ => False) w0 (GlF p xs)) (hy : Stable (fun _ => False) w0 (GlF q ys)) :
    Ret Tryz.prog 16 [.slice p n c, .slice q m d] w0 (fun _ => False) fun v _ => v = .bool true := by
  have hlen : xs.length = ys.length := by have := congrArg List.length he; simpa [rsP] using this
  have hnm : n = m := by omega
  subst hnm
  subst hn
  have hrow : ∀ i, i < xs.length → (nthG xs i).r = (nthG ys i).r := fun i hi => by
    have h1 : (rsP xs)[i]? = some (nthG xs i).r := by rw [rsP, List.getElem?_map, nthG_get hi]; rfl
    have h2 : (rsP ys)[i]? = some (nthG ys i).r := by rw [rsP, List.getElem?_map, nthG_get (by omega)]; rfl
    rw [he, h2] at h1
    exact (Option.some.inj h1).symm
  refine enter Tryz.func16 rfl rfl (Wd.begin (fs := [GlF p xs, GlF q ys]) (by simp; exact ⟨hx, hy⟩)) (fun a S => ?_)
  simp only [Tryz.ntmps16, List.length_cons, List.length_nil, Nat.reduceAdd, Nat.reduceSub, List.replicate_succ, List.replicate_zero, List.cons_append, List.nil_append] at S
  refine c_seq ?_
  refine c_region ?_
  refine sq S ?_; clear S; intro a S
  refine wl_nil ?_
  refine xtn ?_
  iterate 2 (refine c_seq ?_)
  refine c_region ?_
  iterate 5 (refine sq S ?_; clear S; intro a S)
  refine wl_nil ?_
  refine xtn ?_
  refine c_cond S (fun h1 => ?_) (fun h1 => ?_)
  · refine c_seq ?_
    refine c_region ?_
    refine sq S ?_; clear S; intro a S
    refine wl_nil ?_
    refine xtn ?_
    refine c_ret ?_
    refine xtr ?_
    simp at h1
  · refine c_skip ?_
    refine xtn ?_
    iterate 2 (refine c_seq ?_)
    refine c_region ?_
    iterate 3 (refine sq S ?_; clear S; intro a S)
    refine wl_nil ?_
    refine xtn ?_
    refine c_block ?_
    refine c_forb1 S (fun (k : Nat) uu => [(4, uu 4), (0, uu 5), (7, .int .i64 (k : Nat)), (0, uu 14), (0, uu 15), (0, uu 16), (0, uu 17), (0, uu 18), (0, uu 19), (0, uu 20), (0, uu 21), (0, uu 22), (0, uu 23), (0, uu 24), (0, uu 25), (0, uu 26), (0, uu 27), (0, uu 28), (0, uu 29), (0, uu 30), (0, uu 31), (0, uu 32), (0, uu 33), (0, uu 34), (0, uu 35), (0, uu 36), (0, uu 37), (0, uu 38), (0, uu 39), (0, uu 40), (0, uu 41)]) (fun (k : Nat) => k ≤ xs.length) (fun (k : Nat) => xs.length - k) (0) ?_ S.uu ?_ ?_
    · exact Nat.zero_le _
    · first | exact S | exact S.sub _ _
    · clear S; rintro k uu a w hk S
      refine c_seq ?_
      refine c_region ?_
      refine sq S ?_; clear S; intro a S
      refine wl_nil ?_
      refine xtn ?_
      refine c_seq ?_
      refine c_cond S (fun h4 => ?_) (fun h4 => ?_)
      · refine c_skip ?_
        refine xtn ?_
        refine c_seq ?_
        refine c_block ?_
        refine c_seq ?_
        have hkl : k < xs.length := by simp at h4; omega
        have hK : KLt k xs.length := ⟨hkl⟩
        have hK2 : KLt k ys.length := ⟨by omega⟩
        have hr := hrow k hkl
        have hr1 : (nthG xs k).name = (nthG ys k).name := congrArg PRow.name hr
        have hr2 : (nthG xs k).term.t = (nthG ys k).term.t := congrArg PRow.term hr
        refine c_region ?_
        iterate 2 (refine sq S ?_; clear S; intro a S)
        refine wl_nil ?_
        refine xtn ?_
        refine c_seq ?_
        refine c_drawD [(0, true), (1, true), (2, true), (3, true), (4, true), (5, true), (6, true), (7, true), (8, true), (9, true), (10, true), (11, true), (12, true), (13, true), (14, true), (15, true), (16, true), (17, true), (18, true), (19, true), (20, true), (21, true), (22, false), (23, true), (24, true)] [] S ?_; clear S; intro w S
        iterate 12 (refine dq S ?_; clear S; intro a S)
        iterate 10 (refine dqG S ?_; clear S; intro a S)
        refine dl ?_
        refine gC S ?_; clear S; intro a w S
        refine de S ?_
        refine dqG S ?_; clear S; intro a S
        refine dq S ?_; clear S; intro a S
        refine dn ?_
        refine xtn ?_
        refine c_cond S (fun h6 => ?_) (fun h6 => ?_)
        · refine c_seq ?_
          refine c_region ?_
          refine sq S ?_; clear S; intro a S
          refine wl_nil ?_
          refine xtn ?_
          refine c_ret ?_
          refine xbr ?_
          iterate 2 (refine xtr ?_)
          refine xbr ?_
          refine xtr ?_
          rw [hr1, hr2, (sameF_iff _ _).2 rfl] at h6
          simp at h6
        · refine c_skip ?_
          refine xbn ?_
          refine xtn ?_
          refine c_region ?_
          iterate 2 (refine sq S ?_; clear S; intro a S)
          refine wl_nil ?_
          refine xtn ?_
          rw [w64 ((k : Int) + 1) (by omega) (by omega)] at S
          exact ⟨k + 1, S.uu, hkl, S.sub _ _, by omega⟩
      · refine c_exit ?_
        iterate 2 (refine xte ?_)
        refine xbe ?_
        refine xtn ?_
        refine c_seq ?_
        refine c_region ?_
        refine sq S ?_; clear S; intro a S
        refine wl_nil ?_
        refine xtn ?_
        refine c_ret ?_
        exact end1 S (fun _ => rfl)
end Go.Proofs.YtdakncgafdnjfaaGreat

/- Law 19: VaultBack. -/
namespace Go.Proofs.YtdakncgafdnjfaaGreat
open Go Go.Wk
set_option synthInstance.maxSize 100000
set_option synthInstance.maxHeartbeats 400000
set_option maxRecDepth 100000

theorem vback_c (xs : List LRow) (p : Option Addr) (c : Nat) (cut : Int) (w0 : World) (hc : xs.length ≤ c) (hl : xs.length ≤ 9223372036854775807) (hf : Stable (fun _ => False) w0 (GlF p xs)) : Ret Tryz.prog 3 [.slice p xs.length c, .int .i64 cut] w0 (fun _ => False) fun v _ => v = .bool true := by
  refine enter Tryz.func3 rfl rfl (Wd.begin (fs := [GlF p xs]) (by simpa using hf)) (fun a S => ?_)
  simp only [Tryz.ntmps3, List.length_cons, List.length_nil, Nat.reduceAdd, Nat.reduceSub, List.replicate_succ, List.replicate_zero, List.cons_append, List.nil_append] at S
  refine c_seq ?_
  refine c_region ?_
  refine sq S ?_; clear S; intro a S
  refine wl_nil ?_
  refine xtn ?_
  iterate 2 (refine c_seq ?_)
  refine c_region ?_
  refine sr S (vwakes_c _) ?_; clear S; rintro _ a w rfl S
  refine sq S ?_; clear S; intro a S
  refine wl_nil ?_
  refine xtn ?_
  refine c_condF S ?_
  refine c_skip ?_
  refine xtn ?_
  iterate 2 (refine c_seq ?_)
  refine c_region ?_
  refine sq S ?_; clear S; intro a S
  refine sr S (over19_c xs p xs.length c _ rfl hl (S.gl0 p)) ?_; clear S; rintro _ a w ⟨b, rfl, hov⟩ S
  refine wl_nil ?_
  refine xtn ?_
  refine c_cond S (fun h3 => ?_) (fun h3 => ?_)
  · refine c_seq ?_
    refine c_region ?_
    refine sq S ?_; clear S; intro a S
    refine wl_nil ?_
    refine xtn ?_
    refine c_ret ?_
    refine xtr ?_
    exact end1 S (fun _ => rfl)
  · refine c_skip ?_
    refine xtn ?_
    refine c_seq ?_
    refine c_region ?_
    refine sq S ?_; clear S; intro a S
    obtain ⟨hx100, hx500⟩ := hov (by simpa using h3)
    refine srn S (vencode_q xs p xs.length c _ rfl hc (fun x hx => by have := hx500 x hx; omega) hl (S.gl0 p)) ?_; clear S; rintro _ a w ⟨p5, c5, rfl, hown, hnew⟩ hS -
    have S := hS hown hnew
    clear hS
    iterate 5 (refine sq S ?_; clear S; intro a S)
    refine wl_nil ?_
    refine xtn ?_
    iterate 2 (refine c_seq ?_)
    refine c_region ?_
    iterate 2 (refine sq S ?_; clear S; intro a S)
    refine wl_nil ?_
    refine xtn ?_
    refine c_cond S (fun h6 => ?_) (fun h6 => ?_)
    · refine c_seq ?_
      refine c_region ?_
      iterate 4 (refine sq S ?_; clear S; intro a S)
      refine wl_nil ?_
      refine xtn ?_
      refine c_ret ?_
      refine xtr ?_
      have hB : batchP (rsP xs) = false := by
        cases hb : batchP (rsP xs) with
        | false => rfl
        | true => rw [encE, hb] at h6; simp at h6
      refine end1 S (fun _ => ?_)
      rw [encQ, hB]; rfl
    · refine c_skip ?_
      refine xtn ?_
      refine c_seq ?_
      have hB : batchP (rsP xs) = true := by
        cases hb : batchP (rsP xs) with
        | true => rfl
        | false => rw [encE, hb] at h6; simp at h6
      have hQ : encQ (rsP xs) = encP (rsP xs) := by rw [encQ, hB]; rfl
      have hQl := encP_len hB
      rw [hQ] at S
      obtain ⟨B, hBe⟩ : ∃ B, B = encP (rsP xs) := ⟨_, rfl⟩
      have hB0 : 0 < B.length := by rw [hBe, encP]; simp
      rw [← hBe] at S hQl
      have hcap5 : B.length ≤ c5 := own_le (S.row p5 B.length)
      replace S := (S.front (Wk.row 5 1 p5 B.length c5 (encL B))).rowToGl p5 B (e := 5) (sz := 1) (n := B.length) (c := c5) (fun _ _ _ _ => trivial)
      refine c_region ?_
      refine sq S ?_; clear S; intro a S
      refine sr S (vdec_c B p5 B.length c5 _ w rfl (by omega) (foots_lt S) (S.mem.fact (GlF p5 B))) ?_; clear S; rintro _ a w ⟨ys, p8, c8, e8, rfl, hy1, hy2, hyf, hyc, hyn⟩ S
      replace S := S.add hyf
      rw [hBe, decV_enc hB] at hy1 hy2
      obtain rfl : e8 = 0 := hy2
      iterate 5 (refine sq S ?_; clear S; intro a S)
      refine wl_nil ?_
      refine xtn ?_
      refine c_seq ?_
      have hNZ : NZ (B.length : Int) := ⟨by omega⟩
      obtain ⟨k, hk⟩ : ∃ k, k = (max cut 0).toNat % B.length := ⟨_, rfl⟩
      have hkl : k < B.length := by rw [hk]; exact Nat.mod_lt _ hB0
      have hkt : (max cut 0).tmod (B.length : Int) = (k : Int) := by
        rw [Int.tmod_eq_emod_of_nonneg (by omega), hk, Int.natCast_emod, Int.toNat_of_nonneg (by omega)]
      have hL1 : LeC k c5 := ⟨by omega⟩
      have hL2 : LeC k B.length := ⟨by omega⟩
      refine c_region ?_
      iterate 6 (refine sq S ?_; clear S; intro a S)
      rw [hkt] at S
      refine sq S ?_; clear S; intro a S
      refine sr S (vdec_c (B.take k) p5 k c5 _ w (by rw [List.length_take]; omega) (by omega) (foots_lt S) ((S.mem.fact (GlF p5 B)).imp fun _ h => h.take k)) ?_; clear S; rintro _ a w ⟨zs, p9, c9, e9, rfl, -, hz2, -, -, -⟩ S
      rw [hBe, decV_cut hB (by rw [← hBe]; exact hkl)] at hz2
      obtain rfl : e9 = 7 := hz2
      iterate 5 (refine sq S ?_; clear S; intro a S)
      refine wl_nil ?_
      refine xtn ?_
      refine c_seq ?_
      refine c_region ?_
      iterate 2 (refine sq S ?_; clear S; intro a S)
      rw [show decide ((0 : Int) = 0) = true from rfl] at S
      refine sq S ?_; clear S; intro a S
      refine gT S ?_
      refine sq S ?_; clear S; intro a S
      refine gT S ?_
      refine sq S ?_; clear S; intro a S
      refine gT S ?_
      refine sr S (same19_c ys xs p8 p ys.length xs.length c8 c _ rfl rfl (by have := congrArg List.length hy1; simp only [rsP, List.length_map] at this; omega) hy1 (S.gl0 p8) (S.gl0 p)) ?_; clear S; rintro _ a w rfl S
      iterate 2 (refine sq S ?_; clear S; intro a S)
      refine gT S ?_
      refine sq S ?_; clear S; intro a S
      refine gT S ?_
      refine sq S ?_; clear S; intro a S
      rw [show decide ((7 : Int) = 7) = true from rfl] at S
      iterate 2 (refine sq S ?_; clear S; intro a S)
      refine wl_nil ?_
      refine xtn ?_
      refine c_ret ?_
      exact end1 S (fun _ => rfl)
end Go.Proofs.YtdakncgafdnjfaaGreat

/- VaultBack answers true at every input and leaves it as it was. No condition. -/
namespace Go.Proofs.YtdakncgafdnjfaaGreat
open Go Go.Wk
open Go.ChangeShapes Go.WideShapes Go.ChangeAt Go.RowKit
set_option maxRecDepth 100000

instance troStr : Tro Tryz.prog 9 (List UInt8) := troS Tryz.underlying9 (by kernel_rfl)
instance troRow : Tro Tryz.prog 45 LRow := ⟨fun enc w base spare held fuel cs x h => by
  obtain ⟨hlen, hf⟩ := trod_flds Tryz.underlying45 h
  rw [show Tryz.prog.cellsOf 45 = 6 from by kernel_rfl] at hlen
  obtain ⟨n0, y0, g0⟩ := hf 0 9 0 rfl
  obtain ⟨n1, y1, g1⟩ := hf 1 43 1 rfl
  obtain ⟨u, e0, i0⟩ := trod_fld (α := List UInt8) g0 rfl
  obtain ⟨t, e1, i1⟩ := trod_fld (α := LTerm) g1 rfl
  refine ⟨⟨u, t⟩, ?_, i1⟩
  match cs, hlen with
  | [c0, c1, c2, c3, c4, c5], _ =>
    have q0 : [c0] = [str u] := e0
    have q1 : [c1, c2, c3, c4, c5] = t.cells := e1
    show _ = str u :: t.cells
    simp only [List.cons.injEq, and_true] at q0
    rw [q0, ← q1], by kernel_rfl⟩
instance troRows : Tro Tryz.prog 22 (Sl LRow) := troSl Tryz.underlying22 (by kernel_rfl)
theorem vaultback_lifted (os : Os) (started : os.Started) (H : Type) (enc : TypeId × Value → H) :
    ReturnsInHanded {} Tryz.checked os 3 .any (Rows.vaultBackSpec.pre6 enc Tryz.prog Tryz.f3 Rows.vaultBackRow.domain false) (Rows.vaultBackSpec.post enc Tryz.prog Tryz.f3 false true false false) := by
  refine returnsInHanded_of_change (C := Tryz.checked) own started (by kernel_rfl) Tryz.func3
    (ChangeSpec.witness6 (enc := enc) (C := Tryz.checked) false ⟨#[], #[.slice none 0 0, .int .i64 0], []⟩ 8 (by kernel_rfl) (by kernel_rfl) (by kernel_rfl) (by kernel_rfl)) ?_
  intro W base args ds gs before hval0 hW _ _
  have hval : ∀ (j : Nat) t v, Tryz.f3.params[j]? = some t → args[j]? = some v → Value.okWide Tryz.prog W .any base t v := hval0
  have hW2 := hW
  obtain ⟨p, q, hA0, hV, rfl, _, _⟩ := hW
  have hA : DataW.TrodAll enc Tryz.prog W 0 (fun _ => true) true Tryz.f3.params.toList args.toList ds p := hA0
  rw [Tryz.params3] at hA hval
  obtain ⟨v0, v1, d0, d1, p0, p1, rfl, rfl, rfl, h0, h1⟩ := trodAll_two hA
  obtain ⟨rfl, rfl⟩ := trodVars_none hV
  obtain ⟨l, rfl, l_l, m_l, h_l⟩ := slice_of_Trod (α := LRow) Tryz.underlying22 h0 (hval 0 22 v0 rfl rfl)
  obtain ⟨cut, rfl, rfl, rfl, wcut⟩ := open_int Tryz.underlying3 (hval 1 3 v1 rfl rfl) h1
  refine Ret.law (vback_c l.xs l.p l.cap cut W (by omega) (by unfold maxLen at *; omega) h_l.stable) fun W1 hag => ?_
  exact ⟨_, rfl, law_post (B := 4) laidOut (by kernel_rfl) rfl rfl rfl hW2 rfl rfl rfl hag⟩
theorem vaultback_holds : Rows.VaultBackSaid :=
  OpenClaim.holds_of_wide 3 Tryz.f3 rfl rfl rfl rfl rfl rfl rfl ⟨rfl, rfl, rfl, rfl, rfl⟩ rfl rfl rfl rfl rfl (by kernel_rfl) Tryz.func3 (by kernel_rfl)
    (of_decide_eq_true (by kernel_rfl)) (by unfold Func.isWrapper; rw [if_neg (of_decide_eq_false (by kernel_rfl))]; exact ⟨rfl, rfl⟩)
    (fun os started H enc _ => vaultback_lifted os started H enc)
end Go.Proofs.YtdakncgafdnjfaaGreat
