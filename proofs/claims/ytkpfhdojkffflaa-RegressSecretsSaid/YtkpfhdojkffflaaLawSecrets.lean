/- The law RegressSecrets. -/
import Derived.Test.YtkpfhdojkffflaaPlainSecrets
namespace Go.Proofs.Ytkpfhdojkffflaa
open Go Go.Wk
set_option synthInstance.maxSize 100000
set_option synthInstance.maxHeartbeats 400000
set_option maxRecDepth 100000

theorem mod6 (x : Int) : 1 ≤ (max x 0).tmod 6 + 1 ∧ (max x 0).tmod 6 + 1 ≤ 6 := by
  rw [Int.tmod_eq_emod_of_nonneg (by omega)]; omega
theorem mod64k (x : Int) : 0 ≤ (max x 0).tmod 65536 ∧ (max x 0).tmod 65536 ≤ 65535 := by
  rw [Int.tmod_eq_emod_of_nonneg (by omega)]; omega
/-- the terms of a list lie where they say. -/
def AllF (L : List LTerm) : World → Prop := fun w => ∀ x ∈ L, LtIn w x
abbrev stT (u n m : Int) : Term := iter stepF (8 - m).toNat (freshT u n)
def keyL (u n : Int) (k : Nat) : List Term := (List.range k).map fun (i : Nat) => lastF (stT u n ((i : Int) + 1))
theorem keyL_succ (u n : Int) (k : Nat) : keyL u n (k + 1) = keyL u n k ++ [lastF (stT u n ((k : Int) + 1))] := by
  simp [keyL, List.range_succ]
theorem keyL_good {u n : Int} (hu : 1 ≤ u ∧ u ≤ 6) (hn : 0 ≤ n ∧ n ≤ 65535) (k : Nat) (hk : k ≤ 8) : ∀ t ∈ keyL u n k, Good t ∧ ∃ i, t = lastF (iter stepF i (freshT u n)) := by
  intro t ht
  obtain ⟨i, hi, rfl⟩ := List.mem_map.1 ht
  exact ⟨good_last hu hn (by omega), _, rfl⟩
theorem can_state {u n : Int} (hu : 1 ≤ u ∧ u ≤ 6) (hn : 0 ≤ n ∧ n ≤ 65535) {known m : Int} (hk : 1 ≤ known ∧ known ≤ 8) (hm : 1 ≤ m ∧ m ≤ 8) : chkF [stT u n known] [stT u n m] = 0 ∧ canB [stT u n known] (stT u n m) = decide (m ≤ known) := by
  obtain ⟨h1, h2⟩ := can_one (s := stT u n known) (t := stT u n m) (good_iter hu hn (by omega)) (good_iter hu hn (by omega))
  refine ⟨h1, ?_⟩
  rw [h2, Bool.eq_iff_iff, derB_iff, der_state, decide_eq_true_eq]
  omega
theorem can_key {u n : Int} (hu : 1 ≤ u ∧ u ≤ 6) (hn : 0 ≤ n ∧ n ≤ 65535) {known m : Int} (hk : 1 ≤ known ∧ known ≤ 8) (hm : 1 ≤ m ∧ m ≤ 8) : chkF [stT u n known] [lastF (stT u n m)] = 0 ∧ canB [stT u n known] (lastF (stT u n m)) = decide (m ≤ known) := by
  obtain ⟨h1, h2⟩ := can_one (s := stT u n known) (t := lastF (stT u n m)) (good_iter hu hn (by omega)) (good_last hu hn (by omega))
  refine ⟨h1, ?_⟩
  rw [h2, Bool.eq_iff_iff, derB_iff, der_key, decide_eq_true_eq]
  omega
theorem can_keys {u n : Int} (hu : 1 ≤ u ∧ u ≤ 6) (hn : 0 ≤ n ∧ n ≤ 65535) {m : Int} (hm : 1 ≤ m ∧ m ≤ 8) : chkF (keyL u n 8) [stT u n m] = 0 ∧ canB (keyL u n 8) (stT u n m) = false := by
  have h1 : chkF (keyL u n 8) [stT u n m] = 0 := chk_zero.2 ⟨by simp [keyL], fun t ht => by
    rcases List.mem_append.1 ht with ht | ht
    · exact (keyL_good hu hn 8 (by omega) t ht).1
    · obtain rfl := List.mem_singleton.1 ht; exact good_iter hu hn (by omega)⟩
  refine ⟨h1, ?_⟩
  rw [canB, if_pos h1]
  cases h : derB (keyL u n 8) (stT u n m) with
  | false => rfl
  | true => exact absurd (derB_iff.1 h) (der_keys u n _ (fun t ht => (keyL_good hu hn 8 (by omega) t ht).2) _)
theorem secrets_c (u0 n0 k0 : Int) (w0 : World) : Ret Try.prog 6 [.int .i64 u0, .int .i64 n0, .int .i64 k0] w0 (fun _ => False) fun v _ => v = .bool true := by
  refine enter Try.func6 rfl rfl (Wd.start w0) (fun a S => ?_)
  simp only [Try.ntmps6, List.length_cons, List.length_nil, Nat.reduceAdd, Nat.reduceSub, List.replicate_succ, List.replicate_zero, List.cons_append, List.nil_append] at S
  refine c_seq ?_
  refine c_region ?_
  refine sq S ?_; clear S; intro a S
  refine wl_nil ?_
  refine xtn ?_
  iterate 2 (refine c_seq ?_)
  refine c_region ?_
  refine sr S (wakes_c _) ?_; clear S; rintro _ a w rfl S
  refine sq S ?_; clear S; intro a S
  rw [show (!true) = false from rfl] at S
  refine wl_nil ?_
  refine xtn ?_
  refine c_condF S ?_
  refine c_skip ?_
  refine xtn ?_
  refine c_seq ?_
  refine c_region ?_
  iterate 4 (refine sq S ?_; clear S; intro a S)
  have hu := mod6 u0
  rw [w64 ((max u0 0).tmod 6 + 1) (by omega) (by omega)] at S
  generalize (max u0 0).tmod 6 + 1 = u at S hu
  iterate 3 (refine sq S ?_; clear S; intro a S)
  have hn := mod64k n0
  generalize (max n0 0).tmod 65536 = n at S hn
  refine sc S ?_; clear S; intro a w S
  refine sa S ?_; clear S; intro b7 a w S
  refine sw S ?_; clear S; intro a w S
  refine wl_nil ?_
  refine xtn ?_
  refine c_seq ?_
  refine c_region ?_
  iterate 4 (refine sq S ?_; clear S; intro a S)
  have hk := mod8 k0
  rw [w64 ((max k0 0).tmod 8 + 1) (by omega) (by omega)] at S
  generalize (max k0 0).tmod 8 + 1 = known at S hk
  refine sq S ?_; clear S; intro a S
  refine wl_nil ?_
  refine xtn ?_
  refine c_seq ?_
  refine c_region ?_
  iterate 2 (refine sq S ?_; clear S; intro a S)
  refine sr S (state_c (freshL u n) _ _ w (foots_lt S) (S.t _)) ?_; clear S; rintro _ a w ⟨s, rfl, hs, hfs⟩ S
  replace S := S.add hfs
  have hbf := back_fresh hu hn hk.1 hk.2
  rw [show (freshL u n).t = freshT u n from rfl, hbf] at hs S
  simp only at hs
  clear hfs
  iterate 3 (refine sq S ?_; clear S; intro a S)
  refine sa S ?_; clear S; intro b8 a w S
  refine sw S ?_; clear S; intro a w S
  refine sq S ?_; clear S; intro a S
  refine wl_nil ?_
  refine xtn ?_
  iterate 2 (refine c_seq ?_)
  refine c_region ?_
  iterate 2 (refine sq S ?_; clear S; intro a S)
  rw [show (!decide ((0 : Int) = 0)) = false from rfl] at S
  refine wl_nil ?_
  refine xtn ?_
  refine c_condF S ?_
  refine c_skip ?_
  refine xtn ?_
  refine c_seq ?_
  refine c_region ?_
  refine sq S ?_; clear S; intro a S
  refine wl_nil ?_
  refine xtn ?_
  iterate 2 (refine c_seq ?_)
  refine c_region ?_
  refine sq S ?_; clear S; intro a S
  refine wl_nil ?_
  refine xtn ?_
  refine c_block ?_
  replace S := S.addNil 24 5
  replace S := S.add (Φ := AllF []) (fun _ _ x hx => by cases hx)
  refine c_loop (ι := Nat) (fun k a w => ∃ p c ks, k ≤ 8 ∧ ks.map LTerm.t = keyL u n k ∧ ∃ uu : Nat → Value,  St w0 (fun _ => False) [] a w (uu 0 :: uu 1 :: (.int .i64 known) :: uu 3 :: uu 4 :: uu 5 :: (.bool false) :: (.pointer (some ⟨b7, 0, none⟩)) :: (.pointer (some ⟨b8, 0, none⟩)) :: uu 9 :: (.slice p ks.length c) :: (.int .i64 ((k : Nat) + 1 : Int)) :: uu 12 :: uu 13 :: uu 14 :: uu 15 :: uu 16 :: uu 17 :: uu 18 :: uu 19 :: uu 20 :: uu 21 :: uu 22 :: uu 23 :: uu 24 :: uu 25 :: uu 26 :: uu 27 :: uu 28 :: uu 29 :: uu 30 :: uu 31 :: uu 32 :: uu 33 :: uu 34 :: uu 35 :: uu 36 :: uu 37 :: uu 38 :: uu 39 :: uu 40 :: uu 41 :: uu 42 :: uu 43 :: uu 44 :: uu 45 :: uu 46 :: uu 47 :: uu 48 :: uu 49 :: uu 50 :: uu 51 :: uu 52 :: uu 53 :: uu 54 :: uu 55 :: uu 56 :: uu 57 :: uu 58 :: uu 59 :: uu 60 :: uu 61 :: uu 62 :: uu 63 :: uu 64 :: uu 65 :: uu 66 :: uu 67 :: uu 68 :: uu 69 :: uu 70 :: uu 71 :: uu 72 :: uu 73 :: uu 74 :: uu 75 :: uu 76 :: uu 77 :: uu 78 :: uu 79 :: uu 80 :: uu 81 :: uu 82 :: uu 83 :: uu 84 :: uu 85 :: uu 86 :: uu 87 :: uu 88 :: uu 89 :: uu 90 :: uu 91 :: uu 92 :: uu 93 :: uu 94 :: uu 95 :: uu 96 :: uu 97 :: uu 98 :: uu 99 :: uu 100 :: uu 101 :: uu 102 :: uu 103 :: uu 104 :: uu 105 :: uu 106 :: uu 107 :: uu 108 :: uu 109 :: uu 110 :: uu 111 :: uu 112 :: uu 113 :: uu 114 :: uu 115 :: uu 116 :: uu 117 :: uu 118 :: uu 119 :: uu 120 :: uu 121 :: uu 122 :: uu 123 :: uu 124 :: []) [Wk.row 24 5 p ks.length c (encL ks), Wk.box b8 24 s.cells, Wk.box b7 24 (freshL u n).cells] [AllF ks, LtF s]) (fun k => 8 - k) 0 ?_ ?_
  · exact ⟨none, 0, [], by omega, rfl, S.uu, S⟩
  · clear S
    rintro k a w ⟨p, c, ks, hk8, hks, uu, S⟩
    have hkl : ks.length = k := by rw [← List.length_map (f := LTerm.t), hks]; simp [keyL]
    iterate 2 (refine c_seq ?_)
    refine c_region ?_
    iterate 2 (refine sq S ?_; clear S; intro a S)
    refine wl_nil ?_
    refine xtn ?_
    refine c_cond S (fun h10 => ?_) (fun h10 => ?_)
    · refine c_skip ?_
      refine xtn ?_
      refine c_seq ?_
      refine c_block ?_
      refine c_seq ?_
      have hkk : k < 8 := by simp at h10; omega
      have hm : (1 : Int) ≤ (k : Int) + 1 ∧ (k : Int) + 1 ≤ 8 := by omega
      refine c_region ?_
      iterate 2 (refine sq S ?_; clear S; intro a S)
      refine sr S (state_c (freshL u n) _ _ w (foots_lt S) (S.t _)) ?_; clear S; rintro _ a w ⟨x, rfl, hx, hfx⟩ S
      replace S := S.add hfx
      rw [show (freshL u n).t = freshT u n from rfl, back_fresh hu hn hm.1 hm.2] at hx S
      simp only at hx
      clear hfx
      iterate 3 (refine sq S ?_; clear S; intro a S)
      refine sa S ?_; clear S; intro b12 a w S
      refine sw S ?_; clear S; intro a w S
      refine sq S ?_; clear S; intro a S
      refine wl_nil ?_
      refine xtn ?_
      refine c_seq ?_
      refine c_region ?_
      refine sq S ?_; clear S; intro a S
      refine sr S (key_c x _ w (foots_lt S) (S.t _)) ?_; clear S; rintro _ a w ⟨y, rfl, hy, hfy⟩ S
      replace S := S.add hfy
      rw [hx, key_fresh hu hn (by omega)] at hy S
      simp only at hy
      clear hfy
      iterate 3 (refine sq S ?_; clear S; intro a S)
      refine sa S ?_; clear S; intro b14 a w S
      refine sw S ?_; clear S; intro a w S
      refine sq S ?_; clear S; intro a S
      refine wl_nil ?_
      refine xtn ?_
      iterate 2 (refine c_seq ?_)
      refine c_region ?_
      iterate 3 (refine sq S ?_; clear S; intro a S)
      iterate 2 (refine gQ S ?_; clear S; intro a S)
      refine sq S ?_; clear S; intro a S
      refine wl_nil ?_
      refine xtn ?_
      refine c_cond S (fun h14 => ?_) (fun h14 => ?_)
      · refine c_seq ?_
        refine c_region ?_
        refine sq S ?_; clear S; intro a S
        refine wl_nil ?_
        refine xtn ?_
        refine c_ret ?_
        refine xtr ?_
        refine xbr ?_
        iterate 2 (refine xtr ?_)
        refine xbr ?_
        refine xtr ?_
        exfalso; simp at h14
      · refine c_skip ?_
        refine xtn ?_
        refine c_seq ?_
        refine c_region ?_
        iterate 2 (refine sq S ?_; clear S; intro a S)
        refine sn S ?_; clear S; intro b68 a w S
        have e1 : encL ks ++ y.cells = encL (ks ++ [y]) := by rw [encL_append, encT_cells]
        refine sap S (by simp [maxLen]; omega) (by omega) ?_; clear S; rintro p2 c2 a w - S
        rw [show encL ks ++ [Value.int .i64 y.kind, Value.int .i64 y.user, Value.int .i64 y.num, str y.text, Value.slice y.p y.kids.length y.cap] = encL (ks ++ [y]) from e1, show ks.length + 1 = (ks ++ [y]).length from by simp] at S
        refine sq S ?_; clear S; intro a S
        refine wl_nil ?_
        refine xtn ?_
        refine c_seq ?_
        refine c_region ?_
        refine sq S ?_; clear S; intro a S
        refine sn S ?_; clear S; intro b72 a w S
        refine sq S ?_; clear S; intro a S
        have hbx := S.box b72
        have hls : Stable (fun _ => False) w (LsF (some ⟨b72, 0, none⟩) 0 [s]) := fun w' hw' =>
          LsIn.of_block [s] (by rw [hw'.blk (Array.getElem?_eq_some_iff.1 hbx).1 (fun h => h)]; exact hbx) (fun x hx => by obtain rfl := List.mem_singleton.1 hx; exact S.mem.t0 x w' hw')
        have hcn := can_state hu hn hk hm
        refine sr S (can_cl [s] x (some ⟨b72, 0, none⟩) 1 w hls (S.mem.t0 x)) ?_; clear S hls hbx; rintro _ a w rfl S
        rw [show List.map LTerm.t [s] = [stT u n known] from by rw [List.map_singleton, hs], hx, hcn.1, hcn.2] at S
        iterate 5 (refine sq S ?_; clear S; intro a S)
        refine wl_nil ?_
        refine xtn ?_
        refine c_seq ?_
        refine c_region ?_
        refine sq S ?_; clear S; intro a S
        refine sn S ?_; clear S; intro b79 a w S
        refine sq S ?_; clear S; intro a S
        have hbx := S.box b79
        have hls : Stable (fun _ => False) w (LsF (some ⟨b79, 0, none⟩) 0 [s]) := fun w' hw' =>
          LsIn.of_block [s] (by rw [hw'.blk (Array.getElem?_eq_some_iff.1 hbx).1 (fun h => h)]; exact hbx) (fun x hx => by obtain rfl := List.mem_singleton.1 hx; exact S.mem.t0 x w' hw')
        have hcn := can_key hu hn hk hm
        refine sr S (can_cl [s] y (some ⟨b79, 0, none⟩) 1 w hls (S.mem.t0 y)) ?_; clear S hls hbx; rintro _ a w rfl S
        rw [show List.map LTerm.t [s] = [stT u n known] from by rw [List.map_singleton, hs], hy, hcn.1, hcn.2] at S
        iterate 5 (refine sq S ?_; clear S; intro a S)
        refine wl_nil ?_
        refine xtn ?_
        refine c_seq ?_
        refine c_region ?_
        iterate 3 (refine sq S ?_; clear S; intro a S)
        iterate 2 (refine gQ S ?_; clear S; intro a S)
        iterate 2 (refine sq S ?_; clear S; intro a S)
        iterate 5 (refine gQ S ?_; clear S; intro a S)
        iterate 2 (refine sq S ?_; clear S; intro a S)
        iterate 5 (refine gQ S ?_; clear S; intro a S)
        refine sq S ?_; clear S; intro a S
        refine wl_nil ?_
        refine xtn ?_
        refine c_cond S (fun h19 => ?_) (fun h19 => ?_)
        · refine c_seq ?_
          refine c_region ?_
          refine sq S ?_; clear S; intro a S
          refine wl_nil ?_
          refine xtn ?_
          refine c_ret ?_
          refine xbr ?_
          iterate 2 (refine xtr ?_)
          refine xbr ?_
          refine xtr ?_
          exfalso; simp at h19
        · refine c_skip ?_
          refine xbn ?_
          refine xtn ?_
          refine c_region ?_
          iterate 3 (refine sq S ?_; clear S; intro a S)
          refine wl_nil ?_
          refine xtn ?_
          rw [w64 ((k : Int) + 1 + 1) (by omega) (by omega), show (k : Int) + 1 + 1 = ((k + 1 : Nat) : Int) + 1 from by omega] at S
          replace S := S.add (Φ := AllF (ks ++ [y])) (fun w' hw' z hz => by
            rcases List.mem_append.1 hz with hz | hz
            · exact S.fact (Φ := AllF ks) (by simp) w' hw' z hz
            · obtain rfl := List.mem_singleton.1 hz; exact S.fact (Φ := LtF z) (by simp) w' hw')
          exact ⟨k + 1, ⟨p2, c2, ks ++ [y], hkk, by rw [List.map_append, List.map_singleton, hks, keyL_succ, hy], S.uu, S.sub _ _⟩, by omega⟩
    · refine c_exit ?_
      iterate 2 (refine xte ?_)
      refine xbe ?_
      refine xtn ?_
      iterate 2 (refine c_seq ?_)
      have hk9 : k = 8 := by simp at h10; omega
      subst hk9
      refine c_region ?_
      refine sq S ?_; clear S; intro a S
      refine wl_nil ?_
      refine xtn ?_
      refine c_block ?_
      refine c_loop (ι := Nat) (fun k a w => k ≤ 8 ∧ ∃ uu : Nat → Value,  St w0 (fun _ => False) [] a w (uu 0 :: uu 1 :: (.int .i64 known) :: uu 3 :: uu 4 :: uu 5 :: (.bool false) :: (.pointer (some ⟨b7, 0, none⟩)) :: (.pointer (some ⟨b8, 0, none⟩)) :: uu 9 :: (.slice p ks.length c) :: uu 11 :: uu 12 :: uu 13 :: uu 14 :: uu 15 :: uu 16 :: uu 17 :: (.int .i64 ((k : Nat) + 1 : Int)) :: uu 19 :: uu 20 :: uu 21 :: uu 22 :: uu 23 :: uu 24 :: uu 25 :: uu 26 :: uu 27 :: uu 28 :: uu 29 :: uu 30 :: uu 31 :: uu 32 :: uu 33 :: uu 34 :: uu 35 :: uu 36 :: uu 37 :: uu 38 :: uu 39 :: uu 40 :: uu 41 :: uu 42 :: uu 43 :: uu 44 :: uu 45 :: uu 46 :: uu 47 :: uu 48 :: uu 49 :: uu 50 :: uu 51 :: uu 52 :: uu 53 :: uu 54 :: uu 55 :: uu 56 :: uu 57 :: uu 58 :: uu 59 :: uu 60 :: uu 61 :: uu 62 :: uu 63 :: uu 64 :: uu 65 :: uu 66 :: uu 67 :: uu 68 :: uu 69 :: uu 70 :: uu 71 :: uu 72 :: uu 73 :: uu 74 :: uu 75 :: uu 76 :: uu 77 :: uu 78 :: uu 79 :: uu 80 :: uu 81 :: uu 82 :: uu 83 :: uu 84 :: uu 85 :: uu 86 :: uu 87 :: uu 88 :: uu 89 :: uu 90 :: uu 91 :: uu 92 :: uu 93 :: uu 94 :: uu 95 :: uu 96 :: uu 97 :: uu 98 :: uu 99 :: uu 100 :: uu 101 :: uu 102 :: uu 103 :: uu 104 :: uu 105 :: uu 106 :: uu 107 :: uu 108 :: uu 109 :: uu 110 :: uu 111 :: uu 112 :: uu 113 :: uu 114 :: uu 115 :: uu 116 :: uu 117 :: uu 118 :: uu 119 :: uu 120 :: uu 121 :: uu 122 :: uu 123 :: uu 124 :: []) [Wk.row 24 5 p ks.length c (encL ks), Wk.box b8 24 s.cells, Wk.box b7 24 (freshL u n).cells] [AllF ks, LtF s]) (fun k => 8 - k) 0 ?_ ?_
      · exact ⟨by omega, S.uu, S⟩
      · clear S
        rintro k a w ⟨hk8, uu, S⟩
        iterate 2 (refine c_seq ?_)
        refine c_region ?_
        iterate 2 (refine sq S ?_; clear S; intro a S)
        refine wl_nil ?_
        refine xtn ?_
        refine c_cond S (fun h22 => ?_) (fun h22 => ?_)
        · refine c_skip ?_
          refine xtn ?_
          refine c_seq ?_
          refine c_block ?_
          refine c_seq ?_
          have hkk : k < 8 := by simp at h22; omega
          have hm : (1 : Int) ≤ (k : Int) + 1 ∧ (k : Int) + 1 ≤ 8 := by omega
          refine c_region ?_
          iterate 2 (refine sq S ?_; clear S; intro a S)
          refine sr S (state_c (freshL u n) _ _ w (foots_lt S) (S.t _)) ?_; clear S; rintro _ a w ⟨x, rfl, hx, hfx⟩ S
          replace S := S.add hfx
          rw [show (freshL u n).t = freshT u n from rfl, back_fresh hu hn hm.1 hm.2] at hx S
          simp only at hx
          clear hfx
          iterate 3 (refine sq S ?_; clear S; intro a S)
          refine sa S ?_; clear S; intro b19 a w S
          refine sw S ?_; clear S; intro a w S
          refine sq S ?_; clear S; intro a S
          refine wl_nil ?_
          refine xtn ?_
          refine c_seq ?_
          refine c_region ?_
          iterate 2 (refine sq S ?_; clear S; intro a S)
          have hls : Stable (fun _ => False) w (LsF p 0 ks) := ls_of_own (S.row p ks.length) (fun z hz => (S.mem.fact0 (AllF ks)).imp fun w h => h z hz) (fun _ _ h => h)
          have hcn := can_keys hu hn hm
          refine sr S (can_cl ks x p c w hls (S.mem.t0 x)) ?_; clear S hls; rintro _ a w rfl S
          rw [hks, hx, hcn.1, hcn.2] at S
          iterate 5 (refine sq S ?_; clear S; intro a S)
          refine wl_nil ?_
          refine xtn ?_
          refine c_seq ?_
          refine c_region ?_
          iterate 3 (refine sq S ?_; clear S; intro a S)
          refine gQ S ?_; clear S; intro a S
          refine sq S ?_; clear S; intro a S
          refine wl_nil ?_
          refine xtn ?_
          refine c_cond S (fun h26 => ?_) (fun h26 => ?_)
          · refine c_seq ?_
            refine c_region ?_
            refine sq S ?_; clear S; intro a S
            refine wl_nil ?_
            refine xtn ?_
            refine c_ret ?_
            refine xbr ?_
            iterate 2 (refine xtr ?_)
            refine xbr ?_
            refine xtr ?_
            exfalso; simp at h26
          · refine c_skip ?_
            refine xbn ?_
            refine xtn ?_
            refine c_region ?_
            iterate 3 (refine sq S ?_; clear S; intro a S)
            refine wl_nil ?_
            refine xtn ?_
            rw [w64 ((k : Int) + 1 + 1) (by omega) (by omega), show (k : Int) + 1 + 1 = ((k + 1 : Nat) : Int) + 1 from by omega] at S
            exact ⟨k + 1, ⟨hkk, S.uu, S.sub _ _⟩, by omega⟩
        · refine c_exit ?_
          iterate 2 (refine xte ?_)
          refine xbe ?_
          refine xtn ?_
          refine c_seq ?_
          refine c_region ?_
          refine sq S ?_; clear S; intro a S
          refine wl_nil ?_
          refine xtn ?_
          refine c_ret ?_
          exact end1 S (fun _ => rfl)
end Go.Proofs.Ytkpfhdojkffflaa
