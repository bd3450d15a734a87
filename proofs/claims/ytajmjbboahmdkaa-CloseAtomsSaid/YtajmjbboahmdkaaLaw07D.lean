/- The law CloseKeeps. -/
import Derived.Test.YtajmjbboahmdkaaLaw07C
import Derived.Test.YtajmjbboahmdkaaW5
namespace Go.Proofs.Ytajmjbboahmdkaa
open Go Go.Wk
set_option synthInstance.maxSize 100000
set_option synthInstance.maxHeartbeats 400000
set_option maxRecDepth 100000

theorem mod6' (x : Int) : 1 ≤ (max x 0).tmod 6 + 1 ∧ (max x 0).tmod 6 + 1 ≤ 6 := by
  rw [Int.tmod_eq_emod_of_nonneg (by omega)]; omega
theorem mod64' (x : Int) : 0 ≤ (max x 0).tmod 65536 ∧ (max x 0).tmod 65536 ≤ 65535 := by
  rw [Int.tmod_eq_emod_of_nonneg (by omega)]; omega
theorem occ_iff {a : Term} {t : LTerm} : Occ a t.t ↔ a = t.t ∨ ∃ y ∈ t.kids, Occ a y.t := by
  constructor
  · intro h
    rw [t.t_eq] at h ⊢
    cases h with
    | here => exact .inl rfl
    | kid ht h => obtain ⟨y, hy, rfl⟩ := List.mem_map.1 ht; exact .inr ⟨y, hy, h⟩
  · rintro (h | ⟨y, hy, h⟩)
    · rw [← h]; exact .here
    · rw [t.t_eq]; exact .kid (List.mem_map.2 ⟨y, hy, rfl⟩) h
theorem occurs_c0 (N : Nat) : ∀ (x t : LTerm) (w0 : World), SizeOf.sizeOf t < N → Stable (fun _ => False) w0 (LtF x) → Stable (fun _ => False) w0 (LtF t) → Ret Try.prog 34 [vL x, vL t] w0 (fun _ => False) fun v _ => ∃ b, v = .bool b ∧ (b = true ↔ Occ x.t t.t) := by
  induction N with
  | zero => intro _ t _ h; exact absurd h (Nat.not_lt_zero _)
  | succ N ih =>
  intro x t w0 hN hx hf
  have hlen := LTerm.len_le hf
  refine enter Try.func34 rfl rfl (Wd.begin (fs := [LtF x, LtF t]) (by simp; exact ⟨hx, hf⟩)) (fun a S => ?_)
  simp only [Try.ntmps34, List.length_cons, List.length_nil, Nat.reduceAdd, Nat.reduceSub, List.replicate_succ, List.replicate_zero, List.cons_append, List.nil_append] at S
  refine c_seq ?_
  refine c_region ?_
  refine sa S ?_; clear S; intro b2 a w S
  refine sa S ?_; clear S; intro b3 a w S
  refine sq S ?_; clear S; intro a S
  refine wl_nil ?_
  refine xtn ?_
  iterate 2 (refine c_seq ?_)
  refine c_region ?_
  iterate 2 (refine sq S ?_; clear S; intro a S)
  refine sc S ?_; clear S; intro a w S
  refine wl_nil ?_
  refine xtn ?_
  refine c_cond S (fun h1 => ?_) (fun h1 => ?_)
  · refine c_seq ?_
    refine c_region ?_
    refine sq S ?_; clear S; intro a S
    refine wl_nil ?_
    refine xtn ?_
    refine c_ret ?_
    refine xtr ?_
    refine end1 S (fun _ => ⟨_, rfl, fun _ => ?_, fun _ => rfl⟩)
    have h2 : sameF x.t t.t = true := by simpa using h1
    rw [(sameF_iff _ _).1 h2]; exact .here
  · refine c_skip ?_
    refine xtn ?_
    iterate 2 (refine c_seq ?_)
    refine c_region ?_
    iterate 4 (refine sq S ?_; clear S; intro a S)
    refine wl_nil ?_
    refine xtn ?_
    refine c_block ?_
    have hne : x.t ≠ t.t := fun h => by
      rw [(sameF_iff _ _).2 h] at h1; simp at h1
    refine c_loop (ι := Nat) (fun k a w => k ≤ t.kids.length ∧ (∀ y ∈ t.kids.take k, ¬ Occ x.t y.t) ∧ ∃ uu : Nat → Value,  St w0 (fun _ => False) [] a w (uu 0 :: uu 1 :: (.pointer (some ⟨b2, 0, none⟩)) :: (.pointer (some ⟨b3, 0, none⟩)) :: uu 4 :: uu 5 :: uu 6 :: uu 7 :: uu 8 :: uu 9 :: uu 10 :: (.slice t.p t.kids.length t.cap) :: (.int .i64 t.kids.length) :: (.int .i64 (k : Nat)) :: uu 14 :: uu 15 :: uu 16 :: uu 17 :: uu 18 :: uu 19 :: uu 20 :: []) [Wk.box b3 37 t.cells, Wk.box b2 37 x.cells] [LtF x, LtF t]) (fun k => t.kids.length - k) 0 ?_ ?_
    · exact ⟨Nat.zero_le _, by simp, S.uu, S⟩
    · clear S
      rintro k a w ⟨hk, hno, uu, S⟩
      refine c_seq ?_
      refine c_region ?_
      refine sq S ?_; clear S; intro a S
      refine wl_nil ?_
      refine xtn ?_
      refine c_seq ?_
      refine c_cond S (fun h4 => ?_) (fun h4 => ?_)
      · refine c_skip ?_
        refine xtn ?_
        refine c_seq ?_
        refine c_block ?_
        refine c_seq ?_
        have hkl : k < t.kids.length := by simp at h4; omega
        have hK : KLt k t.kids.length := ⟨hkl⟩
        refine c_region ?_
        iterate 2 (refine sq S ?_; clear S; intro a S)
        refine sa S ?_; clear S; intro b6 a w S
        refine sw S ?_; clear S; intro a w S
        refine wl_nil ?_
        refine xtn ?_
        refine c_seq ?_
        refine c_region ?_
        iterate 2 (refine sq S ?_; clear S; intro a S)
        refine sr S (ih x (nthL t.kids k) w (by have := LTerm.kid_lt (nth_mem hkl); omega) (S.t0 _) (S.t0 _)) ?_; clear S; rintro _ a w ⟨b, rfl, hb⟩ S
        refine wl_nil ?_
        refine xtn ?_
        refine c_cond S (fun h6 => ?_) (fun h6 => ?_)
        · refine c_seq ?_
          refine c_region ?_
          refine sq S ?_; clear S; intro a S
          refine wl_nil ?_
          refine xtn ?_
          refine c_ret ?_
          refine xbr ?_
          iterate 2 (refine xtr ?_)
          refine xbr ?_
          refine xtr ?_
          refine end1 S (fun _ => ⟨_, rfl, fun _ => ?_, fun _ => rfl⟩)
          exact occ_iff.2 (.inr ⟨_, nth_mem hkl, hb.1 (by simpa using h6)⟩)
        · refine c_skip ?_
          refine xbn ?_
          refine xtn ?_
          refine c_region ?_
          iterate 2 (refine sq S ?_; clear S; intro a S)
          refine wl_nil ?_
          refine xtn ?_
          rw [w64 ((k : Int) + 1) (by omega) (by omega)] at S
          refine ⟨k + 1, ⟨hkl, fun y hy => ?_, S.uu, S.sub _ _⟩, by omega⟩
          rw [List.take_add_one, nth_get hkl] at hy
          rcases List.mem_append.1 hy with hy | hy
          · exact hno y hy
          · have : y = nthL t.kids k := by simpa using hy
            rw [this]
            exact fun h => absurd (hb.2 h) (by simpa using h6)
      · refine c_exit ?_
        iterate 2 (refine xte ?_)
        refine xbe ?_
        refine xtn ?_
        refine c_seq ?_
        refine c_region ?_
        refine sq S ?_; clear S; intro a S
        refine wl_nil ?_
        refine xtn ?_
        refine c_ret ?_
        refine end1 S (fun _ => ⟨false, rfl, ⟨nofun, fun h => ?_⟩⟩)
        rw [List.take_of_length_le (by simp at h4; omega)] at hno
        rcases occ_iff.1 h with h | ⟨y, hy, h⟩
        · exact absurd h hne
        · exact absurd h (hno y hy)
theorem occurs_c (x t : LTerm) (w0 : World) (hx : Stable (fun _ => False) w0 (LtF x)) (ht : Stable (fun _ => False) w0 (LtF t)) : Ret Try.prog 34 [vL x, vL t] w0 (fun _ => False) fun v _ => ∃ b, v = .bool b ∧ (b = true ↔ Occ x.t t.t) := occurs_c0 _ x t w0 (Nat.lt_succ_self _) hx ht
abbrev sealL (u : Int) (p : Option Addr) (t : LTerm) : LTerm := .mk 7 u 0 [] p 1 [t]
theorem seal_c (u : Int) (t : LTerm) (M : Nat → Prop) (w0 : World) (hM : ∀ k, M k → k < w0.heap.size) (hf : Stable M w0 (LtF t)) : Ret Try.prog 37 [.int .i64 u, vL t] w0 (fun _ => False) fun v w' => IsT M w' v (.mk 7 u 0 [] [t.t]) := by
  refine enter Try.func37 rfl rfl (Wd.beginM (M := M) (fs := [LtF t]) hM (by simpa using hf)) (fun a S => ?_)
  simp only [Try.ntmps37, List.length_cons, List.length_nil, Nat.reduceAdd, Nat.reduceSub, List.replicate_succ, List.replicate_zero, List.cons_append, List.nil_append] at S
  refine c_seq ?_
  refine c_region ?_
  refine sa S ?_; clear S; intro b3 a w S
  refine sa S ?_; clear S; intro b4 a w S
  refine wl_nil ?_
  refine xtn ?_
  refine c_seq ?_
  refine c_region ?_
  refine sq S ?_; clear S; intro a S
  refine sn S ?_; clear S; intro b7 a w S
  refine sc S ?_; clear S; intro a w S
  refine sa S ?_; clear S; intro b5 a w S
  refine sw S ?_; clear S; intro a w S
  refine wl_nil ?_
  refine xtn ?_
  refine c_seq ?_
  refine c_region ?_
  iterate 2 (refine sq S ?_; clear S; intro a S)
  refine sw S ?_; clear S; intro a w S
  refine wl_nil ?_
  refine xtn ?_
  refine c_seq ?_
  refine c_region ?_
  refine sq S ?_; clear S; intro a S
  refine sw S ?_; clear S; intro a w S
  refine wl_nil ?_
  refine xtn ?_
  refine c_ret ?_
  refine end1 S (fun _ => ?_)
  refine ⟨sealL u (some ⟨b7, 0, none⟩) t, rfl, rfl, fun w' hw' => ?_⟩
  have h1 := S.laterFact (Φ := LtF t) (by simp) w' hw'
  exact ⟨by simp, by simp [maxLen], LsIn.of_block [t] (S.laterBox hw' b7) (fun x hx => by obtain rfl := List.mem_singleton.1 hx; exact h1)⟩
theorem keeps_c (xs : List LTerm) (key : LTerm) (num : Int) (p : Option Addr) (c : Nat) (w0 : World) (hx : Stable (fun _ => False) w0 (LsF p 0 xs)) (ht : Stable (fun _ => False) w0 (LtF key)) :
    Ret Try.prog 8 [.slice p xs.length c, vL key, .int .i64 num] w0 (fun _ => False) fun v _ => v = .bool true := by
  refine enter Try.func8 rfl rfl (Wd.begin (fs := [LsF p 0 xs, LtF key]) (by simp; exact ⟨hx, ht⟩)) (fun a S => ?_)
  simp only [Try.ntmps8, List.length_cons, List.length_nil, Nat.reduceAdd, Nat.reduceSub, List.replicate_succ, List.replicate_zero, List.cons_append, List.nil_append] at S
  refine c_seq ?_
  refine c_region ?_
  refine sa S ?_; clear S; intro b4 a w S
  refine sq S ?_; clear S; intro a S
  refine wl_nil ?_
  refine xtn ?_
  iterate 2 (refine c_seq ?_)
  refine c_region ?_
  refine sr S (wakes7_c w) ?_; clear S; rintro _ a w rfl S
  refine sq S ?_; clear S; intro a S
  rw [show (!true) = false from rfl] at S
  refine wl_nil ?_
  refine xtn ?_
  refine c_condF S ?_
  refine c_skip ?_
  refine xtn ?_
  refine c_seq ?_
  refine c_region ?_
  iterate 4 (refine sq S ?_; clear S; intro a S)
  have hn := mod64' num
  generalize (max num 0).tmod 65536 = n at S hn
  refine wl_nil ?_
  refine xtn ?_
  iterate 2 (refine c_seq ?_)
  refine c_region ?_
  refine sq S ?_; clear S; intro a S
  refine sr S (fine_c xs p c w (S.mem.fact0 (LsF p 0 xs))) ?_; clear S; rintro _ a w ⟨f1, rfl, hf1⟩ S
  iterate 2 (refine sq S ?_; clear S; intro a S)
  refine gS S (fun hs1 S => ?_) (fun hs1 S => ?_)
  · refine gF' S ?_; clear S; intro a S
    iterate 3 (refine gF' S ?_; clear S; intro a S)
    refine sq S ?_; clear S; intro a S
    refine wl_nil ?_
    refine xtn ?_
    refine c_condT S ?_
    refine c_seq ?_
    refine c_region ?_
    refine sq S ?_; clear S; intro a S
    refine wl_nil ?_
    refine xtn ?_
    refine c_ret ?_
    refine xtr ?_
    exact end1 S (fun _ => rfl)
  · refine gT' S ?_
    refine sq S ?_; clear S; intro a S
    refine gT' S ?_
    refine sn S ?_; clear S; intro b28 a w S
    refine gT' S ?_
    have hls := ls_box (ts := [key]) (S.box b28) (fun x hx => by obtain rfl := List.mem_singleton.1 hx; exact S.mem.t0 x)
    refine sr S (fine_c [key] (some ⟨b28, 0, none⟩) 1 w hls) ?_; clear S hls; rintro _ a w ⟨f3, rfl, hf3⟩ S
    refine gT' S ?_
    iterate 2 (refine sq S ?_; clear S; intro a S)
    refine wl_nil ?_
    refine xtn ?_
    refine c_cond S (fun h4 => ?_) (fun h4 => ?_)
    · refine c_seq ?_
      refine c_region ?_
      refine sq S ?_; clear S; intro a S
      refine wl_nil ?_
      refine xtn ?_
      refine c_ret ?_
      refine xtr ?_
      exact end1 S (fun _ => rfl)
    · refine c_skip ?_
      refine xtn ?_
      refine c_seq ?_
      obtain ⟨hlx, hgx, htx⟩ := hf1 (by simpa using hs1)
      obtain ⟨-, hgk, htk⟩ := hf3 (by simpa using h4)
      have hgk := hgk key (by simp)
      have htk := htk key (by simp)
      have hgK := good_map hgx
      have hga : Good (freshL 6 n).t := good_fresh (by omega) hn
      refine c_region ?_
      refine sq S ?_; clear S; intro a S
      refine sc S ?_; clear S; intro a w S
      refine sa S ?_; clear S; intro b7 a w S
      refine sw S ?_; clear S; intro a w S
      refine wl_nil ?_
      refine xtn ?_
      iterate 2 (refine c_seq ?_)
      refine c_region ?_
      iterate 2 (refine sq S ?_; clear S; intro a S)
      refine sr S (occurs_c (freshL 6 n) key w (S.mem.t0 _) (S.mem.t0 _)) ?_; clear S; rintro _ a w ⟨o1, rfl, ho1⟩ S
      refine wl_nil ?_
      refine xtn ?_
      refine c_cond S (fun h7 => ?_) (fun h7 => ?_)
      · refine c_seq ?_
        refine c_region ?_
        refine sq S ?_; clear S; intro a S
        refine wl_nil ?_
        refine xtn ?_
        refine c_ret ?_
        refine xtr ?_
        exact end1 S (fun _ => rfl)
      · refine c_skip ?_
        refine xtn ?_
        iterate 2 (refine c_seq ?_)
        refine c_region ?_
        iterate 3 (refine sq S ?_; clear S; intro a S)
        refine wl_nil ?_
        refine xtn ?_
        refine c_block ?_
        have hok : ¬ Occ (freshL 6 n).t key.t := fun h => by rw [ho1.2 h] at h7; simp at h7
        refine c_loop (ι := Nat) (fun k a w => k ≤ xs.length ∧ (∀ x ∈ xs.take k, ¬ Occ (freshL 6 n).t x.t) ∧ ∃ uu : Nat → Value,  St w0 (fun _ => False) [] a w ((.slice p xs.length c) :: uu 1 :: (.int .i64 n) :: uu 3 :: (.pointer (some ⟨b4, 0, none⟩)) :: uu 5 :: (.bool false) :: (.pointer (some ⟨b7, 0, none⟩)) :: uu 8 :: uu 9 :: uu 10 :: uu 11 :: uu 12 :: uu 13 :: uu 14 :: uu 15 :: uu 16 :: uu 17 :: uu 18 :: uu 19 :: uu 20 :: uu 21 :: uu 22 :: uu 23 :: uu 24 :: uu 25 :: uu 26 :: uu 27 :: uu 28 :: uu 29 :: uu 30 :: uu 31 :: uu 32 :: uu 33 :: uu 34 :: uu 35 :: uu 36 :: (.slice p xs.length c) :: (.int .i64 xs.length) :: (.int .i64 (k : Nat)) :: uu 40 :: uu 41 :: uu 42 :: uu 43 :: uu 44 :: uu 45 :: uu 46 :: uu 47 :: uu 48 :: uu 49 :: uu 50 :: uu 51 :: uu 52 :: uu 53 :: uu 54 :: uu 55 :: uu 56 :: uu 57 :: uu 58 :: uu 59 :: uu 60 :: uu 61 :: uu 62 :: uu 63 :: uu 64 :: uu 65 :: uu 66 :: uu 67 :: uu 68 :: uu 69 :: uu 70 :: uu 71 :: uu 72 :: uu 73 :: uu 74 :: uu 75 :: uu 76 :: uu 77 :: uu 78 :: uu 79 :: uu 80 :: uu 81 :: uu 82 :: uu 83 :: uu 84 :: uu 85 :: uu 86 :: uu 87 :: uu 88 :: uu 89 :: uu 90 :: uu 91 :: uu 92 :: uu 93 :: uu 94 :: uu 95 :: uu 96 :: uu 97 :: uu 98 :: uu 99 :: uu 100 :: uu 101 :: uu 102 :: uu 103 :: uu 104 :: uu 105 :: uu 106 :: uu 107 :: uu 108 :: []) [Wk.box b7 37 (freshL 6 n).cells, Wk.box b4 37 key.cells] [LsF p 0 xs, LtF key]) (fun k => xs.length - k) 0 ?_ ?_
        · exact ⟨Nat.zero_le _, by simp, S.uu, S.sub _ _⟩
        · clear S
          rintro k a w ⟨hk, hno, uu, S⟩
          refine c_seq ?_
          refine c_region ?_
          refine sq S ?_; clear S; intro a S
          refine wl_nil ?_
          refine xtn ?_
          refine c_seq ?_
          refine c_cond S (fun h10 => ?_) (fun h10 => ?_)
          · refine c_skip ?_
            refine xtn ?_
            refine c_seq ?_
            refine c_block ?_
            refine c_seq ?_
            have hkl : k < xs.length := by simp at h10; omega
            have hK : KLt k xs.length := ⟨hkl⟩
            refine c_region ?_
            iterate 2 (refine sq S ?_; clear S; intro a S)
            refine sa S ?_; clear S; intro b9 a w S
            refine sw S ?_; clear S; intro a w S
            refine wl_nil ?_
            refine xtn ?_
            refine c_seq ?_
            refine c_region ?_
            iterate 2 (refine sq S ?_; clear S; intro a S)
            refine sr S (occurs_c (freshL 6 n) (nthL xs k) w (S.mem.t0 _) (S.mem.t0 _)) ?_; clear S; rintro _ a w ⟨o2, rfl, ho2⟩ S
            refine wl_nil ?_
            refine xtn ?_
            refine c_cond S (fun h12 => ?_) (fun h12 => ?_)
            · refine c_seq ?_
              refine c_region ?_
              refine sq S ?_; clear S; intro a S
              refine wl_nil ?_
              refine xtn ?_
              refine c_ret ?_
              refine xbr ?_
              iterate 2 (refine xtr ?_)
              refine xbr ?_
              refine xtr ?_
              exact end1 S (fun _ => rfl)
            · refine c_skip ?_
              refine xbn ?_
              refine xtn ?_
              refine c_region ?_
              iterate 2 (refine sq S ?_; clear S; intro a S)
              refine wl_nil ?_
              refine xtn ?_
              rw [w64 ((k : Int) + 1) (by omega) (by omega)] at S
              refine ⟨k + 1, ⟨hkl, fun y hy => ?_, S.uu, S.sub _ _⟩, by omega⟩
              rw [List.take_add_one, nth_get hkl] at hy
              rcases List.mem_append.1 hy with hy | hy
              · exact hno y hy
              · have : y = nthL xs k := by simpa using hy
                rw [this]
                exact fun h => absurd (ho2.2 h) (by simpa using h12)
          · refine c_exit ?_
            iterate 2 (refine xte ?_)
            refine xbe ?_
            refine xtn ?_
            refine c_seq ?_
            rw [List.take_of_length_le (by simp at h10; omega)] at hno
            have hKo : ∀ t ∈ xs.map LTerm.t, Good t ∧ ¬ Occ (.mk 2 6 n [] []) t := fun t ht => by
              obtain ⟨x, hx, rfl⟩ := List.mem_map.1 ht
              exact ⟨hgx x hx, hno x hx⟩
            refine c_region ?_
            iterate 2 (refine sq S ?_; clear S; intro a S)
            have hz := can_der0 (by simp; omega) hgK hgk
            refine sr S (can_cl xs key p c w (S.mem.fact0 (LsF p 0 xs)) (S.mem.t0 key)) ?_; clear S; rintro _ a w rfl S
            rw [hz.1, hz.2] at S
            iterate 5 (refine sq S ?_; clear S; intro a S)
            refine wl_nil ?_
            refine xtn ?_
            refine c_seq ?_
            refine c_region ?_
            refine sq S ?_; clear S; intro a S
            refine sc S ?_; clear S; intro a w S
            have hz2 := can_der0 (t := (secretL 1).t) (by simp; omega) hgK (good_secret (by omega))
            refine sr S (can_cl xs (secretL 1) p c w (S.mem.fact0 (LsF p 0 xs)) (S.mem.t0 _)) ?_; clear S; rintro _ a w rfl S
            rw [hz2.1, hz2.2] at S
            iterate 5 (refine sq S ?_; clear S; intro a S)
            refine wl_nil ?_
            refine xtn ?_
            iterate 2 (refine c_seq ?_)
            refine c_region ?_
            iterate 3 (refine sq S ?_; clear S; intro a S)
            iterate 2 (refine gQ S ?_; clear S; intro a S)
            refine sq S ?_; clear S; intro a S
            refine wl_nil ?_
            refine xtn ?_
            refine c_cond S (fun h17 => ?_) (fun h17 => ?_)
            · refine c_seq ?_
              refine c_region ?_
              refine sq S ?_; clear S; intro a S
              refine wl_nil ?_
              refine xtn ?_
              refine c_ret ?_
              refine xtr ?_
              exfalso
              simp at h17
            · refine c_skip ?_
              refine xtn ?_
              iterate 2 (refine c_seq ?_)
              refine c_drawE [(0, true), (1, true), (3, true), (5, true), (9, true), (2, false), (4, false), (6, false), (7, false), (8, true)] [Wk.box b7 37 (freshL 6 n).cells, Wk.box b4 37 key.cells] S ?_; clear S; intro w S
              iterate 5 (refine dq S ?_; clear S; intro a S)
              refine dl ?_
              refine sr S (lock_c key (freshL 6 n) _ w (foots_lt S) (S.t _) (S.t _)) ?_; clear S; rintro _ a w ⟨r1, rfl, hr1, hf1'⟩ S
              replace S := S.add hf1'
              refine de S ?_
              refine dl ?_
              refine sr S (seal_c 1 (freshL 6 n) _ w (foots_lt S) (S.t _)) ?_; clear S; rintro _ a w ⟨r2, rfl, hr2, hf2'⟩ S
              replace S := S.add hf2'
              refine de S ?_
              refine dl ?_
              refine sr S (hash_c (freshL 6 n) _ w (foots_lt S) (S.t _)) ?_; clear S; rintro _ a w ⟨r3, rfl, hr3, hf3'⟩ S
              replace S := S.add hf3'
              refine de S ?_
              refine dl ?_
              refine sn S ?_; clear S; intro b72 a w S
              refine de S ?_
              refine dq S ?_; clear S; intro a S
              refine dn ?_
              refine xtn ?_
              refine c_block ?_
              obtain ⟨rs, hrs⟩ : ∃ rs, rs = [r1, r2, r3] := ⟨_, rfl⟩
              have hN3 : LenN rs 3 := ⟨by rw [hrs]; rfl⟩
              have hl3 : rs.length = 3 := by rw [hrs]; rfl
              replace S := S.boxLs rs (by rw [hrs]; simp) (fun x hx => by
                rw [hrs] at hx
                simp only [List.mem_cons, List.not_mem_nil, or_false] at hx
                rcases hx with rfl | rfl | rfl <;> exact S.t _)
              obtain ⟨q72, hq72⟩ : ∃ q : Option Addr, q = some ⟨b72, 0, none⟩ := ⟨_, rfl⟩
              rw [← hq72] at S
              refine c_loop (ι := Nat) (fun k a w => k ≤ 3 ∧ ∃ uu : Nat → Value,  St w0 (fun _ => False) [] a w ((.slice p xs.length c) :: uu 1 :: uu 2 :: uu 3 :: (.pointer (some ⟨b4, 0, none⟩)) :: uu 5 :: uu 6 :: (.pointer (some ⟨b7, 0, none⟩)) :: uu 8 :: uu 9 :: (.bool (derB (xs.map LTerm.t) key.t)) :: uu 11 :: (.bool (derB (xs.map LTerm.t) (secretT 1))) :: uu 13 :: uu 14 :: uu 15 :: uu 16 :: uu 17 :: uu 18 :: uu 19 :: uu 20 :: uu 21 :: uu 22 :: uu 23 :: uu 24 :: uu 25 :: uu 26 :: uu 27 :: uu 28 :: uu 29 :: uu 30 :: uu 31 :: uu 32 :: uu 33 :: uu 34 :: uu 35 :: uu 36 :: uu 37 :: uu 38 :: uu 39 :: uu 40 :: uu 41 :: uu 42 :: uu 43 :: uu 44 :: uu 45 :: uu 46 :: uu 47 :: uu 48 :: uu 49 :: uu 50 :: uu 51 :: uu 52 :: uu 53 :: uu 54 :: uu 55 :: uu 56 :: uu 57 :: uu 58 :: uu 59 :: uu 60 :: uu 61 :: uu 62 :: uu 63 :: uu 64 :: uu 65 :: uu 66 :: uu 67 :: uu 68 :: uu 69 :: uu 70 :: uu 71 :: (.slice q72 3 3) :: (.int .i64 3) :: (.int .i64 (k : Nat)) :: uu 75 :: uu 76 :: uu 77 :: uu 78 :: uu 79 :: uu 80 :: uu 81 :: uu 82 :: uu 83 :: uu 84 :: uu 85 :: uu 86 :: uu 87 :: uu 88 :: uu 89 :: uu 90 :: uu 91 :: uu 92 :: uu 93 :: uu 94 :: uu 95 :: uu 96 :: uu 97 :: uu 98 :: uu 99 :: uu 100 :: uu 101 :: uu 102 :: uu 103 :: uu 104 :: uu 105 :: uu 106 :: uu 107 :: uu 108 :: []) [Wk.box b7 37 (freshL 6 n).cells, Wk.box b4 37 key.cells] [LsF q72 0 rs, LsF p 0 xs, LtF key]) (fun k => 3 - k) 0 ?_ ?_
              · exact ⟨Nat.zero_le _, S.uu, S.sub _ _⟩
              · clear S
                rintro k a w ⟨hk, uu, S⟩
                refine c_seq ?_
                refine c_region ?_
                refine sq S ?_; clear S; intro a S
                refine wl_nil ?_
                refine xtn ?_
                refine c_seq ?_
                refine c_cond S (fun h20 => ?_) (fun h20 => ?_)
                · refine c_skip ?_
                  refine xtn ?_
                  refine c_seq ?_
                  refine c_block ?_
                  refine c_seq ?_
                  have hkl : k < 3 := by simp at h20; omega
                  have hK : KLt k 3 := ⟨hkl⟩
                  have hK' : KLt k rs.length := ⟨by omega⟩
                  obtain ⟨x, hxd⟩ : ∃ x, x = nthL rs k := ⟨_, rfl⟩
                  have hx3 : (k = 0 ∧ x = r1) ∨ (k = 1 ∧ x = r2) ∨ (k = 2 ∧ x = r3) := by
                    rw [hxd, hrs]
                    obtain rfl | rfl | rfl : k = 0 ∨ k = 1 ∨ k = 2 := by omega
                    · exact .inl ⟨rfl, rfl⟩
                    · exact .inr (.inl ⟨rfl, rfl⟩)
                    · exact .inr (.inr ⟨rfl, rfl⟩)
                  have hca : cnt (freshL 6 n).t = 1 := rfl
                  have hda : dpt (freshL 6 n).t = 1 := rfl
                  have hgxx : Good x.t := by
                    rcases hx3 with ⟨_, rfl⟩ | ⟨_, rfl⟩ | ⟨_, rfl⟩
                    · rw [hr1]; exact good_lock hgk hga (by have := htk.1; omega) (by have := htk.2; omega) (by omega)
                    · rw [hr2]; exact good_seal (by omega) hga (by omega) (by omega)
                    · rw [hr3]; exact good_hash hga (by omega) (by omega)
                  refine c_region ?_
                  iterate 3 (refine sq S ?_; clear S; intro a S)
                  refine sa S ?_; clear S; intro b15 a w S
                  refine sq S ?_; clear S; intro a S
                  refine sw S ?_; clear S; intro a w S
                  refine wl_nil ?_
                  refine xtn ?_
                  refine c_seq ?_
                  refine c_drawT (.q 1 (.q 3 (.q 6 (.b2 0 4 (.b2 2 4 (.l 4 (.l 5 (.l 7 (.q 8 (.q 9 (.q 10 (.q 11 (.q 12 (.e))))))))) (.l 2 (.l 5 (.l 7 (.q 8 (.q 9 (.q 10 (.q 11 (.q 12 (.e)))))))))) (.l 0 (.l 2 (.l 5 (.l 7 (.q 8 (.q 9 (.q 10 (.q 11 (.q 12 (.e)))))))))))))) [Wk.box b15 37 (nthL rs k).cells, Wk.box b7 37 (freshL 6 n).cells] S
                    (fun a w => ∃ uu : Nat → Value,  St w0 (fun _ => False) [] a w ((.slice p xs.length c) :: uu 1 :: uu 2 :: uu 3 :: (.pointer (some ⟨b4, 0, none⟩)) :: uu 5 :: uu 6 :: (.pointer (some ⟨b7, 0, none⟩)) :: uu 8 :: uu 9 :: (.bool (derB (xs.map LTerm.t) key.t)) :: uu 11 :: (.bool (derB (xs.map LTerm.t) (secretT 1))) :: uu 13 :: (.int .i64 (k : Nat)) :: uu 15 :: (.bool (derB (xs.map LTerm.t ++ [(nthL rs k).t]) (freshL 6 n).t)) :: (.int .i64 0) :: uu 18 :: uu 19 :: uu 20 :: uu 21 :: uu 22 :: uu 23 :: uu 24 :: uu 25 :: uu 26 :: uu 27 :: uu 28 :: uu 29 :: uu 30 :: uu 31 :: uu 32 :: uu 33 :: uu 34 :: uu 35 :: uu 36 :: uu 37 :: uu 38 :: uu 39 :: uu 40 :: uu 41 :: uu 42 :: uu 43 :: uu 44 :: uu 45 :: uu 46 :: uu 47 :: uu 48 :: uu 49 :: uu 50 :: uu 51 :: uu 52 :: uu 53 :: uu 54 :: uu 55 :: uu 56 :: uu 57 :: uu 58 :: uu 59 :: uu 60 :: uu 61 :: uu 62 :: uu 63 :: uu 64 :: uu 65 :: uu 66 :: uu 67 :: uu 68 :: uu 69 :: uu 70 :: uu 71 :: (.slice q72 3 3) :: (.int .i64 3) :: (.int .i64 (k : Nat)) :: uu 75 :: uu 76 :: uu 77 :: uu 78 :: uu 79 :: uu 80 :: uu 81 :: uu 82 :: uu 83 :: uu 84 :: uu 85 :: uu 86 :: uu 87 :: uu 88 :: uu 89 :: uu 90 :: uu 91 :: uu 92 :: uu 93 :: uu 94 :: uu 95 :: uu 96 :: uu 97 :: uu 98 :: uu 99 :: uu 100 :: uu 101 :: uu 102 :: uu 103 :: uu 104 :: uu 105 :: uu 106 :: uu 107 :: uu 108 :: []) [Wk.box b7 37 (freshL 6 n).cells, Wk.box b4 37 key.cells] [LsF q72 0 rs, LsF p 0 xs, LtF key]) ?_ ?_
                  · intro w S
                    iterate 3 (refine tq S ?_; clear S; intro a S)
                    refine tb2 ?_ ?_
                    · refine sn S ?_; clear S; intro b80 a w S
                      refine te S ?_
                      refine tb2 ?_ ?_
                      · replace S := S.boxRow b80 5 0 rfl (by omega)
                        refine sap S (by simp [maxLen]; omega) (by omega) ?_; clear S; rintro p82 c82 a w - S
                        rw [List.nil_append, Nat.zero_add] at S
                        refine te S ?_
                        refine tl ?_
                        refine sn S ?_; clear S; intro b84 a w S
                        refine te S ?_
                        refine tl ?_
                        refine sap S (by simp [maxLen]; omega) (by omega) ?_; clear S; rintro p85 c85 a w - S
                        rw [show encL xs ++ (nthL rs k).cells = encL (xs ++ [nthL rs k]) from by rw [encL_append xs [_], encT_cells], show xs.length + 1 = (xs ++ [nthL rs k]).length from by simp] at S
                        refine te S ?_
                        refine tl ?_
                        have hst : ∀ x ∈ xs ++ [nthL rs k], Stable (fun _ => False) w (LtF x) := fun x hx => by
                          rcases List.mem_append.1 hx with hx | hx
                          · exact kids_st (S.mem.fact0 (LsF p 0 xs)) hx
                          · obtain rfl := List.mem_singleton.1 hx
                            exact kids_st (S.mem.fact0 (LsF q72 0 rs)) (nth_mem (by omega))
                        have hls := ls_of_own (S.row p85 (xs ++ [nthL rs k]).length) hst (fun _ _ h => h)
                        have hz3 := can_der0 (K := (xs ++ [nthL rs k]).map LTerm.t) (by simp; omega) (good_map (fun x hx => (List.mem_append.1 hx).elim (hgx x) (fun h => by obtain rfl := List.mem_singleton.1 h; exact hxd ▸ hgxx))) hga
                        refine sr S (can_cl (xs ++ [nthL rs k]) (freshL 6 n) p85 c85 w hls (S.mem.t0 _)) ?_; clear S hls hst; rintro _ a w rfl S
                        rw [hz3.1, hz3.2, List.map_append, List.map_singleton] at S
                        refine te S ?_
                        iterate 5 (refine tq S ?_; clear S; intro a S)
                        refine tn ?_
                        exact ⟨S.uu, S.sub _ _⟩
                      · refine sn S ?_; clear S; intro b84 a w S
                        refine te S ?_
                        refine tl ?_
                        replace S := S.boxRow b80 5 0 rfl (by omega)
                        refine sap S (by simp [maxLen]; omega) (by omega) ?_; clear S; rintro p82 c82 a w - S
                        rw [List.nil_append, Nat.zero_add] at S
                        refine te S ?_
                        refine tl ?_
                        refine sap S (by simp [maxLen]; omega) (by omega) ?_; clear S; rintro p85 c85 a w - S
                        rw [show encL xs ++ (nthL rs k).cells = encL (xs ++ [nthL rs k]) from by rw [encL_append xs [_], encT_cells], show xs.length + 1 = (xs ++ [nthL rs k]).length from by simp] at S
                        refine te S ?_
                        refine tl ?_
                        have hst : ∀ x ∈ xs ++ [nthL rs k], Stable (fun _ => False) w (LtF x) := fun x hx => by
                          rcases List.mem_append.1 hx with hx | hx
                          · exact kids_st (S.mem.fact0 (LsF p 0 xs)) hx
                          · obtain rfl := List.mem_singleton.1 hx
                            exact kids_st (S.mem.fact0 (LsF q72 0 rs)) (nth_mem (by omega))
                        have hls := ls_of_own (S.row p85 (xs ++ [nthL rs k]).length) hst (fun _ _ h => h)
                        have hz3 := can_der0 (K := (xs ++ [nthL rs k]).map LTerm.t) (by simp; omega) (good_map (fun x hx => (List.mem_append.1 hx).elim (hgx x) (fun h => by obtain rfl := List.mem_singleton.1 h; exact hxd ▸ hgxx))) hga
                        refine sr S (can_cl (xs ++ [nthL rs k]) (freshL 6 n) p85 c85 w hls (S.mem.t0 _)) ?_; clear S hls hst; rintro _ a w rfl S
                        rw [hz3.1, hz3.2, List.map_append, List.map_singleton] at S
                        refine te S ?_
                        iterate 5 (refine tq S ?_; clear S; intro a S)
                        refine tn ?_
                        exact ⟨S.uu, S.sub _ _⟩
                    · refine sn S ?_; clear S; intro b84 a w S
                      refine te S ?_
                      refine tl ?_
                      refine sn S ?_; clear S; intro b80 a w S
                      refine te S ?_
                      refine tl ?_
                      replace S := S.boxRow b80 5 0 rfl (by omega)
                      refine sap S (by simp [maxLen]; omega) (by omega) ?_; clear S; rintro p82 c82 a w - S
                      rw [List.nil_append, Nat.zero_add] at S
                      refine te S ?_
                      refine tl ?_
                      refine sap S (by simp [maxLen]; omega) (by omega) ?_; clear S; rintro p85 c85 a w - S
                      rw [show encL xs ++ (nthL rs k).cells = encL (xs ++ [nthL rs k]) from by rw [encL_append xs [_], encT_cells], show xs.length + 1 = (xs ++ [nthL rs k]).length from by simp] at S
                      refine te S ?_
                      refine tl ?_
                      have hst : ∀ x ∈ xs ++ [nthL rs k], Stable (fun _ => False) w (LtF x) := fun x hx => by
                        rcases List.mem_append.1 hx with hx | hx
                        · exact kids_st (S.mem.fact0 (LsF p 0 xs)) hx
                        · obtain rfl := List.mem_singleton.1 hx
                          exact kids_st (S.mem.fact0 (LsF q72 0 rs)) (nth_mem (by omega))
                      have hls := ls_of_own (S.row p85 (xs ++ [nthL rs k]).length) hst (fun _ _ h => h)
                      have hz3 := can_der0 (K := (xs ++ [nthL rs k]).map LTerm.t) (by simp; omega) (good_map (fun x hx => (List.mem_append.1 hx).elim (hgx x) (fun h => by obtain rfl := List.mem_singleton.1 h; exact hxd ▸ hgxx))) hga
                      refine sr S (can_cl (xs ++ [nthL rs k]) (freshL 6 n) p85 c85 w hls (S.mem.t0 _)) ?_; clear S hls hst; rintro _ a w rfl S
                      rw [hz3.1, hz3.2, List.map_append, List.map_singleton] at S
                      refine te S ?_
                      iterate 5 (refine tq S ?_; clear S; intro a S)
                      refine tn ?_
                      exact ⟨S.uu, S.sub _ _⟩
                  rintro a w ⟨uu, S⟩
                  refine xtn ?_
                  refine c_seq ?_
                  refine c_region ?_
                  iterate 3 (refine sq S ?_; clear S; intro a S)
                  iterate 14 (refine gQ S ?_; clear S; intro a S)
                  refine sq S ?_; clear S; intro a S
                  refine wl_nil ?_
                  refine xtn ?_
                  refine c_cond S (fun h23 => ?_) (fun h23 => ?_)
                  · refine c_seq ?_
                    refine c_region ?_
                    refine sq S ?_; clear S; intro a S
                    refine wl_nil ?_
                    refine xtn ?_
                    refine c_ret ?_
                    refine xbr ?_
                    iterate 2 (refine xtr ?_)
                    refine xbr ?_
                    refine xtr ?_
                    exfalso
                    rw [← hxd] at h23
                    rcases hx3 with ⟨rfl, rfl⟩ | ⟨rfl, rfl⟩ | ⟨rfl, rfl⟩
                    · rw [hr1] at h23
                      have := keep_lock hKo hgk hok
                      simp [LTerm.t, LTerm.ts, this] at h23
                    · rw [hr2] at h23
                      have := keep_seal hKo (u := 1) (by omega)
                      simp [LTerm.t, LTerm.ts, this] at h23
                    · rw [hr3] at h23
                      have := keep_hash hKo
                      simp [Term.hash, LTerm.t, LTerm.ts, this] at h23
                  · refine c_skip ?_
                    refine xbn ?_
                    refine xtn ?_
                    refine c_region ?_
                    iterate 2 (refine sq S ?_; clear S; intro a S)
                    refine wl_nil ?_
                    refine xtn ?_
                    rw [w64 ((k : Int) + 1) (by omega) (by omega)] at S
                    exact ⟨k + 1, ⟨hkl, S.uu, S.sub _ _⟩, by omega⟩
                · refine c_exit ?_
                  iterate 2 (refine xte ?_)
                  refine xbe ?_
                  refine xtn ?_
                  refine c_seq ?_
                  refine c_region ?_
                  refine sq S ?_; clear S; intro a S
                  refine wl_nil ?_
                  refine xtn ?_
                  refine c_ret ?_
                  exact end1 S (fun _ => rfl)
end Go.Proofs.Ytajmjbboahmdkaa
