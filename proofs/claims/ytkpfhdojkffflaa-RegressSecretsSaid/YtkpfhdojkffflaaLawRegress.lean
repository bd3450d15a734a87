/- Package safehouselaw09: what its functions compute. -/
import Derived.Test.YtkpfhdojkffflaaRefRegress
import Derived.Test.YtkpfhdojkffflaaWkL
namespace Go.Proofs.Ytkpfhdojkffflaa
open Go Go.Wk
set_option synthInstance.maxSize 100000
set_option synthInstance.maxHeartbeats 400000
set_option maxRecDepth 100000

mutual
def largeF : Term → Int → Int → Bool × Int
  | .mk _ _ _ s kids, deep, left => if left - 1 < 0 ∨ 80 < deep ∨ 1000 < (s.length : Int) ∨ 10 < (kids.length : Int) then (true, left - 1) else largeLF kids (deep + 1) (left - 1)
def largeLF : List Term → Int → Int → Bool × Int
  | [], _, left => (false, left)
  | t :: ts, deep, left => if (largeF t deep left).1 then (true, (largeF t deep left).2) else largeLF ts deep (largeF t deep left).2
end
mutual
theorem largeF_le : ∀ (t : Term) (deep left : Int), (largeF t deep left).2 ≤ left
  | .mk k u n s kids, deep, left => by
    rw [largeF]; split
    · simp; omega
    · have := largeLF_le kids (deep + 1) (left - 1); omega
theorem largeLF_le : ∀ (ts : List Term) (deep left : Int), (largeLF ts deep left).2 ≤ left
  | [], deep, left => by simp [largeLF]
  | t :: ts, deep, left => by
    have h1 := largeF_le t deep left
    have h2 := largeLF_le ts deep (largeF t deep left).2
    rw [largeLF]; split
    · exact h1
    · omega
end
mutual
theorem largeF_ge : ∀ (t : Term) (deep left : Int), 0 ≤ left → (largeF t deep left).1 = false → 0 ≤ (largeF t deep left).2
  | .mk k u n s kids, deep, left => by
    intro h0 h
    rw [largeF] at h ⊢
    split at h
    · simp at h
    · rename_i hc
      rw [if_neg hc]
      exact largeLF_ge kids (deep + 1) (left - 1) (by omega) h
theorem largeLF_ge : ∀ (ts : List Term) (deep left : Int), 0 ≤ left → (largeLF ts deep left).1 = false → 0 ≤ (largeLF ts deep left).2
  | [], deep, left => by intro h0 _; simpa [largeLF] using h0
  | t :: ts, deep, left => by
    intro h0 h
    rw [largeLF] at h ⊢
    split at h
    · simp at h
    · rename_i hc
      rw [if_neg hc]
      exact largeLF_ge ts deep _ (largeF_ge t deep left h0 (by simpa using hc)) h
end
theorem large_c (N : Nat) : ∀ (t : LTerm) (deep left : Int) (b : Nat) (w0 : World), SizeOf.sizeOf t ≤ N → 0 ≤ deep → deep ≤ 81 → 0 ≤ left → left ≤ 1500 → Stable (fun k => k = b) w0 (LtF t) → w0.heap[b]? = some (.cells #[.int .i64 left] 3 (0, 0)) →
    Ret Try.prog 22 [vL t, .int .i64 deep, .pointer (some ⟨b, 0, none⟩)] w0 (fun k => k = b) fun v w' => v = .bool (largeF t.t deep left).1 ∧ w'.heap[b]? = some (.cells #[.int .i64 (largeF t.t deep left).2] 3 (0, 0)) := by
  induction N with
  | zero => intro t _ _ _ _ h; cases t; simp at h
  | succ N ih =>
  intro t deep left b w0 hN hd hd' hl hl' hf hb
  have e0 := t.t_eq
  refine enter Try.func22 rfl rfl (Wd.lent (fs := [LtF t]) hb (by simpa using hf)) (fun a S => ?_)
  simp only [Try.ntmps22, List.length_cons, List.length_nil, Nat.reduceAdd, Nat.reduceSub, List.replicate_succ, List.replicate_zero, List.cons_append, List.nil_append] at S
  refine c_seq ?_
  refine c_region ?_
  refine sa S ?_; clear S; intro b3 a w S
  refine sq S ?_; clear S; intro a S
  refine wl_nil ?_
  refine xtn ?_
  iterate 2 (refine c_seq ?_)
  refine c_region ?_
  iterate 4 (refine sq S ?_; clear S; intro a S)
  rw [w64 (left - 1) (by omega) (by omega)] at S
  refine sq S ?_; clear S; intro a S
  refine sw S ?_; clear S; intro a w S
  refine wl_nil ?_
  refine xtn ?_
  refine c_seq ?_
  refine c_region ?_
  iterate 5 (refine sq S ?_; clear S; intro a S)
  iterate 2 (refine gQ S ?_; clear S; intro a S)
  iterate 2 (refine sq S ?_; clear S; intro a S)
  iterate 4 (refine gQ S ?_; clear S; intro a S)
  iterate 2 (refine sq S ?_; clear S; intro a S)
  iterate 4 (refine gQ S ?_; clear S; intro a S)
  refine sq S ?_; clear S; intro a S
  refine wl_nil ?_
  refine xtn ?_
  refine c_cond S (fun h2 => ?_) (fun h2 => ?_)
  · refine c_seq ?_
    refine c_region ?_
    refine sq S ?_; clear S; intro a S
    refine wl_nil ?_
    refine xtn ?_
    refine c_ret ?_
    refine xtr ?_
    have hbx := S.box b
    refine end1 S (fun _ => ?_)
    have h3 : left - 1 < 0 ∨ 80 < deep ∨ 1000 < (t.text.length : Int) ∨ 10 < ((t.kids.map LTerm.t).length : Int) := by simpa [or_assoc] using h2
    rw [e0, largeF, if_pos h3]
    exact ⟨rfl, hbx⟩
  · refine c_skip ?_
    refine xtn ?_
    iterate 2 (refine c_seq ?_)
    refine c_region ?_
    iterate 4 (refine sq S ?_; clear S; intro a S)
    refine wl_nil ?_
    refine xtn ?_
    refine c_block ?_
    have h3 : ¬ (left - 1 < 0 ∨ 80 < deep ∨ 1000 < (t.text.length : Int) ∨ 10 < ((t.kids.map LTerm.t).length : Int)) := by simpa [and_assoc] using h2
    have hlen := LTerm.len_le hf
    refine c_loop (ι := Nat) (fun k a w => k ≤ t.kids.length ∧ ∃ lf, 0 ≤ lf ∧ lf ≤ 1500 ∧ largeLF ((t.kids.drop k).map LTerm.t) (deep + 1) lf = largeF t.t deep left ∧ ∃ uu : Nat → Value,  St w0 (fun k => k = b) [] a w ((vL t) :: (.int .i64 deep) :: (.pointer (some ⟨b, 0, none⟩)) :: (.pointer (some ⟨b3, 0, none⟩)) :: uu 4 :: uu 5 :: (.bool false) :: uu 7 :: uu 8 :: uu 9 :: uu 10 :: uu 11 :: uu 12 :: uu 13 :: uu 14 :: uu 15 :: uu 16 :: uu 17 :: uu 18 :: uu 19 :: uu 20 :: uu 21 :: uu 22 :: uu 23 :: uu 24 :: uu 25 :: uu 26 :: uu 27 :: uu 28 :: uu 29 :: uu 30 :: uu 31 :: uu 32 :: uu 33 :: uu 34 :: (.slice t.p t.kids.length t.cap) :: (.int .i64 t.kids.length) :: (.int .i64 (k : Nat)) :: uu 38 :: uu 39 :: uu 40 :: uu 41 :: uu 42 :: uu 43 :: uu 44 :: uu 45 :: uu 46 :: []) [box b3 24 t.cells, box b 3 [.int .i64 lf]] [LtF t]) (fun k => t.kids.length - k) 0 ?_ ?_
    · refine ⟨Nat.zero_le _, left - 1, by omega, by omega, ?_, S.uu, S⟩
      rw [e0, largeF, if_neg h3]; rfl
    · clear S
      rintro k a w ⟨hk, lf, hlf, hlf', hrel, uu, S⟩
      refine c_seq ?_
      refine c_region ?_
      refine sq S ?_; clear S; intro a S
      refine wl_nil ?_
      refine xtn ?_
      refine c_seq ?_
      refine c_cond S (fun h5 => ?_) (fun h5 => ?_)
      · refine c_skip ?_
        refine xtn ?_
        refine c_seq ?_
        refine c_block ?_
        refine c_seq ?_
        refine c_region ?_
        have hkl : k < t.kids.length := by simpa using h5
        have hK : KLt k t.kids.length := ⟨hkl⟩
        iterate 2 (refine sq S ?_; clear S; intro a S)
        refine sa S ?_; clear S; intro b8 a w S
        refine sw S ?_; clear S; intro a w S
        refine wl_nil ?_
        refine xtn ?_
        refine c_seq ?_
        refine c_region ?_
        iterate 3 (refine sq S ?_; clear S; intro a S)
        rw [w64 (deep + 1) (by omega) (by omega)] at S
        refine sq S ?_; clear S; intro a S
        rw [nth_drop hkl, List.map_cons, largeLF] at hrel
        have hb1 := largeF_le (nthL t.kids k).t (deep + 1) lf
        refine sb S (b := b) (ih (nthL t.kids k) (deep + 1) lf b w (by have := LTerm.kid_lt (nth_mem hkl); omega) (by omega) (by have : ¬ 80 < deep := fun h => h3 (.inr (.inl h)); omega) hlf hlf' ((S.t _).less fun _ _ hk => ⟨_, HasBox.mem (b := b), hk⟩) (S.box b)) ?_; clear S
        rintro v a w ⟨rfl, hcb⟩ hS
        have S := hS [.int .i64 _] _ inferInstance hcb
        clear hS
        refine wl_nil ?_
        refine xtn ?_
        refine c_cond S (fun h7 => ?_) (fun h7 => ?_)
        · refine c_seq ?_
          refine c_region ?_
          refine sq S ?_; clear S; intro a S
          refine wl_nil ?_
          refine xtn ?_
          refine c_ret ?_
          refine xbr ?_
          iterate 2 (refine xtr ?_)
          refine xbr ?_
          refine xtr ?_
          have hbx := S.box b
          refine end1 S (fun _ => ?_)
          have h8 : (largeF (nthL t.kids k).t (deep + 1) lf).1 = true := by simpa using h7
          rw [if_pos h8] at hrel
          rw [← hrel]
          exact ⟨rfl, hbx⟩
        · refine c_skip ?_
          refine xbn ?_
          refine xtn ?_
          refine c_region ?_
          iterate 2 (refine sq S ?_; clear S; intro a S)
          refine wl_nil ?_
          refine xtn ?_
          have h8 : (largeF (nthL t.kids k).t (deep + 1) lf).1 = false := by simpa using h7
          rw [if_neg (by simp [h8])] at hrel
          replace S := S.sub [box b3 24 t.cells, box b 3 [.int .i64 (largeF (nthL t.kids k).t (deep + 1) lf).2]] [LtF t]
          rw [w64 ((k : Int) + 1) (by omega) (by omega)] at S
          exact ⟨k + 1, ⟨hkl, _, largeF_ge _ (deep + 1) lf hlf h8, by omega, hrel, S.uu, S⟩, by omega⟩
      · refine c_exit ?_
        iterate 2 (refine xte ?_)
        refine xbe ?_
        refine xtn ?_
        refine c_seq ?_
        refine c_region ?_
        refine sq S ?_; clear S; intro a S
        refine wl_nil ?_
        refine xtn ?_
        refine c_ret ?_
        have hbx := S.box b
        refine end1 S (fun _ => ?_)
        have h6 : t.kids.length ≤ k := by simpa using h5
        rw [List.drop_of_length_le h6, List.map_nil, largeLF] at hrel
        rw [← hrel]
        exact ⟨rfl, hbx⟩
def overF (t : Term) : Bool := (largeF t 1 1500).1
theorem over_c (t : LTerm) (w0 : World) (hf : Stable (fun _ => False) w0 (LtF t)) : Ret Try.prog 8 [vL t] w0 (fun _ => False) fun v _ => v = .bool (overF t.t) := by
  refine enter Try.func8 rfl rfl (Wd.begin (fs := [LtF t]) (by simpa using hf)) (fun a S => ?_)
  simp only [Try.ntmps8, List.length_cons, List.length_nil, Nat.reduceAdd, Nat.reduceSub, List.replicate_succ, List.replicate_zero, List.cons_append, List.nil_append] at S
  refine c_seq ?_
  refine c_region ?_
  refine sa S ?_; clear S; intro b1 a w S
  refine sq S ?_; clear S; intro a S
  refine wl_nil ?_
  refine xtn ?_
  refine c_seq ?_
  refine c_region ?_
  refine sa S ?_; clear S; intro b3 a w S
  refine sw S ?_; clear S; intro a w S
  refine wl_nil ?_
  refine xtn ?_
  refine c_seq ?_
  refine c_region ?_
  refine sq S ?_; clear S; intro a S
  refine sb S (b := b3) (large_c _ t 1 1500 b3 w (Nat.le_refl _) (by omega) (by omega) (by omega) (by omega) (S.fb b3 (by simp)) (S.box b3)) ?_; clear S
  rintro v a w ⟨rfl, hcb⟩ hS
  have S := hS [.int .i64 _] _ inferInstance hcb
  clear hS
  refine sq S ?_; clear S; intro a S
  refine wl_nil ?_
  refine xtn ?_
  refine c_ret ?_
  refine end1 S (fun _ => ?_)
  rfl
instance {t : LTerm} {bs fs} [HasT fs t] : CallV Try.prog 8 [vL t] bs fs (.bool (overF t.t)) := ⟨fun w m => over_c t w (m.t0 _)⟩

/-- the law's own check that the package does what it should. -/
theorem wakes_c (w0 : World) : Ret Try.prog 7 [] w0 (fun _ => False) fun v _ => v = .bool true := by
  have e1 : backF (freshL 1 1).t 8 7 = (stepF (freshL 1 1).t, 0) := by rfl
  have e2 : keyF (freshL 1 1).t = (lastF (freshL 1 1).t, 0) := by rfl
  refine enter Try.func7 rfl rfl (Wd.start w0) (fun a S => ?_)
  simp only [Try.ntmps7, List.length_cons, List.length_nil, Nat.reduceAdd, Nat.reduceSub, List.replicate_succ, List.replicate_zero, List.cons_append, List.nil_append] at S
  refine c_seq ?_
  refine c_region ?_
  refine sq S ?_; clear S; intro a S
  refine wl_nil ?_
  refine xtn ?_
  refine c_seq ?_
  refine c_region ?_
  refine sc S ?_; clear S; intro a w S
  refine sa S ?_; clear S; intro b1 a w S
  refine sw S ?_; clear S; intro a w S
  refine wl_nil ?_
  refine xtn ?_
  refine c_seq ?_
  refine c_region ?_
  refine sq S ?_; clear S; intro a S
  refine sr S (state_c (freshL 1 1) 7 _ w (foots_lt S) (S.t _)) ?_; clear S; rintro _ a w ⟨r, rfl, hr, hfr⟩ S
  replace S := S.add hfr
  simp only [e1] at S hr
  iterate 3 (refine sq S ?_; clear S; intro a S)
  refine sa S ?_; clear S; intro b2 a w S
  refine sw S ?_; clear S; intro a w S
  refine sq S ?_; clear S; intro a S
  refine wl_nil ?_
  refine xtn ?_
  refine c_seq ?_
  refine c_region ?_
  refine sq S ?_; clear S; intro a S
  refine sr S (key_c (freshL 1 1) _ w (foots_lt S) (S.t _)) ?_; clear S; rintro _ a w ⟨q, rfl, hq, hfq⟩ S
  replace S := S.add hfq
  simp only [e2] at S hq
  iterate 3 (refine sq S ?_; clear S; intro a S)
  refine sa S ?_; clear S; intro b4 a w S
  refine sw S ?_; clear S; intro a w S
  refine sq S ?_; clear S; intro a S
  refine wl_nil ?_
  refine xtn ?_
  refine c_seq ?_
  refine c_drawD [(0, true), (1, true), (2, true), (3, true), (4, true), (5, true), (6, true), (7, true), (9, true), (8, false), (10, false), (11, false), (12, false), (13, true), (14, true), (15, true), (17, true), (16, false), (18, false), (19, false), (20, false), (21, true), (22, true)] [] S ?_; clear S; intro w S
  iterate 2 (refine dq S ?_; clear S; intro a S)
  rw [show decide ((0 : Int) = 0) = true from rfl] at S
  refine dq S ?_; clear S; intro a S
  iterate 2 (refine dqG S ?_; clear S; intro a S)
  iterate 2 (refine dq S ?_; clear S; intro a S)
  iterate 2 (refine dqG S ?_; clear S; intro a S)
  refine dl ?_
  refine gC S ?_; clear S; intro a w S
  refine de S ?_
  refine dl ?_
  refine gT S ?_
  refine sr S (pair_c (textL stateS) (freshL 1 1) _ w (foots_lt S) (S.t _) (S.t _)) ?_; clear S; rintro _ a w ⟨x, rfl, hx, hfx⟩ S
  replace S := S.add hfx
  refine de S ?_
  refine dl ?_
  refine gT S ?_
  refine sr S (hash_c x _ w (foots_lt S) (S.t _)) ?_; clear S; rintro _ a w ⟨y, rfl, hy, hfy⟩ S
  replace S := S.add hfy
  refine de S ?_
  refine dl ?_
  refine gC S ?_; clear S; intro a w S
  rw [show sameF r.t y.t = true from (sameF_iff _ _).2 (by rw [hr, hy, hx]; rfl)] at S
  refine de S ?_
  iterate 2 (refine dq S ?_; clear S; intro a S)
  iterate 2 (refine dqG S ?_; clear S; intro a S)
  refine dl ?_
  refine gC S ?_; clear S; intro a w S
  refine de S ?_
  refine dl ?_
  refine gT S ?_
  refine sr S (pair_c (textL keyS) (freshL 1 1) _ w (foots_lt S) (S.t _) (S.t _)) ?_; clear S; rintro _ a w ⟨x', rfl, hx', hfx'⟩ S
  replace S := S.add hfx'
  refine de S ?_
  refine dl ?_
  refine gT S ?_
  refine sr S (hash_c x' _ w (foots_lt S) (S.t _)) ?_; clear S; rintro _ a w ⟨y', rfl, hy', hfy'⟩ S
  replace S := S.add hfy'
  refine de S ?_
  refine dl ?_
  refine gC S ?_; clear S; intro a w S
  rw [show sameF q.t y'.t = true from (sameF_iff _ _).2 (by rw [hq, hy', hx']; rfl)] at S
  refine de S ?_
  iterate 2 (refine dq S ?_; clear S; intro a S)
  refine dn ?_
  refine xtn ?_
  refine c_ret ?_
  refine end1 S (fun _ => ?_)
  rfl
end Go.Proofs.Ytkpfhdojkffflaa
