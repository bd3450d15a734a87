/- Package term: a walk through a term; its size. -/
import Derived.Test.YtmngicgdgpimlaaDoorTermA
import Derived.Test.YtmngicgdgpimlaaDoorW2
namespace Go.Proofs.YtmngicgdgpimlaaDoor
open Go Go.Wk
set_option synthInstance.maxSize 100000
set_option synthInstance.maxHeartbeats 400000
set_option maxRecDepth 100000

mutual
def walkF : Term → Int → Int → Bool × Int
  | .mk k u n s kids, deep, left => if left - 1 < 0 ∨ 60 < deep ∨ plainF k u n s kids.length = false then (false, left - 1) else walkLF kids (deep + 1) (left - 1)
def walkLF : List Term → Int → Int → Bool × Int
  | [], _, left => (true, left)
  | t :: ts, deep, left => if (walkF t deep left).1 then walkLF ts deep (walkF t deep left).2 else (false, (walkF t deep left).2)
end

mutual
theorem walkF_le : ∀ (t : Term) (deep left : Int), (walkF t deep left).2 ≤ left
  | .mk k u n s kids, deep, left => by
    rw [walkF]; split
    · simp; omega
    · have := walkLF_le kids (deep + 1) (left - 1); omega
theorem walkLF_le : ∀ (ts : List Term) (deep left : Int), (walkLF ts deep left).2 ≤ left
  | [], deep, left => by simp [walkLF]
  | t :: ts, deep, left => by
    have h1 := walkF_le t deep left
    have h2 := walkLF_le ts deep (walkF t deep left).2
    rw [walkLF]; split
    · omega
    · exact h1
end
mutual
theorem walkF_ge : ∀ (t : Term) (deep left : Int), 0 ≤ left → (walkF t deep left).1 = true → 0 ≤ (walkF t deep left).2
  | .mk k u n s kids, deep, left => by
    intro h0 h
    rw [walkF] at h ⊢
    split at h
    · simp at h
    · rename_i hc
      rw [if_neg hc]
      exact walkLF_ge kids (deep + 1) (left - 1) (by omega) h
theorem walkLF_ge : ∀ (ts : List Term) (deep left : Int), 0 ≤ left → (walkLF ts deep left).1 = true → 0 ≤ (walkLF ts deep left).2
  | [], deep, left => by intro h0 _; simpa [walkLF] using h0
  | t :: ts, deep, left => by
    intro h0 h
    rw [walkLF] at h ⊢
    split at h
    · rename_i hc
      rw [if_pos hc]
      exact walkLF_ge ts deep _ (walkF_ge t deep left h0 hc) h
    · simp at h
end


theorem walk_c (N : Nat) : ∀ (t : LTerm) (deep left : Int) (b : Nat) (w0 : World), SizeOf.sizeOf t ≤ N → 0 ≤ deep → deep ≤ 61 → 0 ≤ left → left ≤ 1200 → Stable (fun k => k = b) w0 (LtF t) → w0.heap[b]? = some (.cells #[.int .i64 left] 3 (0, 0)) →
    Ret Tryd.prog 68 [vL t, .int .i64 deep, .pointer (some ⟨b, 0, none⟩)] w0 (fun k => k = b) fun v w' => v = .bool (walkF t.t deep left).1 ∧ w'.heap[b]? = some (.cells #[.int .i64 (walkF t.t deep left).2] 3 (0, 0)) := by
  induction N with
  | zero => intro t _ _ _ _ h; cases t; simp at h
  | succ N ih =>
  intro t deep left b w0 hN hd hd' hl hl' hf hb
  have e0 := t.t_eq
  refine enter Tryd.func68 rfl rfl (Wd.lent (fs := [LtF t]) hb (by simpa using hf)) (fun a S => ?_)
  simp only [Tryd.ntmps68, List.length_cons, List.length_nil, Nat.reduceAdd, Nat.reduceSub, List.replicate_succ, List.replicate_zero, List.cons_append, List.nil_append] at S
  refine c_seq ?_
  refine c_region ?_
  refine sa S ?_; clear S; intro b3 a w S
  refine sq S ?_; clear S; intro a S
  refine wl_nil ?_
  refine xtn ?_
  iterate 2 (refine c_seq ?_)
  refine c_region ?_
  iterate 4 (refine sq S ?_; clear S; intro a S)
  rw [w64 (left - 1) (by omega) (by omega)] at S
  refine sq S ?_; clear S; intro a S
  refine sw S ?_; clear S; intro a w S
  refine wl_nil ?_
  refine xtn ?_
  refine c_seq ?_
  refine c_region ?_
  iterate 5 (refine sq S ?_; clear S; intro a S)
  iterate 2 (refine gQ S ?_; clear S; intro a S)
  iterate 2 (refine sq S ?_; clear S; intro a S)
  refine gQ S ?_; clear S; intro a S
  refine gC S ?_; clear S; intro a w S
  refine gQ S ?_; clear S; intro a S
  refine sq S ?_; clear S; intro a S
  refine wl_nil ?_
  refine xtn ?_
  refine c_cond S (fun h2 => ?_) (fun h2 => ?_)
  · refine c_seq ?_
    refine c_region ?_
    refine sq S ?_; clear S; intro a S
    refine wl_nil ?_
    refine xtn ?_
    refine c_ret ?_
    refine xtr ?_
    have hbx := S.box b
    refine fin1 S (fun _ => ?_)
    have h3 : left - 1 < 0 ∨ 60 < deep ∨ plainF t.kind t.user t.num t.text t.kids.length = false := by simpa [or_assoc] using h2
    rw [e0, walkF, if_pos (by simpa using h3)]
    exact ⟨rfl, hbx⟩
  · refine c_skip ?_
    refine xtn ?_
    iterate 2 (refine c_seq ?_)
    refine c_region ?_
    iterate 4 (refine sq S ?_; clear S; intro a S)
    refine wl_nil ?_
    refine xtn ?_
    refine c_block ?_
    have h3 : ¬ (left - 1 < 0 ∨ 60 < deep ∨ plainF t.kind t.user t.num t.text t.kids.length = false) := by simpa [and_assoc] using h2
    have hlen := LTerm.len_le hf
    refine c_loop (ι := Nat) (fun k a w => k ≤ t.kids.length ∧ ∃ lf, 0 ≤ lf ∧ lf ≤ 1200 ∧ walkLF ((t.kids.drop k).map LTerm.t) (deep + 1) lf = walkF t.t deep left ∧ ∃ uu : Nat → Value,  St w0 (fun k => k = b) [] a w ((vL t) :: (.int .i64 deep) :: (.pointer (some ⟨b, 0, none⟩)) :: (.pointer (some ⟨b3, 0, none⟩)) :: uu 4 :: uu 5 :: (.bool false) :: uu 7 :: uu 8 :: uu 9 :: uu 10 :: uu 11 :: uu 12 :: uu 13 :: uu 14 :: uu 15 :: uu 16 :: uu 17 :: uu 18 :: uu 19 :: uu 20 :: uu 21 :: uu 22 :: uu 23 :: uu 24 :: uu 25 :: uu 26 :: uu 27 :: (.slice t.p t.kids.length t.cap) :: (.int .i64 t.kids.length) :: (.int .i64 (k : Nat)) :: uu 31 :: uu 32 :: uu 33 :: uu 34 :: uu 35 :: uu 36 :: uu 37 :: uu 38 :: uu 39 :: uu 40 :: []) [box b3 28 t.cells, box b 3 [.int .i64 lf]] [LtF t]) (fun k => t.kids.length - k) 0 ?_ ?_
    · refine ⟨Nat.zero_le _, left - 1, by omega, by omega, ?_, S.uu, S⟩
      rw [e0, walkF, if_neg (by simpa using h3)]; rfl
    · clear S
      rintro k a w ⟨hk, lf, hlf, hlf', hrel, uu, S⟩
      refine c_seq ?_
      refine c_region ?_
      refine sq S ?_; clear S; intro a S
      refine wl_nil ?_
      refine xtn ?_
      refine c_seq ?_
      refine c_cond S (fun h5 => ?_) (fun h5 => ?_)
      · refine c_skip ?_
        refine xtn ?_
        refine c_seq ?_
        refine c_block ?_
        refine c_seq ?_
        refine c_region ?_
        have hkl : k < t.kids.length := by simpa using h5
        obtain ⟨x, ad, hx, hm, hp, hcell, hfx⟩ := LTerm.kid (S.fact (Φ := LtF t) (by simp)) hkl
        replace S := S.add hfx
        refine si S ad hp (by omega) (by omega) ?_; clear S; intro a S
        refine slA x.cells S hcell ?_; clear S; intro a S
        refine sa S ?_; clear S; intro b8 a w S
        refine sw S ?_; clear S; intro a w S
        refine wl_nil ?_
        refine xtn ?_
        refine c_seq ?_
        refine c_region ?_
        iterate 3 (refine sq S ?_; clear S; intro a S)
        rw [w64 (deep + 1) (by omega) (by omega)] at S
        refine sq S ?_; clear S; intro a S
        have hdr : t.kids.drop k = x :: t.kids.drop (k + 1) := by
          rw [List.drop_eq_getElem_cons hkl]; congr 1
          exact (List.getElem?_eq_some_iff.1 hx).2
        rw [hdr, List.map_cons, walkLF] at hrel
        have hb1 := walkF_le x.t (deep + 1) lf
        refine sb S (b := b) (ih x (deep + 1) lf b w (by have := LTerm.kid_lt hm; omega) (by omega) (by have : ¬ 60 < deep := fun h => h3 (.inr (.inl h)); omega) hlf hlf' (S.fb b (by simp)) (S.box b)) ?_; clear S
        rintro v a w ⟨rfl, hcb⟩ hS
        have S := hS [.int .i64 _] _ inferInstance hcb
        clear hS
        refine sq S ?_; clear S; intro a S
        refine wl_nil ?_
        refine xtn ?_
        refine c_cond S (fun h7 => ?_) (fun h7 => ?_)
        · refine c_seq ?_
          refine c_region ?_
          refine sq S ?_; clear S; intro a S
          refine wl_nil ?_
          refine xtn ?_
          refine c_ret ?_
          refine xbr ?_
          iterate 2 (refine xtr ?_)
          refine xbr ?_
          refine xtr ?_
          have hbx := S.box b
          refine fin1 S (fun _ => ?_)
          have h8 : (walkF x.t (deep + 1) lf).1 = false := by simpa using h7
          rw [if_neg (by simp [h8])] at hrel
          rw [← hrel]
          exact ⟨rfl, hbx⟩
        · refine c_skip ?_
          refine xbn ?_
          refine xtn ?_
          refine c_region ?_
          iterate 2 (refine sq S ?_; clear S; intro a S)
          refine wl_nil ?_
          refine xtn ?_
          have h8 : (walkF x.t (deep + 1) lf).1 = true := by simpa using h7
          rw [if_pos h8] at hrel
          replace S := S.sub [box b3 28 t.cells, box b 3 [.int .i64 (walkF x.t (deep + 1) lf).2]] [LtF t]
          rw [w64 ((k : Int) + 1) (by omega) (by omega)] at S
          exact ⟨k + 1, ⟨hkl, _, walkF_ge x.t (deep + 1) lf hlf h8, by omega, hrel, S.uu, S⟩, by omega⟩
      · refine c_exit ?_
        iterate 2 (refine xte ?_)
        refine xbe ?_
        refine xtn ?_
        refine c_seq ?_
        refine c_region ?_
        refine sq S ?_; clear S; intro a S
        refine wl_nil ?_
        refine xtn ?_
        refine c_ret ?_
        have hbx := S.box b
        refine fin1 S (fun _ => ?_)
        have h6 : t.kids.length ≤ k := by simpa using h5
        rw [List.drop_of_length_le h6, List.map_nil, walkLF] at hrel
        rw [← hrel]
        exact ⟨rfl, hbx⟩
end Go.Proofs.YtmngicgdgpimlaaDoor
