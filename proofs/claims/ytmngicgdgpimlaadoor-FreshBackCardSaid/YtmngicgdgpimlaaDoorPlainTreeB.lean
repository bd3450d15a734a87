/- Trees of marks: what is proved is there. -/
import Derived.Test.YtmngicgdgpimlaaDoorTreeF
import Derived.Test.YtmngicgdgpimlaaDoorPlainList
import Derived.Lib.ItoaLen
namespace Go.Proofs.YtmngicgdgpimlaaDoor
open Go Go.Wk
set_option maxRecDepth 100000

theorem fold_GT : ∀ (ps : List Term) (x : Option Term) (t : Term), ps.foldl stepG x = some t → ps.foldl stepT x = some t
  | [], _, _, h => h
  | p :: ps, x, t, h => by
    rw [List.foldl_cons] at h ⊢
    by_cases hg : Good p
    · rw [stepG_ok hg] at h; exact fold_GT ps _ t h
    · rw [stepG_bad hg, foldG_none] at h; cases h
theorem fold_good : ∀ (ps : List Term) (x : Option Term), (∀ p ∈ ps, Good p) → ps.foldl stepG x = ps.foldl stepT x
  | [], _, _ => rfl
  | p :: ps, x, h => by rw [List.foldl_cons, List.foldl_cons, stepG_ok (h p (by simp)), fold_good ps _ fun q hq => h q (by simp [hq])]
theorem step_form {x : Option Term} {p t : Term} (h : stepT x p = some t) : ∃ y z, x = some y ∧ (t = joinT z y ∨ t = joinT y z) := by
  unfold stepT at h
  split at h
  · split at h
    · injection h with h; exact ⟨_, _, rfl, .inl h.symm⟩
    · split at h
      · injection h with h; exact ⟨_, _, rfl, .inr h.symm⟩
      · cases h
  · cases h
theorem fold_h (ps : List Term) : ∀ (x : Option Term) (t : Term), (∀ y, x = some y → IsH y) → ps.foldl stepT x = some t → IsH t := by
  induction ps with
  | nil => intro x t hx h; exact hx t h
  | cons p ps ih =>
    intro x t hx h
    rw [List.foldl_cons] at h
    refine ih _ t (fun y hy => ?_) h
    obtain ⟨a, b, -, e⟩ := step_form hy
    rcases e with rfl | rfl <;> exact ⟨_, rfl⟩
/-- whatever is proved of a root is among its marks. -/
theorem sound_up (N : Nat) : ∀ (ps : List Term) (m : LMark) (l : List LMark), ps.length < N → (0 ≤ m.ver ∧ m.ver ≤ 65535) → (∀ m ∈ l, 0 ≤ m.ver ∧ m.ver ≤ 65535) → upT m ps = some (rootT l) → m ∈ l := by
  induction N with
  | zero => intro ps m l h; exact absurd h (Nat.not_lt_zero _)
  | succ N ih =>
  intro ps m l hN hm hl h
  rcases List.eq_nil_or_concat ps with rfl | ⟨qs, p, rfl⟩
  · have h' : leafT m = rootT l := by injection h
    rcases Nat.lt_trichotomy l.length 1 with h1 | h1 | h1
    · have : l = [] := List.eq_nil_of_length_eq_zero (by omega)
      subst this
      rw [rootT_nil] at h'; simp [leafT, Term.hash, textT] at h'
    · rw [rootT_one h1] at h'
      rw [leafT_inj hm (hl _ (nthG_mem (by omega))) h']; exact nthG_mem (by omega)
    · rw [rootT_two h1] at h'
      exact absurd (root_h (l := l.take (halfN l.length)) (by rw [List.length_take]; unfold halfN; omega)) (leaf_join h').1
  · rw [List.concat_eq_append] at h hN
    rw [upT, List.foldl_append, List.foldl_cons, List.foldl_nil] at h
    obtain ⟨y, z, hy, e⟩ := step_form h
    have hyh : IsH y := fold_h qs _ y (fun a ha => by injection ha with ha; rw [← ha]; exact ⟨_, rfl⟩) hy
    have hq : qs.length < N := by simp at hN; omega
    rcases Nat.lt_trichotomy l.length 1 with h1 | h1 | h1
    · have : l = [] := List.eq_nil_of_length_eq_zero (by omega)
      subst this
      rw [rootT_nil] at e
      rcases e with e | e <;> simp [joinT, Term.hash, textT] at e
    · rw [rootT_one h1] at e
      rcases e with e | e
      · exact absurd hyh (leaf_join e).2
      · exact absurd hyh (leaf_join e).1
    · rw [rootT_two h1] at e
      rcases e with e | e
      · obtain ⟨-, e2⟩ := joinT_inj e
        exact List.drop_subset _ _ (ih qs m _ hq hm (fun m hm => hl m (List.drop_subset _ _ hm)) (by rw [upT, hy, e2]))
      · obtain ⟨e2, -⟩ := joinT_inj e
        exact List.take_subset _ _ (ih qs m _ hq hm (fun m hm => hl m (List.take_subset _ _ hm)) (by rw [upT, hy, e2]))
/-! they may all be -/
def OkV (l : List LMark) : Prop := (∀ m ∈ l, 0 ≤ m.ver ∧ m.ver ≤ 65535) ∧ ∀ m ∈ l, m.key.length ≤ 64
theorem itoa_len {n : Int} (h : 0 ≤ n ∧ n ≤ 65535) : (Lib.itoa n).length ≤ 64 := Nat.le_trans (Lib.itoa_length_le n (by omega) (by omega)) (by omega)
theorem good_rowM {m : LMark} (hv : 0 ≤ m.ver ∧ m.ver ≤ 65535) (hk : m.key.length ≤ 64) : Good (rowM m) ∧ cnt (rowM m) = 3 ∧ dpt (rowM m) = 2 := by
  have e3 : ∀ x, cnt (textT x) = 1 := fun x => by simp [textT, cnt, cntL]
  have e4 : ∀ x, dpt (textT x) = 1 := fun x => by simp [textT, dpt, dptL]
  rw [rowM, cnt_pair, dpt_pair, e3, e3, e4, e4]
  exact ⟨good_pair (good_text hk) (good_text (itoa_len hv)) (by rw [e3, e3]; omega) (by rw [e4]; omega) (by rw [e4]; omega), rfl, rfl⟩
theorem cnt_hash (a : Term) : cnt (.hash a) = 1 + cnt a := by simp [Term.hash, cnt, cntL]
theorem dpt_hash (a : Term) : dpt (.hash a) = 1 + dpt a := by simp [Term.hash, dpt, dptL]
theorem good_leaf {m : LMark} (hv : 0 ≤ m.ver ∧ m.ver ≤ 65535) (hk : m.key.length ≤ 64) : Good (leafT m) ∧ cnt (leafT m) = 4 ∧ dpt (leafT m) = 3 := by
  obtain ⟨h1, h2, h3⟩ := good_rowM hv hk
  have e : leafT m = .hash (rowM m) := rfl
  rw [e, cnt_hash, dpt_hash, h2, h3]
  exact ⟨good_hash h1 (by rw [h2]; omega) (by rw [h3]; omega), rfl, rfl⟩
theorem good_root (N : Nat) : ∀ {l : List LMark}, l.length < N → l.length ≤ 16 → OkV l → Good (rootT l) ∧ cnt (rootT l) ≤ 6 * l.length + (if l.length = 0 then 1 else 0) ∧ (0 < l.length → cnt (rootT l) + 2 ≤ 6 * l.length) ∧ dpt (rootT l) ≤ 1 + 2 * l.length := by
  induction N with
  | zero => intro l h; exact absurd h (Nat.not_lt_zero _)
  | succ N ih =>
  intro l hN h16 hv
  rcases Nat.lt_trichotomy l.length 1 with h1 | h1 | h1
  · have : l = [] := List.eq_nil_of_length_eq_zero (by omega)
    subst this
    rw [rootT_nil]
    exact ⟨good_text (by simp), by simp [textT, cnt, cntL], by simp, by simp [textT, dpt, dptL]⟩
  · obtain ⟨g1, g2, g3⟩ := good_leaf (hv.1 _ (nthG_mem (show 0 < l.length by omega))) (hv.2 _ (nthG_mem (show 0 < l.length by omega)))
    rw [rootT_one h1, g2, g3, h1]
    exact ⟨g1, by simp, by simp, by omega⟩
  · have hA : halfN l.length < l.length ∧ 0 < halfN l.length := by unfold halfN; omega
    have hlt : (l.take (halfN l.length)).length = halfN l.length := by rw [List.length_take]; omega
    have hld : (l.drop (halfN l.length)).length = l.length - halfN l.length := List.length_drop
    obtain ⟨a1, -, a3, a4⟩ := ih (l := l.take (halfN l.length)) (by omega) (by omega) ⟨fun m hm => hv.1 m (List.take_subset _ _ hm), fun m hm => hv.2 m (List.take_subset _ _ hm)⟩
    obtain ⟨b1, -, b3, b4⟩ := ih (l := l.drop (halfN l.length)) (by omega) (by omega) ⟨fun m hm => hv.1 m (List.drop_subset _ _ hm), fun m hm => hv.2 m (List.drop_subset _ _ hm)⟩
    have a3 := a3 (by omega)
    have b3 := b3 (by omega)
    rw [hlt] at a3 a4
    rw [hld] at b3 b4
    rw [rootT_two h1, joinT, cnt_hash, dpt_hash, cnt_pair, dpt_pair]
    have hp := good_pair a1 b1 (by omega) (by omega) (by omega)
    refine ⟨good_hash hp (by rw [cnt_pair]; omega) (by rw [dpt_pair]; omega), ?_, fun _ => ?_, ?_⟩
    · rw [if_neg (by omega)]; omega
    · omega
    · omega
theorem good_path (N : Nat) : ∀ {l : List LMark} {i : Nat}, l.length < N → l.length ≤ 16 → OkV l → ∀ t ∈ pathT l i, Good t := by
  induction N with
  | zero => intro l i h; exact absurd h (Nat.not_lt_zero _)
  | succ N ih =>
  intro l i hN h16 hv t ht
  have et : ∀ x, cnt (textT x) = 1 := fun x => by simp [textT, cnt, cntL]
  have ed : ∀ x, dpt (textT x) = 1 := fun x => by simp [textT, dpt, dptL]
  by_cases h1 : l.length ≤ 1
  · rw [pathT_one h1] at ht; cases ht
  · have hA : halfN l.length < l.length ∧ 0 < halfN l.length := by unfold halfN; omega
    have hlt : (l.take (halfN l.length)).length = halfN l.length := by rw [List.length_take]; omega
    have hld : (l.drop (halfN l.length)).length = l.length - halfN l.length := List.length_drop
    have hva : OkV (l.take (halfN l.length)) := ⟨fun m hm => hv.1 m (List.take_subset _ _ hm), fun m hm => hv.2 m (List.take_subset _ _ hm)⟩
    have hvb : OkV (l.drop (halfN l.length)) := ⟨fun m hm => hv.1 m (List.drop_subset _ _ hm), fun m hm => hv.2 m (List.drop_subset _ _ hm)⟩
    by_cases hi : i < halfN l.length
    · rw [pathT_r (by omega) hi] at ht
      rcases List.mem_cons.1 ht with rfl | ht
      · obtain ⟨b1, -, b3, b4⟩ := good_root _ (Nat.lt_succ_self (l.drop (halfN l.length)).length) (by omega) hvb
        have b3 := b3 (by omega)
        exact good_pair (good_text (by simp)) b1 (by rw [et]; omega) (by rw [ed]; omega) (by omega)
      · exact ih (by omega) (by omega) hva t ht
    · rw [pathT_l (by omega) hi] at ht
      rcases List.mem_cons.1 ht with rfl | ht
      · obtain ⟨b1, -, b3, b4⟩ := good_root _ (Nat.lt_succ_self (l.take (halfN l.length)).length) (by omega) hva
        have b3 := b3 (by omega)
        exact good_pair (good_text (by simp)) b1 (by rw [et]; omega) (by rw [ed]; omega) (by omega)
      · exact ih (by omega) (by omega) hvb t ht
theorem good_write {l : List LMark} (h16 : l.length ≤ 16) (hv : OkV l) : Good (writeT l) := by
  refine (listT_good _ (fun t ht => ?_) (by simp; omega)).1
  obtain ⟨m, hm, rfl⟩ := List.mem_map.1 ht
  obtain ⟨h1, h2, h3⟩ := good_rowM (hv.1 m hm) (hv.2 m hm)
  exact ⟨h1, by omega, by omega⟩
theorem listT_inj : ∀ {a b : List Term}, listT a = listT b → a = b
  | [], [], _ => rfl
  | [], y :: b, h => by simp [listT, textT, Term.pair] at h
  | x :: a, [], h => by simp [listT, textT, Term.pair] at h
  | x :: a, y :: b, h => by
    simp only [listT, Term.pair, Term.mk.injEq, List.cons.injEq, and_true, true_and] at h
    rw [h.1, listT_inj h.2]
theorem write_inj {a b : List LMark} (ha : OkV a) (hb : OkV b) (h : writeT a = writeT b) : a = b := by
  have h1 := listT_inj h
  have key : ∀ {a b : List LMark}, OkV a → OkV b → a.map rowM = b.map rowM → a = b := by
    intro a
    induction a with
    | nil => intro b _ _ h; cases b with
      | nil => rfl
      | cons y b => simp at h
    | cons x a ih => intro b ha hb h; cases b with
      | nil => simp at h
      | cons y b =>
        simp only [List.map_cons, List.cons.injEq] at h
        have e : x = y := leafT_inj (ha.1 x (by simp)) (hb.1 y (by simp)) (by show Term.hash (rowM x) = Term.hash (rowM y); rw [h.1])
        rw [e, ih ⟨fun m hm => ha.1 m (by simp [hm]), fun m hm => ha.2 m (by simp [hm])⟩ ⟨fun m hm => hb.1 m (by simp [hm]), fun m hm => hb.2 m (by simp [hm])⟩ h.2]
  exact key ha hb h1
theorem okM_V {l : List LMark} (h : okM l = true) : l.length ≤ 16 ∧ OkV l := by
  obtain ⟨h1, h2, h3, -⟩ := okV l h
  exact ⟨h1, h2, fun m hm => (h3 m hm).2⟩
/-- of each mark that is there its proof proves it. -/
theorem path_log : ∀ (k : Nat) (l : List LMark) (i : Nat), l.length ≤ 2 ^ k → (pathT l i).length ≤ k
  | 0, l, i, h => by rw [pathT_one (by simpa using h)]; simp
  | k + 1, l, i, h => by
    rw [Nat.pow_succ] at h
    by_cases h1 : l.length ≤ 1
    · rw [pathT_one h1]; simp
    · by_cases hi : i < halfN l.length
      · rw [pathT_r (by omega) hi, List.length_cons]
        have := path_log k (l.take (halfN l.length)) i (by rw [List.length_take]; unfold halfN; omega)
        omega
      · rw [pathT_l (by omega) hi, List.length_cons]
        have := path_log k (l.drop (halfN l.length)) (i - halfN l.length) (by rw [List.length_drop]; unfold halfN; omega)
        omega
theorem proves_ok {l : List LMark} (h : okM l = true) {i : Nat} (hi : i < l.length) : provesB (rootT l) (nthG l i) (pathT l i).reverse = true := by
  obtain ⟨h16, hv⟩ := okM_V h
  obtain ⟨h1, h2, h3, -⟩ := okV l h
  have hm := nthG_mem hi
  have hb : markB (nthG l i) = true := by
    simp only [markB, Bool.and_eq_true, decide_eq_true_eq, Bool.not_eq_true', decide_eq_false_iff_not]
    exact ⟨⟨⟨(h3 _ hm).1, by have := (h3 _ hm).2; omega⟩, (h2 _ hm).1⟩, (h2 _ hm).2⟩
  have hg := (good_root _ (Nat.lt_succ_self l.length) h16 hv).1
  have hlen := path_log 4 l i (by omega)
  have hup : upG (nthG l i) (pathT l i).reverse = some (rootT l) := by
    have h5 := path_up _ l i (Nat.lt_succ_self _) hi
    rw [upG, fold_good _ _ fun p hp => good_path _ (Nat.lt_succ_self _) h16 hv p (List.mem_reverse.1 hp)]
    exact h5
  unfold provesB
  rw [hb, good_check.2 hg, List.length_reverse, decide_eq_true (show ((pathT l i).length : Int) ≤ 8 by omega), @decide_eq_true _ (Classical.propDecidable _) hup]
  rfl
theorem proves_sound {l : List LMark} (h : okM l = true) {m : LMark} {ps : List Term} (hp : provesB (rootT l) m ps = true) : m ∈ l := by
  unfold provesB at hp
  rw [Bool.and_eq_true, Bool.and_eq_true, Bool.and_eq_true] at hp
  obtain ⟨⟨⟨a1, -⟩, -⟩, a4⟩ := hp
  have a5 : upG m ps = some (rootT l) := @of_decide_eq_true _ (Classical.propDecidable _) a4
  simp only [markB, Bool.and_eq_true, decide_eq_true_eq] at a1
  exact sound_up _ ps m l (Nat.lt_succ_self _) ⟨a1.1.2, a1.2⟩ (okM_V h).2.1 (fold_GT _ _ _ a5)
end Go.Proofs.YtmngicgdgpimlaaDoor
