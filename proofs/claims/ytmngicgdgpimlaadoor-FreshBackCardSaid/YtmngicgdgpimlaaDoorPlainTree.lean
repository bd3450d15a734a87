/- Trees of marks in plain words. -/
import Derived.Test.YtmngicgdgpimlaaDoorTreeB
import Derived.Test.YtmngicgdgpimlaaDoorPlainName
namespace Go.Proofs.YtmngicgdgpimlaaDoor
open Go Go.Wk
set_option maxRecDepth 100000

theorem parse_dec : ∀ (N u : Nat) (r : List UInt8), u ≤ N → u < 1000000000000000000 → Lib.parseUint10 0 (Lib.decDigits u ++ r) = Lib.parseUint10 u r := by
  intro N
  induction N with
  | zero =>
    intro u r hu _
    obtain rfl : u = 0 := by omega
    rw [Lib.decDigits, dif_pos (by omega)]
    show Lib.parseUint10 0 (UInt8.ofNat 48 :: r) = _
    rw [Lib.parseUint10]; rfl
  | succ N ih =>
    intro u r hu hb
    have hd : ∀ d : Nat, d < 10 → (UInt8.ofNat (48 + d)).toNat = 48 + d := fun d hd => by rw [UInt8.toNat_ofNat_of_lt' (by show 48 + d < 256; omega)]
    rw [Lib.decDigits]
    split
    · rename_i h
      show Lib.parseUint10 0 (UInt8.ofNat (48 + u) :: r) = _
      rw [Lib.parseUint10, hd u h, if_pos (by omega), if_neg (by omega), if_neg (by omega)]
      congr 1; omega
    · rename_i h
      rw [List.append_assoc, ih (u / 10) _ (by omega) (by omega)]
      show Lib.parseUint10 (u / 10) (UInt8.ofNat (48 + u % 10) :: r) = _
      rw [Lib.parseUint10, hd (u % 10) (by omega), if_pos (by omega), if_neg (by omega), if_neg (by omega)]
      congr 1; omega
theorem dec_head : ∀ (N u : Nat), u ≤ N → ∃ c r, Lib.decDigits u = c :: r ∧ 48 ≤ c.toNat ∧ c.toNat ≤ 57 := by
  intro N
  induction N with
  | zero =>
    intro u hu
    obtain rfl : u = 0 := by omega
    rw [Lib.decDigits, dif_pos (by omega)]
    exact ⟨_, _, rfl, by decide, by decide⟩
  | succ N ih =>
    intro u hu
    have hd : ∀ d : Nat, d < 10 → (UInt8.ofNat (48 + d)).toNat = 48 + d := fun d hd => by rw [UInt8.toNat_ofNat_of_lt' (by show 48 + d < 256; omega)]
    rw [Lib.decDigits]
    split
    · rename_i h
      exact ⟨_, _, rfl, by rw [hd u h]; omega, by rw [hd u h]; omega⟩
    · rename_i h
      obtain ⟨c, r, h1, h2, h3⟩ := ih (u / 10) (by omega)
      exact ⟨c, r ++ [UInt8.ofNat (48 + u % 10)], by rw [h1]; rfl, h2, h3⟩
theorem atoi_itoa {n : Int} (h : 0 ≤ n ∧ n ≤ 65535) : Lib.atoiAll (Lib.itoa n) = .ok n := by
  have e : Lib.itoa n = Lib.decDigits n.toNat := by rw [Lib.itoa, if_neg (by omega)]
  obtain ⟨c, r, h1, h2, h3⟩ := dec_head _ n.toNat (Nat.le_refl _)
  have hp := parse_dec _ n.toNat [] (Nat.le_refl _) (by omega)
  rw [List.append_nil, Lib.parseUint10] at hp
  have hc : ¬ (c.toNat = 43 ∨ c.toNat = 45) := by omega
  have hm : Lib.parseMag (c :: r) = .ok n.toNat := by rw [Lib.parseMag, if_neg (by simp), ← h1, hp]
  have hc2 : ¬ c.toNat = 45 := by omega
  rw [e, h1]
  have hb : ¬ 9223372036854775808 ≤ n.toNat := by omega
  have hc1 : ¬ c.toNat = 43 := by omega
  simp only [Lib.atoiAll, hc1, hc2, or_self, if_false, hm, not_false_eq_true, true_and, false_and, hb]
  rw [show ((n.toNat : Nat) : Int) = n from by omega]
theorem itoa_inj {a b : Int} (ha : 0 ≤ a ∧ a ≤ 65535) (hb : 0 ≤ b ∧ b ≤ 65535) (h : Lib.itoa a = Lib.itoa b) : a = b := by
  have h1 := atoi_itoa ha
  rw [h, atoi_itoa hb] at h1
  injection h1 with h1; exact h1.symm
theorem leafT_inj {a b : LMark} (ha : 0 ≤ a.ver ∧ a.ver ≤ 65535) (hb : 0 ≤ b.ver ∧ b.ver ≤ 65535) (h : leafT a = leafT b) : a = b := by
  simp only [leafT, Term.hash, Term.pair, textT, Term.mk.injEq, List.cons.injEq, and_true, true_and] at h
  cases a; cases b
  simp only [LMark.mk.injEq]
  exact ⟨h.1, itoa_inj ha hb h.2⟩
theorem joinT_inj {a b c d : Term} (h : joinT a b = joinT c d) : a = c ∧ b = d := by
  simpa [joinT, Term.hash, Term.pair] using h
/-- a hash. -/
def IsH (t : Term) : Prop := ∃ a, t = .hash a
theorem leaf_join {m : LMark} {a b : Term} (h : leafT m = joinT a b) : ¬ IsH a ∧ ¬ IsH b := by
  simp only [leafT, joinT, Term.hash, Term.pair, Term.mk.injEq, List.cons.injEq, and_true, true_and] at h
  refine ⟨?_, ?_⟩
  · rintro ⟨x, rfl⟩; have := h.1; simp [textT, Term.hash] at this
  · rintro ⟨x, rfl⟩; have := h.2; simp [textT, Term.hash] at this
theorem root_h {l : List LMark} (h : 0 < l.length) : IsH (rootT l) := by
  rcases Nat.lt_or_ge 1 l.length with h1 | h1
  · rw [rootT_two h1]; exact ⟨_, rfl⟩
  · rw [rootT_one (by omega)]; exact ⟨_, rfl⟩
theorem root_inj (N : Nat) : ∀ {a b : List LMark}, a.length < N → (∀ m ∈ a, 0 ≤ m.ver ∧ m.ver ≤ 65535) → (∀ m ∈ b, 0 ≤ m.ver ∧ m.ver ≤ 65535) → rootT a = rootT b → a = b := by
  induction N with
  | zero => intro a b h; exact absurd h (Nat.not_lt_zero _)
  | succ N ih =>
  intro a b hN ha hb h
  have hx : ∀ {l : List LMark}, 0 < l.length → rootT l ≠ textT [] := fun hl he => by
    obtain ⟨x, hx⟩ := root_h hl
    rw [hx] at he; simp [Term.hash, textT] at he
  rcases Nat.lt_trichotomy a.length 1 with h1 | h1 | h1
  · have : a = [] := List.eq_nil_of_length_eq_zero (by omega)
    subst this
    cases b with
    | nil => rfl
    | cons m b => rw [rootT_nil] at h; exact absurd h.symm (hx (by simp))
  · rcases Nat.lt_trichotomy b.length 1 with h2 | h2 | h2
    · have : b = [] := List.eq_nil_of_length_eq_zero (by omega)
      subst this
      rw [rootT_nil] at h; exact absurd h (hx (by omega))
    · rw [rootT_one h1, rootT_one h2] at h
      have e := leafT_inj (ha _ (nthG_mem (by omega))) (hb _ (nthG_mem (by omega))) h
      match a, b, h1, h2 with
      | [x], [y], _, _ => simp [nthG] at e; rw [e]
    · rw [rootT_one h1, rootT_two h2] at h
      exact absurd (root_h (l := b.take (halfN b.length)) (by rw [List.length_take]; unfold halfN; omega)) (leaf_join h).1
  · rcases Nat.lt_trichotomy b.length 1 with h2 | h2 | h2
    · have : b = [] := List.eq_nil_of_length_eq_zero (by omega)
      subst this
      rw [rootT_nil] at h; exact absurd h (hx (by omega))
    · rw [rootT_one h2, rootT_two h1] at h
      exact absurd (root_h (l := a.take (halfN a.length)) (by rw [List.length_take]; unfold halfN; omega)) (leaf_join h.symm).1
    · rw [rootT_two h1, rootT_two h2] at h
      obtain ⟨q1, q2⟩ := joinT_inj h
      have hA : halfN a.length < a.length ∧ 0 < halfN a.length := by unfold halfN; omega
      have e1 := ih (a := a.take (halfN a.length)) (b := b.take (halfN b.length)) (by rw [List.length_take]; omega) (fun m hm => ha m (List.take_subset _ _ hm)) (fun m hm => hb m (List.take_subset _ _ hm)) q1
      have e2 := ih (a := a.drop (halfN a.length)) (b := b.drop (halfN b.length)) (by rw [List.length_drop]; omega) (fun m hm => ha m (List.drop_subset _ _ hm)) (fun m hm => hb m (List.drop_subset _ _ hm)) q2
      rw [← List.take_append_drop (halfN a.length) a, ← List.take_append_drop (halfN b.length) b, e1, e2]
/-- the way up from a mark, from the root down. -/
def pathT (l : List LMark) (i : Nat) : List Term := if h : l.length ≤ 1 then [] else
  if i < halfN l.length then .pair (textT [114]) (rootT (l.drop (halfN l.length))) :: pathT (l.take (halfN l.length)) i
  else .pair (textT [108]) (rootT (l.take (halfN l.length))) :: pathT (l.drop (halfN l.length)) (i - halfN l.length)
termination_by l.length
decreasing_by
  · simp [halfN]; omega
  · simp [halfN]; omega
def stepT (x : Option Term) (p : Term) : Option Term :=
  match x, p with
  | some x, .mk 4 _ _ _ [.mk 1 _ _ s _, y] => if s = [108] then some (joinT y x) else if s = [114] then some (joinT x y) else none
  | _, _ => none
def upT (m : LMark) (ps : List Term) : Option Term := ps.foldl stepT (some (leafT m))
theorem path_up (N : Nat) : ∀ (l : List LMark) (i : Nat), l.length < N → i < l.length → upT (nthG l i) (pathT l i).reverse = some (rootT l) := by
  induction N with
  | zero => intro l i h; exact absurd h (Nat.not_lt_zero _)
  | succ N ih =>
  intro l i hN hi
  rw [pathT]
  split
  · rename_i h
    rw [rootT_one (by omega)]
    obtain rfl : i = 0 := by omega
    rfl
  · rename_i h
    have hA : halfN l.length < l.length ∧ 0 < halfN l.length := by unfold halfN; omega
    split
    · rename_i h2
      have e := ih (l.take (halfN l.length)) i (by rw [List.length_take]; omega) (by rw [List.length_take]; omega)
      have en : nthG (l.take (halfN l.length)) i = nthG l i := by rw [nthG, nthG, List.getD_eq_getElem?_getD, List.getD_eq_getElem?_getD, List.getElem?_take, if_pos h2]
      rw [en] at e
      rw [List.reverse_cons, upT, List.foldl_append]
      rw [upT] at e
      rw [e]
      exact congrArg some (rootT_two (show 2 ≤ l.length by omega)).symm
    · rename_i h2
      have e := ih (l.drop (halfN l.length)) (i - halfN l.length) (by rw [List.length_drop]; omega) (by rw [List.length_drop]; omega)
      have en : nthG (l.drop (halfN l.length)) (i - halfN l.length) = nthG l i := by rw [nthG, nthG, List.getD_eq_getElem?_getD, List.getD_eq_getElem?_getD, List.getElem?_drop, show halfN l.length + (i - halfN l.length) = i from by omega]
      rw [en] at e
      rw [List.reverse_cons, upT, List.foldl_append]
      rw [upT] at e
      rw [e]
      exact congrArg some (rootT_two (show 2 ≤ l.length by omega)).symm
theorem path_len (N : Nat) : ∀ (l : List LMark) (i : Nat), l.length < N → (pathT l i).length ≤ l.length - 1 := by
  induction N with
  | zero => intro l i h; exact absurd h (Nat.not_lt_zero _)
  | succ N ih =>
  intro l i hN
  rw [pathT]
  split
  · simp
  · have hA : halfN l.length < l.length ∧ 0 < halfN l.length := by unfold halfN; omega
    split
    · have := ih (l.take (halfN l.length)) i (by rw [List.length_take]; omega)
      rw [List.length_take] at this
      simp only [List.length_cons]; omega
    · have := ih (l.drop (halfN l.length)) (i - halfN l.length) (by rw [List.length_drop]; omega)
      rw [List.length_drop] at this
      simp only [List.length_cons]; omega
end Go.Proofs.YtmngicgdgpimlaaDoor
