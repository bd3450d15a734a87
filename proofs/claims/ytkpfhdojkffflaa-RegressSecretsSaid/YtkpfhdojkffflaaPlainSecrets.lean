/- Regressed states and keys: who can reckon which. Plain. -/
import Derived.Test.YtkpfhdojkffflaaCloseF
import Derived.Test.YtkpfhdojkffflaaLawBack
namespace Go.Proofs.Ytkpfhdojkffflaa
open Go Go.Wk
set_option maxRecDepth 100000

/-- terms that stay secret. -/
inductive Safe (N : Term → Prop) : Term → Prop where
  | mk {k u n : Int} {s : List UInt8} {ks : List Term} (h1 : ¬ N (.mk k u n s ks)) (h2 : (k = 4 ∨ k = 6 ∨ k = 7 ∨ k = 8) → ∀ t ∈ ks, Safe N t) : Safe N (.mk k u n s ks)
theorem Safe.no {N : Term → Prop} {t : Term} (h : Safe N t) : ¬ N t := by cases h; assumption
theorem Safe.kid {N : Term → Prop} {k u n : Int} {s : List UInt8} {ks : List Term} (h : Safe N (.mk k u n s ks)) (hk : k = 4 ∨ k = 6 ∨ k = 7 ∨ k = 8) {t : Term} (ht : t ∈ ks) : Safe N t := by
  cases h with
  | mk _ h2 => exact h2 hk t ht
theorem not_der {N : Term → Prop} (hN : ∀ k u n s ks, N (.mk k u n s ks) → k ≠ 1 ∧ (k = 2 ∨ k = 3 ∨ (k = 8 ∧ N (secretT u)) ∨ ∃ t ∈ ks, N t)) {K : List Term} (hK : ∀ t ∈ K, Safe N t) {t : Term} (h : Der K t) : Safe N t := by
  induction h with
  | known h => exact hK _ h
  | text => exact .mk (fun hn => (hN _ _ _ _ _ hn).1 rfl) (fun h => by omega)
  | @make k u n s ks h2 h3 _ _ ih8 ihk =>
    refine .mk (fun hn => ?_) (fun _ t ht => ihk t ht)
    rcases (hN _ _ _ _ _ hn).2 with q | q | ⟨q, q2⟩ | ⟨t, ht, q⟩
    · exact h2 q
    · exact h3 q
    · exact (ih8 q).no q2
    · exact (ihk t ht).no q
  | part hk _ ht ih => exact ih.kid (by omega) ht
  | unlock _ _ ht ih _ => exact ih.kid (by omega) (by simp [ht])
  | open7 _ _ ht ih _ => exact ih.kid (by omega) ht
/-- the states and keys of epochs behind. -/
def secN (seed : Term) (I J : Nat) (t : Term) : Prop :=
  (∃ j, j < I ∧ (t = iter stepF j seed ∨ t = .pair (.text stateS) (iter stepF j seed))) ∨ (∃ j, j < J ∧ (t = .pair (.text keyS) (iter stepF j seed) ∨ t = lastF (iter stepF j seed)))
def freshT (u n : Int) : Term := .mk 2 u n [] []
theorem secN_kid {a c : Int} {I J : Nat} (hJ : J ≤ I) (k u n : Int) (s : List UInt8) (ks : List Term) (h : secN (freshT a c) I J (.mk k u n s ks)) : k ≠ 1 ∧ (k = 2 ∨ k = 3 ∨ (k = 8 ∧ secN (freshT a c) I J (secretT u)) ∨ ∃ t ∈ ks, secN (freshT a c) I J t) := by
  rcases h with ⟨j, hj, h | h⟩ | ⟨j, hj, h | h⟩
  · cases j with
    | zero =>
      simp only [iter, freshT, Term.mk.injEq] at h
      obtain ⟨rfl, _⟩ := h
      exact ⟨by omega, .inl rfl⟩
    | succ j =>
      simp only [iter, stepF, Term.hash, Term.mk.injEq] at h
      obtain ⟨rfl, _, _, _, rfl⟩ := h
      exact ⟨by omega, .inr (.inr (.inr ⟨_, List.mem_singleton.2 rfl, .inl ⟨j, by omega, .inr rfl⟩⟩))⟩
  · simp only [Term.pair, Term.mk.injEq] at h
    obtain ⟨rfl, _, _, _, rfl⟩ := h
    exact ⟨by omega, .inr (.inr (.inr ⟨iter stepF j (freshT a c), by simp, .inl ⟨j, hj, .inl rfl⟩⟩))⟩
  · simp only [Term.pair, Term.mk.injEq] at h
    obtain ⟨rfl, _, _, _, rfl⟩ := h
    exact ⟨by omega, .inr (.inr (.inr ⟨iter stepF j (freshT a c), by simp, .inl ⟨j, by omega, .inl rfl⟩⟩))⟩
  · simp only [lastF, Term.hash, Term.mk.injEq] at h
    obtain ⟨rfl, _, _, _, rfl⟩ := h
    exact ⟨by omega, .inr (.inr (.inr ⟨_, List.mem_singleton.2 rfl, .inr ⟨j, hj, .inl rfl⟩⟩))⟩
theorem step_ne_last (x y : Term) : stepF x ≠ lastF y := by
  intro h
  simp only [stepF, lastF, Term.hash, Term.pair, Term.text, Term.mk.injEq, List.cons.injEq] at h
  have := h.2.2.2.2.1.2.2.2.2.1.2.2.2.1
  simp [stateS, keyS] at this
theorem kind_iter (a c : Int) (j : Nat) : ∃ k u n s ks, iter stepF j (freshT a c) = .mk k u n s ks ∧ (k = 2 ∨ k = 5) := by
  cases j with
  | zero => exact ⟨2, a, c, [], [], rfl, .inl rfl⟩
  | succ j => exact ⟨5, 0, 0, [], _, rfl, .inr rfl⟩
theorem iter_ne_pair (a c : Int) (j : Nat) (x y : Term) : iter stepF j (freshT a c) ≠ .pair x y := by
  obtain ⟨k, u, n, s, ks, h, hk⟩ := kind_iter a c j
  rw [h]
  intro h2
  simp only [Term.pair, Term.mk.injEq] at h2
  omega
theorem iter_ne_last (a c : Int) (j : Nat) (y : Term) : iter stepF j (freshT a c) ≠ lastF y := by
  cases j with
  | zero => intro h; simp only [iter, freshT, lastF, Term.hash, Term.mk.injEq] at h; omega
  | succ j => exact step_ne_last _ _
theorem last_inj_ne_pair (x y z : Term) : lastF x ≠ .pair y z := by
  intro h; simp only [lastF, Term.hash, Term.pair, Term.mk.injEq] at h; omega
theorem safe_state (a c : Int) (i : Nat) : Safe (secN (freshT a c) i i) (iter stepF i (freshT a c)) := by
  have hn : ¬ secN (freshT a c) i i (iter stepF i (freshT a c)) := by
    rintro (⟨j, hj, h | h⟩ | ⟨j, hj, h | h⟩)
    · have := iter_inj h; omega
    · exact iter_ne_pair a c i _ _ h
    · exact iter_ne_pair a c i _ _ h
    · exact iter_ne_last a c i _ h
  obtain ⟨k, u, n, s, ks, h, hk⟩ := kind_iter a c i
  rw [h] at hn ⊢
  exact .mk hn (fun h => by omega)
theorem safe_key (a c : Int) (I i : Nat) : Safe (secN (freshT a c) I 0) (lastF (iter stepF i (freshT a c))) := by
  refine .mk ?_ (fun h => by omega)
  rintro (⟨j, hj, h | h⟩ | ⟨j, hj, _⟩)
  · exact iter_ne_last a c j _ h.symm
  · exact last_inj_ne_pair _ _ _ h
  · omega
theorem der_step {K : List Term} {t : Term} (h : Der K t) : Der K (stepF t) := by
  refine .make (by omega) (by omega) (fun h => by omega) (fun x hx => ?_)
  obtain rfl := List.mem_singleton.1 hx
  refine .make (by omega) (by omega) (fun h => by omega) (fun x hx => ?_)
  simp only [List.mem_cons, List.not_mem_nil, or_false] at hx
  rcases hx with rfl | rfl
  · exact .text
  · exact h
theorem der_last {K : List Term} {t : Term} (h : Der K t) : Der K (lastF t) := by
  refine .make (by omega) (by omega) (fun h => by omega) (fun x hx => ?_)
  obtain rfl := List.mem_singleton.1 hx
  refine .make (by omega) (by omega) (fun h => by omega) (fun x hx => ?_)
  simp only [List.mem_cons, List.not_mem_nil, or_false] at hx
  rcases hx with rfl | rfl
  · exact .text
  · exact h
theorem der_iter {K : List Term} {t : Term} (h : Der K t) : ∀ d : Nat, Der K (iter stepF d t)
  | 0 => h
  | d + 1 => der_step (der_iter h d)
/-- who knows a state reckons those ahead, and none behind. -/
theorem der_state (a c : Int) (i j : Nat) : Der [iter stepF i (freshT a c)] (iter stepF j (freshT a c)) ↔ i ≤ j := by
  constructor
  · intro h
    rcases Nat.lt_or_ge j i with hj | hj
    · exact absurd (.inl ⟨j, hj, .inl rfl⟩) (not_der (secN_kid (Nat.le_refl _)) (fun t ht => by obtain rfl := List.mem_singleton.1 ht; exact safe_state a c i) h).no
    · exact hj
  · intro h
    have := der_iter (K := [iter stepF i (freshT a c)]) (.known (List.mem_singleton.2 rfl)) (j - i)
    rwa [iter_add, show j - i + i = j from by omega] at this
theorem der_key (a c : Int) (i j : Nat) : Der [iter stepF i (freshT a c)] (lastF (iter stepF j (freshT a c))) ↔ i ≤ j := by
  constructor
  · intro h
    rcases Nat.lt_or_ge j i with hj | hj
    · exact absurd (.inr ⟨j, hj, .inr rfl⟩) (not_der (secN_kid (Nat.le_refl _)) (fun t ht => by obtain rfl := List.mem_singleton.1 ht; exact safe_state a c i) h).no
    · exact hj
  · intro h
    exact der_last ((der_state a c i j).2 h)
/-- who knows keys reckons no state. -/
theorem der_keys (a c : Int) (K : List Term) (hK : ∀ t ∈ K, ∃ i, t = lastF (iter stepF i (freshT a c))) (j : Nat) : ¬ Der K (iter stepF j (freshT a c)) := fun h =>
  (not_der (secN_kid (I := j + 1) (Nat.zero_le _)) (fun t ht => by obtain ⟨i, rfl⟩ := hK t ht; exact safe_key a c _ i) h).no (.inl ⟨j, by omega, .inl rfl⟩)
theorem walk_two (s : List UInt8) (hs : plainF 1 0 0 s 0 = true) {t : Term} {d l : Int} (h : (walkF t (d + 2) (l - 3)).1 = true) (hd : d + 2 ≤ 60) (hl : 4 ≤ l) : (walkF (.hash (.pair (.text s) t)) d l).1 = true := by
  have p5 : plainF 5 0 0 [] 1 = true := rfl
  have p4 : plainF 4 0 0 [] 2 = true := rfl
  have q1 : (walkF (.text s) (d + 1 + 1) (l - 1 - 1)) = (true, l - 3) := by
    rw [Term.text, walkF, if_neg (by simp [hs]; omega), walkLF]
    simp; omega
  have q2 : (walkF (.pair (.text s) t) (d + 1) (l - 1)).1 = true := by
    rw [Term.pair, walkF, if_neg (by simp [p4]; omega), walkLF, q1]
    simp only [if_true]
    rw [walkLF, show d + 1 + 1 = d + 2 from by omega, h, if_pos rfl, walkLF]
  rw [Term.hash, walkF, if_neg (by simp [p5]; omega), walkLF, q2, if_pos rfl, walkLF]
theorem walk_iter {a c : Int} (ha : 1 ≤ a ∧ a ≤ 6) (hc : 0 ≤ c ∧ c ≤ 65535) : ∀ (j : Nat) (d l : Int), d + 2 * j ≤ 60 → 3 * (j : Int) + 1 ≤ l → (walkF (iter stepF j (freshT a c)) d l).1 = true
  | 0, d, l, h1, h2 => by
    have p2 : plainF 2 a c [] 0 = true := by
      have f2 : fieldsOf 2 = 6 := rfl
      have f21 : hasF 6 1 = false := rfl
      have f22 : hasF 6 2 = true := rfl
      have f24 : hasF 6 4 = true := rfl
      have k2 : kidsF 6 = 0 := rfl
      simp [plainF, f2, f21, f22, f24, k2, knownF, ha.1, ha.2, hc.1, hc.2]
    rw [iter, freshT, walkF, if_neg (by simp [p2]; omega)]
    rfl
  | j + 1, d, l, h1, h2 => walk_two stateS rfl (walk_iter ha hc j (d + 2) (l - 3) (by omega) (by omega)) (by omega) (by omega)
theorem good_iter {a c : Int} (ha : 1 ≤ a ∧ a ≤ 6) (hc : 0 ≤ c ∧ c ≤ 65535) {j : Nat} (hj : j ≤ 8) : Good (iter stepF j (freshT a c)) := good_walk.2 (walk_iter ha hc j 1 1200 (by omega) (by omega))
theorem good_last {a c : Int} (ha : 1 ≤ a ∧ a ≤ 6) (hc : 0 ≤ c ∧ c ≤ 65535) {j : Nat} (hj : j ≤ 8) : Good (lastF (iter stepF j (freshT a c))) := good_walk.2 (walk_two keyS rfl (walk_iter ha hc j (1 + 2) (1200 - 3) (by omega) (by omega)) (by omega) (by omega))
theorem back_fresh {a c : Int} (ha : 1 ≤ a ∧ a ≤ 6) (hc : 0 ≤ c ∧ c ≤ 65535) {m : Int} (h1 : 1 ≤ m) (h2 : m ≤ 8) : backF (freshT a c) 8 m = (iter stepF (8 - m).toNat (freshT a c), 0) := by
  have h0 : checkF (freshT a c) = 0 := good_check.2 (good_iter ha hc (j := 0) (by omega))
  rw [back_val h0 h1 h2 (by omega), if_pos (good_check.2 (good_iter ha hc (by omega)))]
theorem key_fresh {a c : Int} (ha : 1 ≤ a ∧ a ≤ 6) (hc : 0 ≤ c ∧ c ≤ 65535) {j : Nat} (hj : j ≤ 8) : keyF (iter stepF j (freshT a c)) = (lastF (iter stepF j (freshT a c)), 0) := by
  unfold keyF
  rw [if_neg (by rw [good_check.2 (good_iter ha hc hj)]; simp), if_pos (good_check.2 (good_last ha hc hj))]
theorem can_one {s t : Term} (hs : Good s) (ht : Good t) : chkF [s] [t] = 0 ∧ canB [s] t = derB [s] t := by
  have h : chkF [s] [t] = 0 := chk_zero.2 ⟨by simp, by simp; exact ⟨hs, ht⟩⟩
  exact ⟨h, by rw [canB, if_pos h]⟩
end Go.Proofs.Ytkpfhdojkffflaa
