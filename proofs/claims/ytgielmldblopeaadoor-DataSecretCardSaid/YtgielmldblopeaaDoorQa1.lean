/- 1: a part of this claim's texts, joined: PlainSafe DataI RowDataSecret. -/
import Derived.Test.YtgielmldblopeaaDoorPa9
import Derived.Test.YtgielmldblopeaaDoorTie
import Derived.Test.YtgielmldblopeaaDoorCards
import Derived.SevenTiedAt
/- What cannot be reckoned: plain. And the small example of layer 7. -/
namespace Go.Proofs.YtgielmldblopeaaDoor
open Go Go.Wk
set_option maxRecDepth 100000

/-- terms that do not tell what N says. -/
inductive Hid (N : Term → Prop) : Term → Prop where
  | mk {k u n : Int} {s : List UInt8} {ks : List Term} (h1 : ¬ N (.mk k u n s ks)) (h2 : (k = 4 ∨ k = 8) → ∀ t ∈ ks, Hid N t) (h6 : k = 6 → ∀ key rest, ks = key :: rest → ¬ N key → ∀ t ∈ rest, Hid N t)
      (h7 : k = 7 → ¬ N (secretT u) → ∀ t ∈ ks, Hid N t) : Hid N (.mk k u n s ks)
theorem Hid.no {N : Term → Prop} {t : Term} (h : Hid N t) : ¬ N t := by cases h; assumption
/-- what N says is made of what N says alone. -/
def Shut (N : Term → Prop) : Prop := ∀ k u n s ks, N (.mk k u n s ks) → k ≠ 1 ∧ (k = 2 ∨ k = 3 ∨ (k = 8 ∧ N (secretT u)) ∨ ∃ t ∈ ks, N t)
theorem hid_der {N : Term → Prop} (hN : Shut N) {K : List Term} (hK : ∀ t ∈ K, Hid N t) {t : Term} (h : Der K t) : Hid N t := by
  induction h with
  | known h => exact hK _ h
  | text => exact .mk (fun hn => (hN _ _ _ _ _ hn).1 rfl) (fun h => by omega) (fun h => by omega) (fun h => by omega)
  | @make k u n s ks h2 h3 _ _ ih8 ihk =>
    refine .mk (fun hn => ?_) (fun _ t ht => ihk t ht) (fun _ key rest he _ t ht => ihk t (by simp [he, ht])) (fun _ _ t ht => ihk t ht)
    rcases (hN _ _ _ _ _ hn).2 with q | q | ⟨q, q2⟩ | ⟨t, ht, q⟩
    · exact h2 q
    · exact h3 q
    · exact (ih8 q).no q2
    · exact (ihk t ht).no q
  | part hk _ ht ih => cases ih with | mk _ h2 _ _ => exact h2 hk _ ht
  | unlock _ _ ht ih1 ih2 => cases ih1 with | mk _ _ h6 _ => exact h6 rfl _ _ rfl ih2.no _ ht
  | open7 _ _ ht ih1 ih2 => cases ih1 with | mk _ _ _ h7 => exact h7 rfl ih2.no _ ht
theorem not_der_of {N : Term → Prop} (hN : Shut N) {K : List Term} (hK : ∀ t ∈ K, Hid N t) {t : Term} (ht : N t) : ¬ Der K t := fun h => (hid_der hN hK h).no ht

def exK : Term := .mk 2 1 1 [] []
def exN : Term := .mk 2 1 2 [] []
def exL : Term := .mk 6 0 0 [] [exK, exN]
theorem exK_good : Good exK := good_walk.2 rfl
theorem exN_good : Good exN := good_walk.2 rfl
theorem exL_good : Good exL := good_walk.2 rfl
theorem ex_a : chkF [exL] [exN] = 0 ∧ canB [exL] exN = false := by
  have h1 : chkF [exL] [exN] = 0 := chk_zero.2 ⟨by simp, by simp; exact ⟨exL_good, exN_good⟩⟩
  refine ⟨h1, ?_⟩
  rw [canB, if_pos h1]
  cases h : derB [exL] exN with
  | false => rfl
  | true =>
    refine absurd (derB_iff.1 h) (not_der_of (N := fun t => t = exK ∨ t = exN) (fun k u n s ks hn => ?_) (fun t ht => ?_) (.inr rfl))
    · rcases hn with hn | hn <;> (simp only [exK, exN, Term.mk.injEq] at hn; obtain ⟨rfl, _⟩ := hn; exact ⟨by omega, .inl rfl⟩)
    · obtain rfl := List.mem_singleton.1 ht
      refine .mk (fun hn => ?_) (fun h => by omega) (fun _ key rest he hnk => ?_) (fun h => by omega)
      · rcases hn with hn | hn <;> (simp only [exK, exN, Term.mk.injEq] at hn; omega)
      · simp only [List.cons.injEq] at he; exact absurd (.inl he.1.symm) hnk
theorem ex_b : chkF [exL, exK] [exN] = 0 ∧ canB [exL, exK] exN = true := by
  have h1 : chkF [exL, exK] [exN] = 0 := chk_zero.2 ⟨by simp, by simp; exact ⟨exL_good, exK_good, exN_good⟩⟩
  refine ⟨h1, ?_⟩
  rw [canB, if_pos h1, derB_iff]
  exact .unlock (u := 0) (n := 0) (s := []) (key := exK) (ks := [exN]) (.known (by simp [exL])) (.known (by simp)) (by simp)
theorem ex_c {km : List (List UInt8 × LTerm)} (A : Apart [exL, exK] km) (hs : ∀ e ∈ km, SubT [exL, exK] e.2.t) : km.length = 3 := by
  have hsub : ∀ t, SubT [exL, exK] t → t = exL ∨ t = exK ∨ t = exN := by
    intro t h
    induction h with
    | top h => simp only [List.mem_cons, List.not_mem_nil, or_false] at h; rcases h with h | h <;> simp [h]
    | kid _ ht ih =>
      rcases ih with h | h | h
      · simp only [exL, Term.mk.injEq] at h
        rw [h.2.2.2.2] at ht
        simp only [List.mem_cons, List.not_mem_nil, or_false] at ht
        exact .inr ht
      · simp only [exK, Term.mk.injEq] at h; rw [h.2.2.2.2] at ht; cases ht
      · simp only [exN, Term.mk.injEq] at h; rw [h.2.2.2.2] at ht; cases ht
  have hL := A.cover exL (by simp)
  have hK := A.cover exK (by simp)
  have hN : inM km (nameF exN) = true := by
    obtain ⟨e, he, h1⟩ := inM_iff.1 hL
    rw [A.names e he] at h1
    have h2 := name_inj (A.good e he).1 exL_good h1
    refine A.closed e he exN ?_
    rw [h2, exL, givesT, if_neg (by omega), if_pos rfl, List.headD_cons, if_pos (can_in hK)]
    simp
  have d1 : nameF exL ≠ nameF exK := fun h => by have := name_inj exL_good exK_good h; simp only [exL, exK, Term.mk.injEq] at this; omega
  have d2 : nameF exL ≠ nameF exN := fun h => by have := name_inj exL_good exN_good h; simp only [exL, exN, Term.mk.injEq] at this; omega
  have d3 : nameF exK ≠ nameF exN := fun h => by have := name_inj exK_good exN_good h; simp only [exK, exN, Term.mk.injEq] at this; omega
  have hnd : [nameF exL, nameF exK, nameF exN].Nodup := by simp [d1, d2, d3]
  have s1 : [nameF exL, nameF exK, nameF exN] ⊆ km.map (·.1) := by
    intro x hx
    simp only [List.mem_cons, List.not_mem_nil, or_false] at hx
    rcases hx with rfl | rfl | rfl
    · obtain ⟨e, he, h⟩ := inM_iff.1 hL; exact List.mem_map.2 ⟨e, he, h⟩
    · obtain ⟨e, he, h⟩ := inM_iff.1 hK; exact List.mem_map.2 ⟨e, he, h⟩
    · obtain ⟨e, he, h⟩ := inM_iff.1 hN; exact List.mem_map.2 ⟨e, he, h⟩
  have s2 : km.map (·.1) ⊆ [nameF exL, nameF exK, nameF exN] := by
    intro x hx
    obtain ⟨e, he, rfl⟩ := List.mem_map.1 hx
    rw [A.names e he]
    rcases hsub _ (hs e he) with h | h | h <;> rw [h] <;> simp
  have l1 := List.Nodup.length_le_of_subset hnd s1
  have l2 := List.Nodup.length_le_of_subset A.nd s2
  simp only [List.length_map, List.length_cons, List.length_nil] at l1 l2
  omega
theorem good_user {k u n : Int} {s : List UInt8} {ks : List Term} (h : Good (.mk k u n s ks)) (hk : k = 7 ∨ k = 8) : 1 ≤ u ∧ u ≤ 6 := by
  have h1 := good_walk.1 h
  rw [walkF] at h1
  split at h1
  · cases h1
  · rename_i hc
    have hp : plainF k u n s ks.length = true := by
      cases hq : plainF k u n s ks.length with
      | true => rfl
      | false => exact absurd (.inr (.inr hq)) hc
    have := plain_shape hp
    omega

/-! what occurs nowhere else -/
inductive Occ (a : Term) : Term → Prop where
  | here : Occ a a
  | kid {k u n : Int} {s : List UInt8} {ks : List Term} {t : Term} (ht : t ∈ ks) (h : Occ a t) : Occ a (.mk k u n s ks)
theorem occ_secret {x n u : Int} : ¬ Occ (.mk 2 x n [] []) (secretT u) := by
  intro h
  unfold secretT at h
  cases h with
  | kid ht _ => cases ht
def kN (K : List Term) (a : Term) (t : Term) : Prop := t = a ∨ (Good t ∧ ¬ Der K t ∧ ¬ Occ a t)
section
variable {K : List Term} {x m : Int}
theorem shut_kN : Shut (kN K (.mk 2 x m [] [])) := by
  intro k u n s ks h
  rcases h with h | ⟨hg, hd, ho⟩
  · simp only [Term.mk.injEq] at h
    exact ⟨by omega, .inl h.1⟩
  · refine ⟨fun h1 => hd (by subst h1; exact .text), ?_⟩
    by_cases h2 : k = 2
    · exact .inl h2
    by_cases h3 : k = 3
    · exact .inr (.inl h3)
    refine .inr (.inr ?_)
    by_cases h8 : k = 8 ∧ ¬ Der K (secretT u)
    · exact .inl ⟨h8.1, .inr ⟨good_secret (good_user hg (.inr h8.1)), h8.2, occ_secret⟩⟩
    · refine .inr (Classical.byContradiction fun hn => hd (.make h2 h3 (fun q => Classical.byContradiction fun q2 => h8 ⟨q, q2⟩) fun t ht => Classical.byContradiction fun q => hn ⟨t, ht, .inr ⟨good_kid hg ht, q, fun hq => ho (.kid ht hq)⟩⟩))
theorem hid_known : ∀ (N : Nat) (t : Term), cnt t ≤ N → Good t → Der K t → ¬ Occ (.mk 2 x m [] []) t → Hid (kN K (.mk 2 x m [] [])) t
  | 0, t, h => by have := cnt_pos t; omega
  | N + 1, .mk k u n s ks, h => by
    intro hg hd ho
    have hks : ∀ t ∈ ks, cnt t ≤ N := fun t ht => by rw [cnt] at h; have := cntL_mem ht; omega
    refine .mk (fun hn => ?_) (fun hk t ht => hid_known N t (hks t ht) (good_kid hg ht) (.part hk hd ht) (fun hq => ho (.kid ht hq))) (fun hk key rest he hnk t ht => ?_) (fun hk hns t ht => ?_)
    · rcases hn with hn | hn
      · exact ho (hn ▸ .here)
      · exact hn.2.1 hd
    · subst hk he
      have hkey : Der K key := Classical.byContradiction fun q => hnk (.inr ⟨good_kid hg (by simp), q, fun hq => ho (.kid (by simp) hq)⟩)
      exact hid_known N t (hks t (by simp [ht])) (good_kid hg (by simp [ht])) (.unlock hd hkey ht) (fun hq => ho (.kid (by simp [ht]) hq))
    · subst hk
      have hkey : Der K (secretT u) := Classical.byContradiction fun q => hns (.inr ⟨good_secret (good_user hg (.inl rfl)), q, occ_secret⟩)
      exact hid_known N t (hks t ht) (good_kid hg ht) (.open7 hd hkey ht) (fun hq => ho (.kid ht hq))
theorem hid_all (hK : ∀ t ∈ K, Good t ∧ ¬ Occ (.mk 2 x m [] []) t) {T : Term} (hT : Hid (kN K (.mk 2 x m [] [])) T) : ∀ t ∈ K ++ [T], Hid (kN K (.mk 2 x m [] [])) t := fun t ht => by
  rcases List.mem_append.1 ht with h | h
  · exact hid_known _ t (Nat.le_refl _) (hK t h).1 (.known h) (hK t h).2
  · obtain rfl := List.mem_singleton.1 h; exact hT
theorem no_kN {k u n : Int} {s : List UInt8} {ks : List Term} (hk : k ≠ 2) (h : .mk 2 x m [] [] ∈ ks) : ¬ kN K (.mk 2 x m [] []) (.mk k u n s ks) := by
  rintro (h1 | ⟨_, _, h1⟩)
  · simp only [Term.mk.injEq] at h1; exact hk h1.1
  · exact h1 (.kid h .here)
theorem keep_lock (hK : ∀ t ∈ K, Good t ∧ ¬ Occ (.mk 2 x m [] []) t) {key : Term} (hg : Good key) (ho : ¬ Occ (.mk 2 x m [] []) key) : derB (K ++ [.mk 6 0 0 [] [key, .mk 2 x m [] []]]) (.mk 2 x m [] []) = derB K key := by
  rw [Bool.eq_iff_iff, derB_iff, derB_iff]
  constructor
  · intro hd
    refine Classical.byContradiction fun hn => not_der_of shut_kN (hid_all hK ?_) (.inl rfl) hd
    refine .mk (no_kN (by omega) (by simp)) (fun h => by omega) (fun _ k' rest he hnk => ?_) (fun h => by omega)
    simp only [List.cons.injEq] at he
    exact absurd (.inr ⟨hg, hn, ho⟩) (he.1 ▸ hnk)
  · intro hd
    exact .unlock (key := key) (u := 0) (n := 0) (s := []) (ks := [.mk 2 x m [] []]) (.known (by simp)) (hd.mono fun t ht => .known (by simp [ht])) (by simp)
theorem keep_seal (hK : ∀ t ∈ K, Good t ∧ ¬ Occ (.mk 2 x m [] []) t) {u : Int} (hu : 1 ≤ u ∧ u ≤ 6) : derB (K ++ [.mk 7 u 0 [] [.mk 2 x m [] []]]) (.mk 2 x m [] []) = derB K (secretT u) := by
  rw [Bool.eq_iff_iff, derB_iff, derB_iff]
  constructor
  · intro hd
    refine Classical.byContradiction fun hn => not_der_of shut_kN (hid_all hK ?_) (.inl rfl) hd
    refine .mk (no_kN (by omega) (by simp)) (fun h => by omega) (fun h => by omega) (fun _ hns => ?_)
    exact absurd (.inr ⟨good_secret hu, hn, occ_secret⟩) hns
  · intro hd
    exact .open7 (u := u) (n := 0) (s := []) (ks := [.mk 2 x m [] []]) (.known (by simp)) (hd.mono fun t ht => .known (by simp [ht])) (by simp)
theorem keep_hash (hK : ∀ t ∈ K, Good t ∧ ¬ Occ (.mk 2 x m [] []) t) : derB (K ++ [.mk 5 0 0 [] [.mk 2 x m [] []]]) (.mk 2 x m [] []) = false := by
  cases h : derB (K ++ [.mk 5 0 0 [] [.mk 2 x m [] []]]) (.mk 2 x m [] []) with
  | false => rfl
  | true =>
    exfalso
    refine not_der_of shut_kN (hid_all hK ?_) (.inl rfl) (derB_iff.1 h)
    exact .mk (no_kN (by omega) (by simp)) (fun h => by omega) (fun h => by omega) (fun h => by omega)
end
theorem cnt_kids (t : LTerm) : cnt t.t = 1 + cntL (t.kids.map LTerm.t) := by rw [t.t_eq, cnt]
theorem dpt_kids (t : LTerm) : dpt t.t = 1 + dptL (t.kids.map LTerm.t) := by rw [t.t_eq, dpt]
theorem dptL_append (a b : List Term) : dptL (a ++ b) = max (dptL a) (dptL b) := by
  induction a with
  | nil => simp [dptL]
  | cons x xs ih => simp only [List.cons_append, dptL, ih]; omega
theorem can_der0 {K : List Term} {t : Term} (hl : K.length ≤ 500) (hK : ∀ t ∈ K, Good t) (ht : Good t) : chkF K [t] = 0 ∧ canB K t = derB K t := by
  have h : chkF K [t] = 0 := chk_zero.2 ⟨hl, fun x hx => by
    rcases List.mem_append.1 hx with hx | hx
    · exact hK x hx
    · obtain rfl := List.mem_singleton.1 hx; exact ht⟩
  exact ⟨h, by rw [canB, if_pos h]⟩
theorem derB_mono {K K' : List Term} {t : Term} (h : ∀ x ∈ K, Der K' x) (ht : derB K t = true) : derB K' t = true := derB_iff.2 ((derB_iff.1 ht).mono h)
theorem derB_same {K W : List Term} {t : Term} (h : ∀ x ∈ W, Der K x) : derB (K ++ W) t = derB K t := by
  rw [Bool.eq_iff_iff, derB_iff, derB_iff]
  constructor
  · exact fun hd => hd.mono fun x hx => (List.mem_append.1 hx).elim .known (h x)
  · exact fun hd => hd.mono fun x hx => .known (List.mem_append_left _ hx)
theorem good_map {xs : List LTerm} (h : ∀ x ∈ xs, Good x.t) : ∀ t ∈ xs.map LTerm.t, Good t := fun t ht => by
  obtain ⟨x, hx, rfl⟩ := List.mem_map.1 ht; exact h x hx
theorem encL_set (ys : List LTerm) (i : Nat) (x : LTerm) (h : i < ys.length) : (encL ys).take (i * 5) ++ x.cells ++ (encL ys).drop (i * 5 + x.cells.length) = encL (ys.set i x) := by
  have e1 : (encL ys).take (i * 5) = encL (ys.take i) := encL_take ys i
  rw [show i * 5 + x.cells.length = (i + 1) * 5 from by simp; omega, encL_drop ys (i + 1) (by omega), e1, ← encT_cells, ← encL_append, ← encL_append, List.set_eq_take_append_cons_drop, if_pos h]
  simp
end Go.Proofs.YtgielmldblopeaaDoor

/- Layer 17: DataSecret. -/
namespace Go.Proofs.YtgielmldblopeaaDoor
open Go Go.Wk
set_option synthInstance.maxSize 100000
set_option synthInstance.maxHeartbeats 400000
set_option maxRecDepth 100000

/-- what stays secret: the states and keys of epochs behind, and the bodies locked ahead. -/
def secD (known : Int) (t : Term) : Prop := secN (freshT 1 1) (8 - known).toNat (8 - known).toNat t ∨ ∃ m : Int, known < m ∧ t = freshT 2 (100 + m)
theorem secD_kind {known k u n : Int} {s : List UInt8} {ks : List Term} (h : secD known (.mk k u n s ks)) : k = 2 ∨ k = 5 ∨ (k = 4 ∧ ∃ a b, ks = [a, b] ∧ (kindT b = 2 ∨ kindT b = 5)) := by
  have hi : ∀ j, kindT (iter stepF j (freshT 1 1)) = 2 ∨ kindT (iter stepF j (freshT 1 1)) = 5 := fun j => by
    obtain ⟨k, u, n, s, ks, e, hk⟩ := kind_iter 1 1 j
    rw [e]; exact hk
  rcases h with (⟨j, -, h | h⟩ | ⟨j, -, h | h⟩) | ⟨m, -, h⟩
  · have := congrArg kindT h; have h2 := hi j; rw [← this] at h2
    exact h2.elim .inl fun h => .inr (.inl h)
  · simp only [Term.pair, Term.mk.injEq] at h
    exact .inr (.inr ⟨h.1, _, _, h.2.2.2.2, hi j⟩)
  · simp only [Term.pair, Term.mk.injEq] at h
    exact .inr (.inr ⟨h.1, _, _, h.2.2.2.2, hi j⟩)
  · simp only [lastF, Term.hash, Term.mk.injEq] at h
    exact .inr (.inl h.1)
  · simp only [freshT, Term.mk.injEq] at h
    exact .inl h.1
theorem shut_secD (known : Int) : Shut (secD known) := by
  intro k u n s ks h
  rcases h with h | ⟨m, -, h⟩
  · obtain ⟨h1, h2⟩ := secN_kid (Nat.le_refl _) k u n s ks h
    refine ⟨h1, ?_⟩
    rcases h2 with h2 | h2 | ⟨h2, h3⟩ | ⟨t, ht, h3⟩
    · exact .inl h2
    · exact .inr (.inl h2)
    · exact .inr (.inr (.inl ⟨h2, .inl h3⟩))
    · exact .inr (.inr (.inr ⟨t, ht, .inl h3⟩))
  · simp only [freshT, Term.mk.injEq] at h
    exact ⟨by omega, .inl h.1⟩
def bodyT (w n : Int) : Term := dataT ⟨[102], n, n, w, lkT 1 1 (8 - n).toNat (freshT 2 (100 + n))⟩ n
def bodies (w : Int) (k : Nat) : List Term := (List.range k).map fun i : Nat => bodyT w ((i : Int) + 1)
theorem bodies_succ (w : Int) (k : Nat) : bodies w (k + 1) = bodies w k ++ [bodyT w ((k : Int) + 1)] := by
  simp [bodies, List.range_succ]
theorem secD_text {known : Int} (s : List UInt8) : Hid (secD known) (textT s) := .mk (fun h => by
  rcases secD_kind h with h | h | ⟨h, -⟩ <;> omega) (fun h => by omega) (fun h => by omega) (fun h => by omega)
theorem secD_pair {known : Int} {a b : Term} (hk : kindT b = 1 ∨ kindT b = 4) (ha : Hid (secD known) a) (hb : Hid (secD known) b) : Hid (secD known) (.pair a b) := .mk (fun h => by
  rcases secD_kind h with h | h | ⟨-, x, y, h, h2⟩
  · omega
  · omega
  · simp only [List.cons.injEq, and_true] at h
    rw [← h.2] at h2; omega) (fun _ t ht => by simp at ht; rcases ht with rfl | rfl <;> assumption) (fun h => by omega) (fun h => by omega)
theorem hid_lk {known n : Int} (hk : 1 ≤ known ∧ known ≤ 8) (hn : 1 ≤ n ∧ n ≤ 8) : Hid (secD known) (lkT 1 1 (8 - n).toNat (freshT 2 (100 + n))) := by
  refine .mk (fun h => ?_) (fun h => by omega) (fun _ key rest he hnk t ht => ?_) (fun h => by omega)
  · rcases secD_kind h with h | h | ⟨h, -⟩ <;> omega
  · simp only [List.cons.injEq] at he
    obtain ⟨rfl, rfl⟩ := he
    obtain rfl := List.mem_singleton.1 ht
    have hle : n ≤ known := Classical.byContradiction fun h => hnk (.inl (.inr ⟨(8 - n).toNat, by omega, .inr rfl⟩))
    refine .mk (fun h => ?_) (fun h => by omega) (fun h => by omega) (fun h => by omega)
    rcases h with (⟨j, -, h | h⟩ | ⟨j, -, h | h⟩) | ⟨m, hm, h⟩
    · cases j with
      | zero => simp only [iter, freshT, Term.mk.injEq] at h; omega
      | succ j => simp only [iter, stepF, Term.hash, Term.mk.injEq] at h; omega
    · simp only [Term.pair, Term.mk.injEq] at h; omega
    · simp only [Term.pair, Term.mk.injEq] at h; omega
    · simp only [lastF, Term.hash, Term.mk.injEq] at h; omega
    · simp only [freshT, Term.mk.injEq] at h; omega
theorem hid_body {known w n : Int} (hk : 1 ≤ known ∧ known ≤ 8) (hn : 1 ≤ n ∧ n ≤ 8) : Hid (secD known) (bodyT w n) := by
  refine .mk (fun h => ?_) (fun _ t ht => ?_) (fun h => by omega) (fun h => by omega)
  · rcases secD_kind h with h | h | ⟨h, -⟩ <;> omega
  · obtain rfl := List.mem_singleton.1 ht
    exact secD_pair (.inr rfl) (secD_text _) (secD_pair (.inr rfl) (secD_text _) (secD_pair (.inr rfl) (secD_text _) (secD_pair (.inr rfl) (secD_text _) (secD_pair (.inl rfl) (hid_lk hk hn) (secD_text _)))))
theorem hid_state {known : Int} (hk : 1 ≤ known ∧ known ≤ 8) : Hid (secD known) (iter stepF (8 - known).toNat (freshT 1 1)) := by
  have hn : ¬ secD known (iter stepF (8 - known).toNat (freshT 1 1)) := by
    rintro (h | ⟨m, -, h⟩)
    · exact (safe_state 1 1 _).no h
    · generalize (8 - known).toNat = j at h
      cases j with
      | zero => simp only [iter, freshT, Term.mk.injEq] at h; omega
      | succ j => simp only [iter, stepF, Term.hash, freshT, Term.mk.injEq] at h; omega
  obtain ⟨k, u, n, s, ks, h, hk2⟩ := kind_iter 1 1 (8 - known).toNat
  rw [h] at hn ⊢
  exact .mk hn (fun h => by omega) (fun h => by omega) (fun h => by omega)
theorem secret17 {known e w : Int} (hk : 1 ≤ known ∧ known ≤ 8) (he : 1 ≤ e ∧ e ≤ 8) : derB (iter stepF (8 - known).toNat (freshT 1 1) :: bodies w 8) (freshT 2 (100 + e)) = decide (e ≤ known) := by
  rw [Bool.eq_iff_iff, derB_iff, decide_eq_true_iff]
  constructor
  · intro hd
    refine Classical.byContradiction fun hno => not_der_of (shut_secD known) (fun t ht => ?_) (.inr ⟨e, by omega, rfl⟩) hd
    rcases List.mem_cons.1 ht with rfl | ht
    · exact hid_state hk
    · obtain ⟨i, hi, rfl⟩ := List.mem_map.1 ht
      have := List.mem_range.1 hi
      exact hid_body hk ⟨by omega, by omega⟩
  · intro hle
    have hb : bodyT w e ∈ bodies w 8 := List.mem_map.2 ⟨(e - 1).toNat, List.mem_range.2 (by omega), by rw [show (((e - 1).toNat : Nat) : Int) + 1 = e from by omega]⟩
    obtain ⟨K, hK⟩ : ∃ K, K = iter stepF (8 - known).toNat (freshT 1 1) :: bodies w 8 := ⟨_, rfl⟩
    rw [← hK]
    have h0 : Der K (bodyT w e) := .known (by rw [hK]; simp [hb])
    have h1 := Der.part (u := w) (n := e) (s := []) (.inr rfl) h0 (List.mem_singleton.2 rfl)
    have h2 := Der.part (.inl rfl) h1 (t := _) (by exact List.mem_cons_of_mem _ (List.mem_singleton.2 rfl))
    have h3 := Der.part (.inl rfl) h2 (t := _) (by exact List.mem_cons_of_mem _ (List.mem_singleton.2 rfl))
    have h4 := Der.part (.inl rfl) h3 (t := _) (by exact List.mem_cons_of_mem _ (List.mem_singleton.2 rfl))
    have h5 := Der.part (.inl rfl) h4 (t := _) (by exact List.mem_cons_of_mem _ (List.mem_singleton.2 rfl))
    have h6 : Der K (lkT 1 1 (8 - e).toNat (freshT 2 (100 + e))) := Der.part (.inl rfl) h5 (t := _) (by exact List.mem_cons_self)
    have h7 : Der K (iter stepF (8 - e).toNat (freshT 1 1)) := by
      have h8 : Der K (iter stepF (8 - known).toNat (freshT 1 1)) := .known (by rw [hK]; simp)
      have := der_iter h8 (known - e).toNat
      rwa [iter_add, show (known - e).toNat + (8 - known).toNat = (8 - e).toNat from by omega] at this
    exact .unlock h6 (der_last h7) (by simp)
theorem secret17_can {known e w : Int} (hk : 1 ≤ known ∧ known ≤ 8) (he : 1 ≤ e ∧ e ≤ 8) (hw : 1 ≤ w ∧ w ≤ 6) :
    chkF (iter stepF (8 - known).toNat (freshT 1 1) :: bodies w 8) [freshT 2 (100 + e)] = 0 ∧ canB (iter stepF (8 - known).toNat (freshT 1 1) :: bodies w 8) (freshT 2 (100 + e)) = decide (e ≤ known) := by
  obtain ⟨h1, h2⟩ := can_der0 (K := iter stepF (8 - known).toNat (freshT 1 1) :: bodies w 8) (t := freshT 2 (100 + e)) (by simp [bodies]) (fun t ht => by
    rcases List.mem_cons.1 ht with rfl | ht
    · exact good_iter (by omega) (by omega) (by omega)
    · obtain ⟨i, hi, rfl⟩ := List.mem_map.1 ht
      have := List.mem_range.1 hi
      exact good_dataF (by omega) (by omega) hw (by omega) (by omega) (by omega) (by omega) (by omega) (by omega)) (good_fresh (by omega) (by omega))
  exact ⟨h1, h2.trans (secret17 hk he)⟩
theorem mod6d (x : Int) : 1 ≤ (max x 0).tmod 6 + 1 ∧ (max x 0).tmod 6 + 1 ≤ 6 := by
  rw [Int.tmod_eq_emod_of_nonneg (by omega)]; omega
theorem datasecret_c (known0 epoch0 writer0 : Int) (w0 : World) (ht : Stable (fun _ => False) w0 LibF) : Ret Tryd.prog 6 [.int .i64 known0, .int .i64 epoch0, .int .i64 writer0] w0 (fun _ => False) fun v _ => v = .bool true := by
  refine enter Tryd.func6 rfl rfl (Wd.begin (fs := [TabF, LibF]) (by simp; exact ⟨ht.imp fun _ h => h.1, ht⟩)) (fun a S => ?_)
  simp only [Tryd.ntmps6, List.length_cons, List.length_nil, Nat.reduceAdd, Nat.reduceSub, List.replicate_succ, List.replicate_zero, List.cons_append, List.nil_append] at S
  refine c_seq ?_
  refine c_region ?_
  refine sq S ?_; clear S; intro a S
  refine wl_nil ?_
  refine xtn ?_
  iterate 2 (refine c_seq ?_)
  refine c_region ?_
  refine sr S (wakes17_c _ (S.mem.fact0 LibF)) ?_; clear S; rintro _ a w rfl S
  refine sq S ?_; clear S; intro a S
  rw [show (!true) = false from rfl] at S
  refine wl_nil ?_
  refine xtn ?_
  refine c_condF S ?_
  refine c_skip ?_
  refine xtn ?_
  refine c_seq ?_
  refine c_region ?_
  refine sc S ?_; clear S; intro a w S
  refine sa S ?_; clear S; intro b7 a w S
  refine sw S ?_; clear S; intro a w S
  refine wl_nil ?_
  refine xtn ?_
  refine c_seq ?_
  refine c_region ?_
  iterate 4 (refine sq S ?_; clear S; intro a S)
  have hkn := mod8 known0
  rw [w64 ((max known0 0).tmod 8 + 1) (by omega) (by omega)] at S
  generalize (max known0 0).tmod 8 + 1 = known at S hkn
  iterate 4 (refine sq S ?_; clear S; intro a S)
  have hep := mod8 epoch0
  rw [w64 ((max epoch0 0).tmod 8 + 1) (by omega) (by omega)] at S
  generalize (max epoch0 0).tmod 8 + 1 = epoch at S hep
  iterate 2 (refine sq S ?_; clear S; intro a S)
  refine wl_nil ?_
  refine xtn ?_
  refine c_seq ?_
  refine c_region ?_
  iterate 4 (refine sq S ?_; clear S; intro a S)
  have hwr := mod6d writer0
  rw [w64 ((max writer0 0).tmod 6 + 1) (by omega) (by omega)] at S
  generalize (max writer0 0).tmod 6 + 1 = writer at S hwr
  refine sq S ?_; clear S; intro a S
  refine wl_nil ?_
  refine xtn ?_
  refine c_seq ?_
  refine c_region ?_
  iterate 2 (refine sq S ?_; clear S; intro a S)
  refine sr S (state_c (freshL 1 1) known _ w (foots_lt S) (S.t _)) ?_; clear S; rintro _ a w ⟨h, rfl, hh, hhf⟩ S
  have hbf := back_fresh (a := 1) (c := 1) (by omega) (by omega) hkn.1 hkn.2
  rw [show (freshL 1 1).t = freshT 1 1 from rfl, hbf] at hh S
  replace S := S.add hhf
  iterate 3 (refine sq S ?_; clear S; intro a S)
  refine sa S ?_; clear S; intro b8 a w S
  refine sw S ?_; clear S; intro a w S
  refine sq S ?_; clear S; intro a S
  refine wl_nil ?_
  refine xtn ?_
  iterate 2 (refine c_seq ?_)
  refine c_region ?_
  iterate 2 (refine sq S ?_; clear S; intro a S)
  rw [show (!decide ((0 : Int) = 0)) = false from rfl] at S
  refine wl_nil ?_
  refine xtn ?_
  refine c_condF S ?_
  refine c_skip ?_
  refine xtn ?_
  refine c_seq ?_
  refine c_region ?_
  refine sq S ?_; clear S; intro a S
  refine sn S ?_; clear S; intro b43 a w S
  refine sq S ?_; clear S; intro a S
  refine wl_nil ?_
  refine xtn ?_
  iterate 2 (refine c_seq ?_)
  refine c_region ?_
  refine sq S ?_; clear S; intro a S
  refine wl_nil ?_
  refine xtn ?_
  refine c_block ?_
  replace S := S.boxRow b43 5 1 rfl (by simp [maxLen])
  rw [show ([Value.int .i64 h.kind, .int .i64 h.user, .int .i64 h.num, str h.text, .slice h.p h.kids.length h.cap] : List Value) = encL [h] from by simp [encL, Enc.cells, LTerm.cells]] at S
  refine c_fore4 S (fun (k : Nat) (os : List LTerm) (pk : Option Addr) (ck : Nat) uu => [(6, uu 6), (3, .slice pk os.length ck), (0, .int .i64 ((k : Int) + 1)), (0, uu 12), (0, uu 13), (0, uu 14), (0, uu 15), (0, uu 16), (0, uu 17), (26, uu 44), (0, uu 45), (0, uu 46), (0, uu 47), (0, uu 48), (0, uu 49), (0, uu 50), (0, uu 51), (0, uu 52), (0, uu 53), (0, uu 54), (0, uu 55), (0, uu 56), (0, uu 57), (0, uu 58), (0, uu 59), (0, uu 60), (0, uu 61), (0, uu 62), (0, uu 63), (0, uu 64), (0, uu 65), (0, uu 66), (0, uu 67), (0, uu 68), (0, uu 69), (0, uu 70), (0, uu 71), (0, uu 72), (0, uu 73), (0, uu 74), (0, uu 75), (0, uu 76), (0, uu 77), (0, uu 78), (0, uu 79), (0, uu 80), (0, uu 81), (0, uu 82), (0, uu 83), (0, uu 84), (0, uu 85)]) (fun (k : Nat) (os : List LTerm) (pk : Option Addr) (ck : Nat) => [Wk.row 24 5 pk os.length ck (encL os), Wk.box b7 24 (freshL 1 1).cells]) (fun (k : Nat) (os : List LTerm) (pk : Option Addr) (ck : Nat) => [AllI os, TabF, LibF]) (fun (k : Nat) (os : List LTerm) (pk : Option Addr) (ck : Nat) => k ≤ 8 ∧ os.map LTerm.t = iter stepF (8 - known).toNat (freshT 1 1) :: bodies writer k) (fun (k : Nat) (os : List LTerm) (pk : Option Addr) (ck : Nat) => 8 - k) (0) ([h]) (some ⟨b43, 0, none⟩) (1) ?_ S.uu ?_ ?_
  · exact ⟨Nat.zero_le _, by rw [List.map_singleton, hh]; rfl⟩
  · have h1 := S.t h
    exact (S.add (Φ := AllI (α := LTerm) [h]) (fun w' hw' x hx => by obtain rfl := List.mem_singleton.1 hx; exact h1 w' hw')).sub _ _
  · clear S; rintro k os pk ck uu a w ⟨hk8, hos⟩ S
    iterate 2 (refine c_seq ?_)
    refine c_region ?_
    iterate 2 (refine sq S ?_; clear S; intro a S)
    refine wl_nil ?_
    refine xtn ?_
    refine c_cond S (fun h11 => ?_) (fun h11 => ?_)
    · refine c_skip ?_
      refine xtn ?_
      refine c_seq ?_
      refine c_block ?_
      refine c_seq ?_
      have hkk : k < 8 := by simp at h11; omega
      have hol : os.length ≤ 9 := by have := congrArg List.length hos; simp [bodies] at this; omega
      refine c_region ?_
      iterate 2 (refine sq S ?_; clear S; intro a S)
      refine sr S (state_c (freshL 1 1) ((k : Int) + 1) _ w (foots_lt S) (S.t _)) ?_; clear S; rintro _ a w ⟨s, rfl, hs, hsf⟩ S
      have hbf := back_fresh (a := 1) (c := 1) (by omega) (by omega) (m := (k : Int) + 1) (by omega) (by omega)
      rw [show (freshL 1 1).t = freshT 1 1 from rfl, hbf] at hs S
      replace S := S.add hsf
      iterate 3 (refine sq S ?_; clear S; intro a S)
      refine sa S ?_; clear S; intro b12 a w S
      refine sw S ?_; clear S; intro a w S
      refine sq S ?_; clear S; intro a S
      refine wl_nil ?_
      refine xtn ?_
      refine c_seq ?_
      refine c_drwe2 (.q 0 (.q 1 (.q 2 (.b2 3 8 (.b2 4 8 (.q 5 (.q 6 (.q 7 (.l 8 (.l 9 (.q 10 (.e))))))) (.l 4 (.q 5 (.q 6 (.q 7 (.l 9 (.q 10 (.e)))))))) (.l 3 (.l 4 (.q 5 (.q 6 (.q 7 (.l 9 (.q 10 (.e)))))))))))) S (fun (b : Nat) (x : LTerm) uu => [(14, .pointer (some ⟨b, 0, none⟩)), (0, .int .i64 0), (38, uu 54), (0, uu 55), (0, uu 56), (0, uu 57), (0, uu 58), (0, uu 59), (0, uu 60), (0, uu 61)]) [Wk.box b12 24 s.cells, Wk.row 24 5 pk os.length ck (encL os), Wk.box b7 24 (freshL 1 1).cells] (fun (b : Nat) (x : LTerm) => [Wk.box b 24 x.cells, Wk.box b12 24 s.cells, Wk.row 24 5 pk os.length ck (encL os), Wk.box b7 24 (freshL 1 1).cells]) (fun (b : Nat) (x : LTerm) => [LtF x, AllI os, TabF, LibF]) (fun (b : Nat) (x : LTerm) => x.t = lkT 1 1 (8 - ((k : Int) + 1)).toNat (freshT 2 (100 + ((k : Int) + 1)))) ?_ ?_
      · intro w S
        iterate 3 (refine tq S ?_; clear S; intro a S)
        rw [w64 (100 + ((k : Int) + 1)) (by omega) (by omega)] at S
        refine tb2 ?_ ?_
        · refine sc S ?_; clear S; intro a w S
          refine te S ?_
          refine tb2 ?_ ?_
          · refine sr S (dlock_c s (freshL 2 (100 + ((k : Int) + 1))) _ w (foots_lt S) (S.t s) (S.t _)) ?_; clear S; rintro _ a w ⟨x, rfl, hx, hxf⟩ S
            have hlk := lock_fresh (a := 1) (c := 1) (b := 2) (m := 100 + ((k : Int) + 1)) (by omega) (by omega) (by omega) (by omega) (j := (8 - ((k : Int) + 1)).toNat) (by omega)
            have hs' : iter stepF (8 - ((k : Int) + 1)).toNat (freshT 1 1) = s.t := hs.symm
            rw [hs', show freshT 2 (100 + ((k : Int) + 1)) = (freshL 2 (100 + ((k : Int) + 1))).t from rfl] at hlk
            rw [hlk] at hx S
            replace S := S.add hxf
            refine te S ?_
            iterate 3 (refine tq S ?_; clear S; intro a S)
            refine tl ?_
            refine sa S ?_; clear S; intro b14 a w S
            refine te S ?_
            refine tl ?_
            refine sw S ?_; clear S; intro a w S
            refine te S ?_
            refine tq S ?_; clear S; intro a S
            refine tn ?_
            exact ⟨b14, x, S.uu, hx, S.sub _ _⟩
          · refine sa S ?_; clear S; intro b14 a w S
            refine te S ?_
            refine tl ?_
            refine sr S (dlock_c s (freshL 2 (100 + ((k : Int) + 1))) _ w (foots_lt S) (S.t s) (S.t _)) ?_; clear S; rintro _ a w ⟨x, rfl, hx, hxf⟩ S
            have hlk := lock_fresh (a := 1) (c := 1) (b := 2) (m := 100 + ((k : Int) + 1)) (by omega) (by omega) (by omega) (by omega) (j := (8 - ((k : Int) + 1)).toNat) (by omega)
            have hs' : iter stepF (8 - ((k : Int) + 1)).toNat (freshT 1 1) = s.t := hs.symm
            rw [hs', show freshT 2 (100 + ((k : Int) + 1)) = (freshL 2 (100 + ((k : Int) + 1))).t from rfl] at hlk
            rw [hlk] at hx S
            replace S := S.add hxf
            refine te S ?_
            iterate 3 (refine tq S ?_; clear S; intro a S)
            refine tl ?_
            refine sw S ?_; clear S; intro a w S
            refine te S ?_
            refine tq S ?_; clear S; intro a S
            refine tn ?_
            exact ⟨b14, x, S.uu, hx, S.sub _ _⟩
        · refine sa S ?_; clear S; intro b14 a w S
          refine te S ?_
          refine tl ?_
          refine sc S ?_; clear S; intro a w S
          refine te S ?_
          refine tl ?_
          refine sr S (dlock_c s (freshL 2 (100 + ((k : Int) + 1))) _ w (foots_lt S) (S.t s) (S.t _)) ?_; clear S; rintro _ a w ⟨x, rfl, hx, hxf⟩ S
          have hlk := lock_fresh (a := 1) (c := 1) (b := 2) (m := 100 + ((k : Int) + 1)) (by omega) (by omega) (by omega) (by omega) (j := (8 - ((k : Int) + 1)).toNat) (by omega)
          have hs' : iter stepF (8 - ((k : Int) + 1)).toNat (freshT 1 1) = s.t := hs.symm
          rw [hs', show freshT 2 (100 + ((k : Int) + 1)) = (freshL 2 (100 + ((k : Int) + 1))).t from rfl] at hlk
          rw [hlk] at hx S
          replace S := S.add hxf
          refine te S ?_
          iterate 3 (refine tq S ?_; clear S; intro a S)
          refine tl ?_
          refine sw S ?_; clear S; intro a w S
          refine te S ?_
          refine tq S ?_; clear S; intro a S
          refine tn ?_
          exact ⟨b14, x, S.uu, hx, S.sub _ _⟩
      clear S; rintro b x uu a w hx S
      refine xtn ?_
      refine c_seq ?_
      refine c_region ?_
      iterate 6 (refine sq S ?_; clear S; intro a S)
      have hdx := fresh_dat (v := (k : Int) + 1) (n := (k : Int) + 1) (r := writer) hx
      have hdb := dat_f (v := (k : Int) + 1) (n := (k : Int) + 1) (r := writer) (by omega) (by omega) hwr (a := 1) (c := 1) (b := 2) (m := 100 + ((k : Int) + 1)) (by omega) (by omega) (by omega) (by omega) (j := (8 - ((k : Int) + 1)).toNat) (by omega)
      have hgd := good_dataF (v := (k : Int) + 1) (n := (k : Int) + 1) (r := writer) (leaf := (k : Int) + 1) (by omega) (by omega) hwr (by omega) (a := 1) (c := 1) (b := 2) (m := 100 + ((k : Int) + 1)) (by omega) (by omega) (by omega) (by omega) (j := (8 - ((k : Int) + 1)).toNat) (by omega)
      refine sr S (dmake_c ⟨[102], (k : Int) + 1, (k : Int) + 1, writer, x⟩ ((k : Int) + 1) (by simp) _ w (foots_lt S) (S.mem.fact TabF) (S.t x)) ?_; clear S; rintro _ a w ⟨t, e, rfl, htf, he0, he1⟩ S
      rw [hdx] at he0 he1
      have he : e = 0 := Classical.byContradiction fun h => by
        rcases (he1 h).2 with q | q | q
        · rw [hdb] at q; exact absurd q.2 (by simp)
        · exact q.2.2 ⟨by omega, by omega⟩
        · exact q.2.2.2 hgd
      subst he
      have htt : t.t = bodyT writer ((k : Int) + 1) := (he0 rfl).2.2.2
      replace S := S.add htf
      iterate 3 (refine sq S ?_; clear S; intro a S)
      refine sa S ?_; clear S; intro b16 a w S
      refine sw S ?_; clear S; intro a w S
      refine sq S ?_; clear S; intro a S
      refine wl_nil ?_
      refine xtn ?_
      iterate 2 (refine c_seq ?_)
      refine c_region ?_
      iterate 3 (refine sq S ?_; clear S; intro a S)
      iterate 2 (refine gQ S ?_; clear S; intro a S)
      iterate 2 (refine sq S ?_; clear S; intro a S)
      iterate 2 (refine gQ S ?_; clear S; intro a S)
      refine sq S ?_; clear S; intro a S
      refine wl_nil ?_
      refine xtn ?_
      refine c_cond S (fun h16 => ?_) (fun h16 => ?_)
      · refine c_seq ?_
        refine c_region ?_
        refine sq S ?_; clear S; intro a S
        refine wl_nil ?_
        refine xtn ?_
        refine c_ret ?_
        refine xtr ?_
        refine xbr ?_
        iterate 2 (refine xtr ?_)
        refine xbr ?_
        refine xtr ?_
        exfalso
        simp at h16
      · refine c_skip ?_
        refine xtn ?_
        refine c_region ?_
        iterate 2 (refine sq S ?_; clear S; intro a S)
        refine sn S ?_; clear S; intro b84 a w S
        refine sap S (by simp [maxLen]; omega) (by omega) ?_; clear S; rintro p18 c18 a w - S
        rw [show encL os ++ [Value.int .i64 t.kind, .int .i64 t.user, .int .i64 t.num, str t.text, .slice t.p t.kids.length t.cap] = encL (os ++ [t]) from by rw [encL_append]; simp [encL, Enc.cells, LTerm.cells], show os.length + 1 = (os ++ [t]).length from by simp] at S
        refine sq S ?_; clear S; intro a S
        refine wl_nil ?_
        refine xbn ?_
        refine xtn ?_
        refine c_region ?_
        iterate 3 (refine sq S ?_; clear S; intro a S)
        refine wl_nil ?_
        refine xtn ?_
        rw [w64 ((k : Int) + 1 + 1) (by omega) (by omega), show (k : Int) + 1 + 1 = ((k + 1 : Nat) : Int) + 1 from by omega] at S
        have h1 := S.wd.facts (AllI os) (by simp)
        have h2 := S.t t
        replace S := S.add (AllI.snoc (r := t) h1 h2)
        exact ⟨k + 1, os ++ [t], p18, c18, S.uu, ⟨hkk, by rw [List.map_append, hos, List.map_singleton, htt, bodies_succ]; rfl⟩, S.sub _ _, by omega⟩
    · refine c_exit ?_
      iterate 2 (refine xte ?_)
      refine xbe ?_
      refine xtn ?_
      refine c_seq ?_
      have hk8' : k = 8 := by simp at h11; omega
      subst hk8'
      have hz := secret17_can (w := writer) hkn hep hwr
      rw [← hos] at hz
      have hall := S.wd.facts (AllI os) (by simp)
      replace S := S.rowToGl (e := 24) (sz := 5) (n := os.length) (c := ck) pk os hall
      refine c_region ?_
      iterate 3 (refine sq S ?_; clear S; intro a S)
      rw [w64 (100 + epoch) (by omega) (by omega)] at S
      refine sc S ?_; clear S; intro a w S
      refine sr S (can_cl os (freshL 2 (100 + epoch)) pk ck _ ((S.gl0 pk (xs := os)).imp fun _ h => gl_ls h) (S.t0 _)) ?_; clear S; rintro _ a w rfl S
      rw [show (freshL 2 (100 + epoch)).t = freshT 2 (100 + epoch) from rfl, hz.1, hz.2] at S
      iterate 5 (refine sq S ?_; clear S; intro a S)
      refine wl_nil ?_
      refine xtn ?_
      refine c_seq ?_
      refine c_region ?_
      iterate 3 (refine sq S ?_; clear S; intro a S)
      iterate 5 (refine gQ S ?_; clear S; intro a S)
      iterate 2 (refine sq S ?_; clear S; intro a S)
      refine wl_nil ?_
      refine xtn ?_
      refine c_ret ?_
      refine end1 S (fun _ => ?_)
      simp
end Go.Proofs.YtgielmldblopeaaDoor

/- DataSecret answers true at every input and leaves it as it was: the row, and the tied card. -/
namespace Go.Proofs.YtgielmldblopeaaDoor
open Go Go.Wk
open Go.ChangeShapes Go.WideShapes Go.ChangeAt Go.RowKit
set_option maxRecDepth 100000

theorem datasecret_lifted (os : Os) (started : os.Started) (H : Type) (enc : TypeId × Value → H) :
    ReturnsInHanded {} Tryd.checked os 6 .any (fun w args => (Rows.dataSecretSpec.pre enc Tryd.prog Tryd.f6 Rows.dataSecretRow.domain false w args ∧ laidMet Tryd.prog laidL w) ∧ sizedMet enc Tryd.prog Tryd.f6 (OpenSpec.ofChange Rows.dataSecretSpec) false w args)
      (Rows.dataSecretSpec.post enc Tryd.prog Tryd.f6 false true false false) := by
  refine returnsInHanded_of_change_and (C := Tryd.checked) (X := fun w _ => laidMet Tryd.prog laidL w) (fun _ _ _ hh h => h.of_heap hh) own started (by kernel_rfl) Tryd.func6
    (ChangeSpec.witness_at (enc := enc) (C := Tryd.checked) (os := os) (X := fun w _ => laidMet Tryd.prog laidL w) false (laidWorld os) #[.int .i64 0, .int .i64 0, .int .i64 0] 8 rfl (by kernel_rfl) (by kernel_rfl) (by kernel_rfl) (by kernel_rfl) (by kernel_rfl) (laidWorld_met os _)) ?_
  intro W base args ds gs before hval0 hW _ _ hL _
  have hval : ∀ (j : Nat) t v, Tryd.f6.params[j]? = some t → args[j]? = some v → Value.okWide Tryd.prog W .any base t v := hval0
  have hW2 := hW
  obtain ⟨p, q, hA0, hV, rfl, _, _⟩ := hW
  have hA : DataW.TrodAll enc Tryd.prog W 0 (fun _ => true) true Tryd.f6.params.toList args.toList ds p := hA0
  rw [Tryd.params6] at hA hval
  obtain ⟨v0, v1, v2, d0, d1, d2, p0, p1, p2, rfl, rfl, rfl, h0, h1, h2⟩ := trodAll_three hA
  obtain ⟨rfl, rfl⟩ := trodVars_none hV
  obtain ⟨known, rfl, rfl, rfl, wknown⟩ := open_int Tryd.underlying3 (hval 0 3 v0 rfl rfl) h0
  obtain ⟨epoch, rfl, rfl, rfl, wepoch⟩ := open_int Tryd.underlying3 (hval 1 3 v1 rfl rfl) h1
  obtain ⟨writer, rfl, rfl, rfl, wwriter⟩ := open_int Tryd.underlying3 (hval 2 3 v2 rfl rfl) h2
  refine Ret.law (datasecret_c known epoch writer W (lib_of_laid hL).stable) fun W1 hag => ?_
  exact ⟨_, rfl, law_post (B := 4) laidOut (by kernel_rfl) rfl rfl rfl hW2 rfl rfl rfl hag⟩
theorem datasecret_row : Rows.DataSecretSaid :=
  OpenClaim.holds_of_wide 6 Tryd.f6 rfl rfl rfl rfl rfl rfl rfl ⟨rfl, rfl, rfl, rfl, rfl⟩ rfl rfl rfl rfl rfl (by kernel_rfl) Tryd.func6 (by kernel_rfl)
    (of_decide_eq_true (by kernel_rfl)) (by unfold Func.isWrapper; rw [if_neg (of_decide_eq_false (by kernel_rfl))]; exact ⟨rfl, rfl⟩)
    (fun os started H enc _ => datasecret_lifted os started H enc)
theorem datasecret_holds : Rows.DataSecretCardSaid :=
  Claim7.holds_tied_plain_at .later [] [.data, .data, .data, .sentinel, .sentinel] true (true, "ffa992c3ea0898cc87c9e270811ba28030a1923f6bb03dd9bf75b2254005cd8f") true
    datasecret_row (fun _ h => by cases h) (by kernel_rfl) (fun _ h => by cases h) dataSecret_row_tie rfl ⟨rfl, rfl⟩ (by kernel_rfl) rfl
    (fun f fn hf hfn => by
      obtain rfl : f = 6 := Option.some.inj ((show Tryd.prog.funcNamed "safehouse/safehouselaw17.DataSecret" = some 6 by kernel_rfl).symm.trans hf) |>.symm
      obtain rfl : fn = Tryd.f6 := (Option.some.inj (Tryd.func6.symm.trans hfn)).symm
      exact ⟨by kernel_rfl, fun j t ht => by
        rw [Tryd.params6] at ht
        have h3 : t = 3 := by
          rcases j with _ | _ | _ | j
          · exact (by simpa using ht.symm)
          · exact (by simpa using ht.symm)
          · exact (by simpa using ht.symm)
          · simp at ht
        rcases h3 with rfl
        · exact (show Tryd.prog.wantsStandIn 3 = false by kernel_rfl)⟩)
    (by kernel_rfl)
end Go.Proofs.YtgielmldblopeaaDoor
