/- What cannot be reckoned: plain. And the small example of layer 7. -/
import Derived.Test.YtgielmldblopeaaCloseF
namespace Go.Proofs.Ytgielmldblopeaa
open Go Go.Wk
set_option maxRecDepth 100000

/-- terms that do not tell what N says. -/
inductive Hid (N : Term → Prop) : Term → Prop where
  | mk {k u n : Int} {s : List UInt8} {ks : List Term} (h1 : ¬ N (.mk k u n s ks)) (h2 : (k = 4 ∨ k = 8) → ∀ t ∈ ks, Hid N t) (h6 : k = 6 → ∀ key rest, ks = key :: rest → ¬ N key → ∀ t ∈ rest, Hid N t)
      (h7 : k = 7 → ¬ N (secretT u) → ∀ t ∈ ks, Hid N t) : Hid N (.mk k u n s ks)
theorem Hid.no {N : Term → Prop} {t : Term} (h : Hid N t) : ¬ N t := by cases h; assumption
/-- what N says is made of what N says alone. -/
def Shut (N : Term → Prop) : Prop := ∀ k u n s ks, N (.mk k u n s ks) → k ≠ 1 ∧ (k = 2 ∨ k = 3 ∨ (k = 8 ∧ N (secretT u)) ∨ ∃ t ∈ ks, N t)
theorem hid_der {N : Term → Prop} (hN : Shut N) {K : List Term} (hK : ∀ t ∈ K, Hid N t) {t : Term} (h : Der K t) : Hid N t := by
  induction h with
  | known h => exact hK _ h
  | text => exact .mk (fun hn => (hN _ _ _ _ _ hn).1 rfl) (fun h => by omega) (fun h => by omega) (fun h => by omega)
  | @make k u n s ks h2 h3 _ _ ih8 ihk =>
    refine .mk (fun hn => ?_) (fun _ t ht => ihk t ht) (fun _ key rest he _ t ht => ihk t (by simp [he, ht])) (fun _ _ t ht => ihk t ht)
    rcases (hN _ _ _ _ _ hn).2 with q | q | ⟨q, q2⟩ | ⟨t, ht, q⟩
    · exact h2 q
    · exact h3 q
    · exact (ih8 q).no q2
    · exact (ihk t ht).no q
  | part hk _ ht ih => cases ih with | mk _ h2 _ _ => exact h2 hk _ ht
  | unlock _ _ ht ih1 ih2 => cases ih1 with | mk _ _ h6 _ => exact h6 rfl _ _ rfl ih2.no _ ht
  | open7 _ _ ht ih1 ih2 => cases ih1 with | mk _ _ _ h7 => exact h7 rfl ih2.no _ ht
theorem not_der_of {N : Term → Prop} (hN : Shut N) {K : List Term} (hK : ∀ t ∈ K, Hid N t) {t : Term} (ht : N t) : ¬ Der K t := fun h => (hid_der hN hK h).no ht

def exK : Term := .mk 2 1 1 [] []
def exN : Term := .mk 2 1 2 [] []
def exL : Term := .mk 6 0 0 [] [exK, exN]
theorem exK_good : Good exK := good_walk.2 rfl
theorem exN_good : Good exN := good_walk.2 rfl
theorem exL_good : Good exL := good_walk.2 rfl
theorem ex_a : chkF [exL] [exN] = 0 ∧ canB [exL] exN = false := by
  have h1 : chkF [exL] [exN] = 0 := chk_zero.2 ⟨by simp, by simp; exact ⟨exL_good, exN_good⟩⟩
  refine ⟨h1, ?_⟩
  rw [canB, if_pos h1]
  cases h : derB [exL] exN with
  | false => rfl
  | true =>
    refine absurd (derB_iff.1 h) (not_der_of (N := fun t => t = exK ∨ t = exN) (fun k u n s ks hn => ?_) (fun t ht => ?_) (.inr rfl))
    · rcases hn with hn | hn <;> (simp only [exK, exN, Term.mk.injEq] at hn; obtain ⟨rfl, _⟩ := hn; exact ⟨by omega, .inl rfl⟩)
    · obtain rfl := List.mem_singleton.1 ht
      refine .mk (fun hn => ?_) (fun h => by omega) (fun _ key rest he hnk => ?_) (fun h => by omega)
      · rcases hn with hn | hn <;> (simp only [exK, exN, Term.mk.injEq] at hn; omega)
      · simp only [List.cons.injEq] at he; exact absurd (.inl he.1.symm) hnk
theorem ex_b : chkF [exL, exK] [exN] = 0 ∧ canB [exL, exK] exN = true := by
  have h1 : chkF [exL, exK] [exN] = 0 := chk_zero.2 ⟨by simp, by simp; exact ⟨exL_good, exK_good, exN_good⟩⟩
  refine ⟨h1, ?_⟩
  rw [canB, if_pos h1, derB_iff]
  exact .unlock (u := 0) (n := 0) (s := []) (key := exK) (ks := [exN]) (.known (by simp [exL])) (.known (by simp)) (by simp)
theorem ex_c {km : List (List UInt8 × LTerm)} (A : Apart [exL, exK] km) (hs : ∀ e ∈ km, SubT [exL, exK] e.2.t) : km.length = 3 := by
  have hsub : ∀ t, SubT [exL, exK] t → t = exL ∨ t = exK ∨ t = exN := by
    intro t h
    induction h with
    | top h => simp only [List.mem_cons, List.not_mem_nil, or_false] at h; rcases h with h | h <;> simp [h]
    | kid _ ht ih =>
      rcases ih with h | h | h
      · simp only [exL, Term.mk.injEq] at h
        rw [h.2.2.2.2] at ht
        simp only [List.mem_cons, List.not_mem_nil, or_false] at ht
        exact .inr ht
      · simp only [exK, Term.mk.injEq] at h; rw [h.2.2.2.2] at ht; cases ht
      · simp only [exN, Term.mk.injEq] at h; rw [h.2.2.2.2] at ht; cases ht
  have hL := A.cover exL (by simp)
  have hK := A.cover exK (by simp)
  have hN : inM km (nameF exN) = true := by
    obtain ⟨e, he, h1⟩ := inM_iff.1 hL
    rw [A.names e he] at h1
    have h2 := name_inj (A.good e he).1 exL_good h1
    refine A.closed e he exN ?_
    rw [h2, exL, givesT, if_neg (by omega), if_pos rfl, List.headD_cons, if_pos (can_in hK)]
    simp
  have d1 : nameF exL ≠ nameF exK := fun h => by have := name_inj exL_good exK_good h; simp only [exL, exK, Term.mk.injEq] at this; omega
  have d2 : nameF exL ≠ nameF exN := fun h => by have := name_inj exL_good exN_good h; simp only [exL, exN, Term.mk.injEq] at this; omega
  have d3 : nameF exK ≠ nameF exN := fun h => by have := name_inj exK_good exN_good h; simp only [exK, exN, Term.mk.injEq] at this; omega
  have hnd : [nameF exL, nameF exK, nameF exN].Nodup := by simp [d1, d2, d3]
  have s1 : [nameF exL, nameF exK, nameF exN] ⊆ km.map (·.1) := by
    intro x hx
    simp only [List.mem_cons, List.not_mem_nil, or_false] at hx
    rcases hx with rfl | rfl | rfl
    · obtain ⟨e, he, h⟩ := inM_iff.1 hL; exact List.mem_map.2 ⟨e, he, h⟩
    · obtain ⟨e, he, h⟩ := inM_iff.1 hK; exact List.mem_map.2 ⟨e, he, h⟩
    · obtain ⟨e, he, h⟩ := inM_iff.1 hN; exact List.mem_map.2 ⟨e, he, h⟩
  have s2 : km.map (·.1) ⊆ [nameF exL, nameF exK, nameF exN] := by
    intro x hx
    obtain ⟨e, he, rfl⟩ := List.mem_map.1 hx
    rw [A.names e he]
    rcases hsub _ (hs e he) with h | h | h <;> rw [h] <;> simp
  have l1 := List.Nodup.length_le_of_subset hnd s1
  have l2 := List.Nodup.length_le_of_subset A.nd s2
  simp only [List.length_map, List.length_cons, List.length_nil] at l1 l2
  omega
/-! how deep a term is -/
mutual
def dpt : Term → Nat
  | .mk _ _ _ _ ks => 1 + dptL ks
def dptL : List Term → Nat
  | [] => 0
  | t :: ts => max (dpt t) (dptL ts)
end
theorem dptL_le {ts : List Term} {d : Nat} : dptL ts ≤ d ↔ ∀ t ∈ ts, dpt t ≤ d := by
  induction ts with
  | nil => simp [dptL]
  | cons x xs ih => simp only [dptL, Nat.max_le, ih, List.mem_cons, forall_eq_or_imp]
mutual
theorem walk_fit : ∀ (t : Term) (d l d' l' : Int), (walkF t d l).1 = true → (cnt t : Int) ≤ l' → d' + dpt t ≤ 61 → (walkF t d' l').1 = true ∧ (walkF t d' l').2 = l' - cnt t
  | .mk k u n s ks, d, l, d', l' => by
    intro h hl hd
    rw [walkF] at h ⊢
    split at h
    · cases h
    · rename_i hc
      rw [cnt] at hl
      rw [dpt] at hd
      rw [if_neg (fun hn => hc (hn.elim (fun q => absurd q (by omega)) (fun q => .inr (q.elim (fun q => absurd q (by omega)) .inr))))]
      obtain ⟨h1, h2⟩ := walkL_fit ks (d + 1) (l - 1) (d' + 1) (l' - 1) h (by omega) (by omega)
      refine ⟨h1, ?_⟩
      rw [h2, cnt]; omega
theorem walkL_fit : ∀ (ts : List Term) (d l d' l' : Int), (walkLF ts d l).1 = true → (cntL ts : Int) ≤ l' → d' + dptL ts ≤ 61 → (walkLF ts d' l').1 = true ∧ (walkLF ts d' l').2 = l' - cntL ts
  | [], d, l, d', l' => by intro _ _ _; simp [walkLF, cntL]
  | t :: ts, d, l, d', l' => by
    intro h hl hd
    rw [walkLF] at h ⊢
    rw [cntL] at hl
    rw [dptL] at hd
    split at h
    · rename_i hc
      obtain ⟨h1, h2⟩ := walk_fit t d l d' l' hc (by omega) (by omega)
      rw [if_pos h1]
      obtain ⟨h3, h4⟩ := walkL_fit ts d _ d' (walkF t d' l').2 h (by omega) (by omega)
      refine ⟨h3, ?_⟩
      rw [h4, h2, cntL]; omega
    · cases h
end
theorem walkL_good : ∀ (ts : List Term) (d l : Int), (∀ t ∈ ts, Good t) → (cntL ts : Int) ≤ l → d + dptL ts ≤ 61 → (walkLF ts d l).1 = true
  | [], d, l => by intro _ _ _; simp [walkLF]
  | t :: ts, d, l => by
    intro h hl hd
    rw [cntL] at hl
    rw [dptL] at hd
    obtain ⟨h1, h2⟩ := walk_fit t 1 1200 d l (good_walk.1 (h t (by simp))) (by omega) (by omega)
    rw [walkLF, if_pos h1]
    exact walkL_good ts d _ (fun x hx => h x (by simp [hx])) (by omega) (by omega)
theorem good_mk {k u n : Int} {s : List UInt8} {ks : List Term} (hp : plainF k u n s ks.length = true) (h : ∀ t ∈ ks, Good t) (hc : cntL ks ≤ 1199) (hd : dptL ks ≤ 59) : Good (.mk k u n s ks) := by
  refine good_walk.2 ?_
  rw [walkF, if_neg (by simp [hp])]
  exact walkL_good ks _ _ h (by omega) (by omega)
theorem good_fresh {u n : Int} (hu : 1 ≤ u ∧ u ≤ 6) (hn : 0 ≤ n ∧ n ≤ 65535) : Good (.mk 2 u n [] []) := by
  refine good_mk ?_ (by simp) (by simp [cntL]) (by simp [dptL])
  simp [plainF, show fieldsOf 2 = 6 from rfl, show hasF 6 1 = false from by decide, show hasF 6 2 = true from by decide, show hasF 6 4 = true from by decide, show kidsF 6 = 0 from by decide, knownF, hu.1, hu.2, hn.1, hn.2]
theorem good_lock {a b : Term} (ha : Good a) (hb : Good b) (hc : cnt a + cnt b ≤ 1199) (h1 : dpt a ≤ 59) (h2 : dpt b ≤ 59) : Good (.mk 6 0 0 [] [a, b]) :=
  good_mk (show plainF 6 0 0 [] 2 = true by decide) (by simp; exact ⟨ha, hb⟩) (by simp [cntL]; omega) (by simp [dptL]; omega)
theorem good_hash {a : Term} (ha : Good a) (hc : cnt a ≤ 1199) (h1 : dpt a ≤ 59) : Good (.mk 5 0 0 [] [a]) :=
  good_mk (show plainF 5 0 0 [] 1 = true by decide) (by simp; exact ha) (by simp [cntL]; omega) (by simp [dptL]; omega)
theorem good_seal {u : Int} {a : Term} (hu : 1 ≤ u ∧ u ≤ 6) (ha : Good a) (hc : cnt a ≤ 1199) (h1 : dpt a ≤ 59) : Good (.mk 7 u 0 [] [a]) := by
  refine good_mk ?_ (by simp; exact ha) (by simp [cntL]; omega) (by simp [dptL]; omega)
  simp [plainF, show fieldsOf 7 = 10 from rfl, show hasF 10 1 = false from by decide, show hasF 10 2 = true from by decide, show hasF 10 4 = false from by decide, show kidsF 10 = 1 from by decide, knownF, hu.1, hu.2]
theorem good_user {k u n : Int} {s : List UInt8} {ks : List Term} (h : Good (.mk k u n s ks)) (hk : k = 7 ∨ k = 8) : 1 ≤ u ∧ u ≤ 6 := by
  have h1 := good_walk.1 h
  rw [walkF] at h1
  split at h1
  · cases h1
  · rename_i hc
    have hp : plainF k u n s ks.length = true := by
      cases hq : plainF k u n s ks.length with
      | true => rfl
      | false => exact absurd (.inr (.inr hq)) hc
    have := plain_shape hp
    omega

/-! what occurs nowhere else -/
inductive Occ (a : Term) : Term → Prop where
  | here : Occ a a
  | kid {k u n : Int} {s : List UInt8} {ks : List Term} {t : Term} (ht : t ∈ ks) (h : Occ a t) : Occ a (.mk k u n s ks)
theorem occ_secret {x n u : Int} : ¬ Occ (.mk 2 x n [] []) (secretT u) := by
  intro h
  unfold secretT at h
  cases h with
  | kid ht _ => cases ht
def kN (K : List Term) (a : Term) (t : Term) : Prop := t = a ∨ (Good t ∧ ¬ Der K t ∧ ¬ Occ a t)
section
variable {K : List Term} {x m : Int}
theorem shut_kN : Shut (kN K (.mk 2 x m [] [])) := by
  intro k u n s ks h
  rcases h with h | ⟨hg, hd, ho⟩
  · simp only [Term.mk.injEq] at h
    exact ⟨by omega, .inl h.1⟩
  · refine ⟨fun h1 => hd (by subst h1; exact .text), ?_⟩
    by_cases h2 : k = 2
    · exact .inl h2
    by_cases h3 : k = 3
    · exact .inr (.inl h3)
    refine .inr (.inr ?_)
    by_cases h8 : k = 8 ∧ ¬ Der K (secretT u)
    · exact .inl ⟨h8.1, .inr ⟨good_secret (good_user hg (.inr h8.1)), h8.2, occ_secret⟩⟩
    · refine .inr (Classical.byContradiction fun hn => hd (.make h2 h3 (fun q => Classical.byContradiction fun q2 => h8 ⟨q, q2⟩) fun t ht => Classical.byContradiction fun q => hn ⟨t, ht, .inr ⟨good_kid hg ht, q, fun hq => ho (.kid ht hq)⟩⟩))
theorem hid_known : ∀ (N : Nat) (t : Term), cnt t ≤ N → Good t → Der K t → ¬ Occ (.mk 2 x m [] []) t → Hid (kN K (.mk 2 x m [] [])) t
  | 0, t, h => by have := cnt_pos t; omega
  | N + 1, .mk k u n s ks, h => by
    intro hg hd ho
    have hks : ∀ t ∈ ks, cnt t ≤ N := fun t ht => by rw [cnt] at h; have := cntL_mem ht; omega
    refine .mk (fun hn => ?_) (fun hk t ht => hid_known N t (hks t ht) (good_kid hg ht) (.part hk hd ht) (fun hq => ho (.kid ht hq))) (fun hk key rest he hnk t ht => ?_) (fun hk hns t ht => ?_)
    · rcases hn with hn | hn
      · exact ho (hn ▸ .here)
      · exact hn.2.1 hd
    · subst hk he
      have hkey : Der K key := Classical.byContradiction fun q => hnk (.inr ⟨good_kid hg (by simp), q, fun hq => ho (.kid (by simp) hq)⟩)
      exact hid_known N t (hks t (by simp [ht])) (good_kid hg (by simp [ht])) (.unlock hd hkey ht) (fun hq => ho (.kid (by simp [ht]) hq))
    · subst hk
      have hkey : Der K (secretT u) := Classical.byContradiction fun q => hns (.inr ⟨good_secret (good_user hg (.inl rfl)), q, occ_secret⟩)
      exact hid_known N t (hks t ht) (good_kid hg ht) (.open7 hd hkey ht) (fun hq => ho (.kid ht hq))
theorem hid_all (hK : ∀ t ∈ K, Good t ∧ ¬ Occ (.mk 2 x m [] []) t) {T : Term} (hT : Hid (kN K (.mk 2 x m [] [])) T) : ∀ t ∈ K ++ [T], Hid (kN K (.mk 2 x m [] [])) t := fun t ht => by
  rcases List.mem_append.1 ht with h | h
  · exact hid_known _ t (Nat.le_refl _) (hK t h).1 (.known h) (hK t h).2
  · obtain rfl := List.mem_singleton.1 h; exact hT
theorem no_kN {k u n : Int} {s : List UInt8} {ks : List Term} (hk : k ≠ 2) (h : .mk 2 x m [] [] ∈ ks) : ¬ kN K (.mk 2 x m [] []) (.mk k u n s ks) := by
  rintro (h1 | ⟨_, _, h1⟩)
  · simp only [Term.mk.injEq] at h1; exact hk h1.1
  · exact h1 (.kid h .here)
theorem keep_lock (hK : ∀ t ∈ K, Good t ∧ ¬ Occ (.mk 2 x m [] []) t) {key : Term} (hg : Good key) (ho : ¬ Occ (.mk 2 x m [] []) key) : derB (K ++ [.mk 6 0 0 [] [key, .mk 2 x m [] []]]) (.mk 2 x m [] []) = derB K key := by
  rw [Bool.eq_iff_iff, derB_iff, derB_iff]
  constructor
  · intro hd
    refine Classical.byContradiction fun hn => not_der_of shut_kN (hid_all hK ?_) (.inl rfl) hd
    refine .mk (no_kN (by omega) (by simp)) (fun h => by omega) (fun _ k' rest he hnk => ?_) (fun h => by omega)
    simp only [List.cons.injEq] at he
    exact absurd (.inr ⟨hg, hn, ho⟩) (he.1 ▸ hnk)
  · intro hd
    exact .unlock (key := key) (u := 0) (n := 0) (s := []) (ks := [.mk 2 x m [] []]) (.known (by simp)) (hd.mono fun t ht => .known (by simp [ht])) (by simp)
theorem keep_seal (hK : ∀ t ∈ K, Good t ∧ ¬ Occ (.mk 2 x m [] []) t) {u : Int} (hu : 1 ≤ u ∧ u ≤ 6) : derB (K ++ [.mk 7 u 0 [] [.mk 2 x m [] []]]) (.mk 2 x m [] []) = derB K (secretT u) := by
  rw [Bool.eq_iff_iff, derB_iff, derB_iff]
  constructor
  · intro hd
    refine Classical.byContradiction fun hn => not_der_of shut_kN (hid_all hK ?_) (.inl rfl) hd
    refine .mk (no_kN (by omega) (by simp)) (fun h => by omega) (fun h => by omega) (fun _ hns => ?_)
    exact absurd (.inr ⟨good_secret hu, hn, occ_secret⟩) hns
  · intro hd
    exact .open7 (u := u) (n := 0) (s := []) (ks := [.mk 2 x m [] []]) (.known (by simp)) (hd.mono fun t ht => .known (by simp [ht])) (by simp)
theorem keep_hash (hK : ∀ t ∈ K, Good t ∧ ¬ Occ (.mk 2 x m [] []) t) : derB (K ++ [.mk 5 0 0 [] [.mk 2 x m [] []]]) (.mk 2 x m [] []) = false := by
  cases h : derB (K ++ [.mk 5 0 0 [] [.mk 2 x m [] []]]) (.mk 2 x m [] []) with
  | false => rfl
  | true =>
    exfalso
    refine not_der_of shut_kN (hid_all hK ?_) (.inl rfl) (derB_iff.1 h)
    exact .mk (no_kN (by omega) (by simp)) (fun h => by omega) (fun h => by omega) (fun h => by omega)
end
theorem cnt_kids (t : LTerm) : cnt t.t = 1 + cntL (t.kids.map LTerm.t) := by rw [t.t_eq, cnt]
theorem dpt_kids (t : LTerm) : dpt t.t = 1 + dptL (t.kids.map LTerm.t) := by rw [t.t_eq, dpt]
theorem dptL_append (a b : List Term) : dptL (a ++ b) = max (dptL a) (dptL b) := by
  induction a with
  | nil => simp [dptL]
  | cons x xs ih => simp only [List.cons_append, dptL, ih]; omega
theorem can_der0 {K : List Term} {t : Term} (hl : K.length ≤ 500) (hK : ∀ t ∈ K, Good t) (ht : Good t) : chkF K [t] = 0 ∧ canB K t = derB K t := by
  have h : chkF K [t] = 0 := chk_zero.2 ⟨hl, fun x hx => by
    rcases List.mem_append.1 hx with hx | hx
    · exact hK x hx
    · obtain rfl := List.mem_singleton.1 hx; exact ht⟩
  exact ⟨h, by rw [canB, if_pos h]⟩
theorem derB_mono {K K' : List Term} {t : Term} (h : ∀ x ∈ K, Der K' x) (ht : derB K t = true) : derB K' t = true := derB_iff.2 ((derB_iff.1 ht).mono h)
theorem derB_same {K W : List Term} {t : Term} (h : ∀ x ∈ W, Der K x) : derB (K ++ W) t = derB K t := by
  rw [Bool.eq_iff_iff, derB_iff, derB_iff]
  constructor
  · exact fun hd => hd.mono fun x hx => (List.mem_append.1 hx).elim .known (h x)
  · exact fun hd => hd.mono fun x hx => .known (List.mem_append_left _ hx)
theorem good_map {xs : List LTerm} (h : ∀ x ∈ xs, Good x.t) : ∀ t ∈ xs.map LTerm.t, Good t := fun t ht => by
  obtain ⟨x, hx, rfl⟩ := List.mem_map.1 ht; exact h x hx
theorem encL_set (ys : List LTerm) (i : Nat) (x : LTerm) (h : i < ys.length) : (encL ys).take (i * 5) ++ x.cells ++ (encL ys).drop (i * 5 + x.cells.length) = encL (ys.set i x) := by
  have e1 : (encL ys).take (i * 5) = encL (ys.take i) := encL_take ys i
  rw [show i * 5 + x.cells.length = (i + 1) * 5 from by simp; omega, encL_drop ys (i + 1) (by omega), e1, ← encT_cells, ← encL_append, ← encL_append, List.set_eq_take_append_cons_drop, if_pos h]
  simp
end Go.Proofs.Ytgielmldblopeaa
