/- What cannot be reckoned: plain. And the small example of layer 7. -/
import Derived.Test.YtajmjbboahmdkaaCloseF
namespace Go.Proofs.Ytajmjbboahmdkaa
open Go Go.Wk
set_option maxRecDepth 100000

/-- terms that do not tell what N says. -/
inductive Hid (N : Term → Prop) : Term → Prop where
  | mk {k u n : Int} {s : List UInt8} {ks : List Term} (h1 : ¬ N (.mk k u n s ks)) (h2 : (k = 4 ∨ k = 8) → ∀ t ∈ ks, Hid N t) (h6 : k = 6 → ∀ key rest, ks = key :: rest → ¬ N key → ∀ t ∈ rest, Hid N t)
      (h7 : k = 7 → ¬ N (secretT u) → ∀ t ∈ ks, Hid N t) : Hid N (.mk k u n s ks)
theorem Hid.no {N : Term → Prop} {t : Term} (h : Hid N t) : ¬ N t := by cases h; assumption
/-- what N says is made of what N says alone. -/
def Shut (N : Term → Prop) : Prop := ∀ k u n s ks, N (.mk k u n s ks) → k ≠ 1 ∧ (k = 2 ∨ k = 3 ∨ (k = 8 ∧ N (secretT u)) ∨ ∃ t ∈ ks, N t)
theorem hid_der {N : Term → Prop} (hN : Shut N) {K : List Term} (hK : ∀ t ∈ K, Hid N t) {t : Term} (h : Der K t) : Hid N t := by
  induction h with
  | known h => exact hK _ h
  | text => exact .mk (fun hn => (hN _ _ _ _ _ hn).1 rfl) (fun h => by omega) (fun h => by omega) (fun h => by omega)
  | @make k u n s ks h2 h3 _ _ ih8 ihk =>
    refine .mk (fun hn => ?_) (fun _ t ht => ihk t ht) (fun _ key rest he _ t ht => ihk t (by simp [he, ht])) (fun _ _ t ht => ihk t ht)
    rcases (hN _ _ _ _ _ hn).2 with q | q | ⟨q, q2⟩ | ⟨t, ht, q⟩
    · exact h2 q
    · exact h3 q
    · exact (ih8 q).no q2
    · exact (ihk t ht).no q
  | part hk _ ht ih => cases ih with | mk _ h2 _ _ => exact h2 hk _ ht
  | unlock _ _ ht ih1 ih2 => cases ih1 with | mk _ _ h6 _ => exact h6 rfl _ _ rfl ih2.no _ ht
  | open7 _ _ ht ih1 ih2 => cases ih1 with | mk _ _ _ h7 => exact h7 rfl ih2.no _ ht
theorem not_der_of {N : Term → Prop} (hN : Shut N) {K : List Term} (hK : ∀ t ∈ K, Hid N t) {t : Term} (ht : N t) : ¬ Der K t := fun h => (hid_der hN hK h).no ht

def exK : Term := .mk 2 1 1 [] []
def exN : Term := .mk 2 1 2 [] []
def exL : Term := .mk 6 0 0 [] [exK, exN]
theorem exK_good : Good exK := good_walk.2 rfl
theorem exN_good : Good exN := good_walk.2 rfl
theorem exL_good : Good exL := good_walk.2 rfl
theorem ex_a : chkF [exL] [exN] = 0 ∧ canB [exL] exN = false := by
  have h1 : chkF [exL] [exN] = 0 := chk_zero.2 ⟨by simp, by simp; exact ⟨exL_good, exN_good⟩⟩
  refine ⟨h1, ?_⟩
  rw [canB, if_pos h1]
  cases h : derB [exL] exN with
  | false => rfl
  | true =>
    refine absurd (derB_iff.1 h) (not_der_of (N := fun t => t = exK ∨ t = exN) (fun k u n s ks hn => ?_) (fun t ht => ?_) (.inr rfl))
    · rcases hn with hn | hn <;> (simp only [exK, exN, Term.mk.injEq] at hn; obtain ⟨rfl, _⟩ := hn; exact ⟨by omega, .inl rfl⟩)
    · obtain rfl := List.mem_singleton.1 ht
      refine .mk (fun hn => ?_) (fun h => by omega) (fun _ key rest he hnk => ?_) (fun h => by omega)
      · rcases hn with hn | hn <;> (simp only [exK, exN, Term.mk.injEq] at hn; omega)
      · simp only [List.cons.injEq] at he; exact absurd (.inl he.1.symm) hnk
theorem ex_b : chkF [exL, exK] [exN] = 0 ∧ canB [exL, exK] exN = true := by
  have h1 : chkF [exL, exK] [exN] = 0 := chk_zero.2 ⟨by simp, by simp; exact ⟨exL_good, exK_good, exN_good⟩⟩
  refine ⟨h1, ?_⟩
  rw [canB, if_pos h1, derB_iff]
  exact .unlock (u := 0) (n := 0) (s := []) (key := exK) (ks := [exN]) (.known (by simp [exL])) (.known (by simp)) (by simp)
theorem ex_c {km : List (List UInt8 × LTerm)} (A : Apart [exL, exK] km) (hs : ∀ e ∈ km, SubT [exL, exK] e.2.t) : km.length = 3 := by
  have hsub : ∀ t, SubT [exL, exK] t → t = exL ∨ t = exK ∨ t = exN := by
    intro t h
    induction h with
    | top h => simp only [List.mem_cons, List.not_mem_nil, or_false] at h; rcases h with h | h <;> simp [h]
    | kid _ ht ih =>
      rcases ih with h | h | h
      · simp only [exL, Term.mk.injEq] at h
        rw [h.2.2.2.2] at ht
        simp only [List.mem_cons, List.not_mem_nil, or_false] at ht
        exact .inr ht
      · simp only [exK, Term.mk.injEq] at h; rw [h.2.2.2.2] at ht; cases ht
      · simp only [exN, Term.mk.injEq] at h; rw [h.2.2.2.2] at ht; cases ht
  have hL := A.cover exL (by simp)
  have hK := A.cover exK (by simp)
  have hN : inM km (nameF exN) = true := by
    obtain ⟨e, he, h1⟩ := inM_iff.1 hL
    rw [A.names e he] at h1
    have h2 := name_inj (A.good e he).1 exL_good h1
    refine A.closed e he exN ?_
    rw [h2, exL, givesT, if_neg (by omega), if_pos rfl, List.headD_cons, if_pos (can_in hK)]
    simp
  have d1 : nameF exL ≠ nameF exK := fun h => by have := name_inj exL_good exK_good h; simp only [exL, exK, Term.mk.injEq] at this; omega
  have d2 : nameF exL ≠ nameF exN := fun h => by have := name_inj exL_good exN_good h; simp only [exL, exN, Term.mk.injEq] at this; omega
  have d3 : nameF exK ≠ nameF exN := fun h => by have := name_inj exK_good exN_good h; simp only [exK, exN, Term.mk.injEq] at this; omega
  have hnd : [nameF exL, nameF exK, nameF exN].Nodup := by simp [d1, d2, d3]
  have s1 : [nameF exL, nameF exK, nameF exN] ⊆ km.map (·.1) := by
    intro x hx
    simp only [List.mem_cons, List.not_mem_nil, or_false] at hx
    rcases hx with rfl | rfl | rfl
    · obtain ⟨e, he, h⟩ := inM_iff.1 hL; exact List.mem_map.2 ⟨e, he, h⟩
    · obtain ⟨e, he, h⟩ := inM_iff.1 hK; exact List.mem_map.2 ⟨e, he, h⟩
    · obtain ⟨e, he, h⟩ := inM_iff.1 hN; exact List.mem_map.2 ⟨e, he, h⟩
  have s2 : km.map (·.1) ⊆ [nameF exL, nameF exK, nameF exN] := by
    intro x hx
    obtain ⟨e, he, rfl⟩ := List.mem_map.1 hx
    rw [A.names e he]
    rcases hsub _ (hs e he) with h | h | h <;> rw [h] <;> simp
  have l1 := List.Nodup.length_le_of_subset hnd s1
  have l2 := List.Nodup.length_le_of_subset A.nd s2
  simp only [List.length_map, List.length_cons, List.length_nil] at l1 l2
  omega
end Go.Proofs.Ytajmjbboahmdkaa
