/- What attackers know: plain. -/
import Derived.Test.YtgielmldblopeaaAttackB
namespace Go.Proofs.Ytgielmldblopeaa
open Go Go.Wk
set_option maxRecDepth 100000

theorem ded_nodup : ∀ (ns : List (List UInt8)) (ts : List Term), (∀ t ∈ ts, Good t) → ts.Nodup → (∀ s ∈ ns, ∀ t ∈ ts, s ≠ nameF t) → ded ns ts = ts
  | _, [], _, _, _ => rfl
  | ns, t :: ts, hg, hn, hs => by
    have hn2 := List.nodup_cons.1 hn
    rw [ded, if_neg (fun h => hs _ h t (by simp) rfl), ded_nodup (addN ns (nameF t)) ts (fun x hx => hg x (by simp [hx])) hn2.2 fun s h x hx => ?_]
    rcases mem_addN.1 h with h | rfl
    · exact hs s h x (by simp [hx])
    · intro he
      have := name_inj (hg t (by simp)) (hg x (by simp [hx])) he
      subst this
      exact hn2.1 hx
theorem ded_mem : ∀ (ns : List (List UInt8)) (ts : List Term) (x : Term), x ∈ ded ns ts → x ∈ ts ∧ nameF x ∉ ns
  | _, [], _, h => by simp [ded] at h
  | ns, t :: ts, x, h => by
    rw [ded] at h
    split at h
    · rename_i hin
      obtain ⟨h1, h2⟩ := ded_mem ns ts x h
      exact ⟨by simp [h1], h2⟩
    · rename_i hin
      rcases List.mem_cons.1 h with rfl | h
      · exact ⟨by simp, hin⟩
      · obtain ⟨h1, h2⟩ := ded_mem _ ts x h
        exact ⟨by simp [h1], fun hm => h2 (mem_addN.2 (.inl hm))⟩
theorem ded_has : ∀ (ns : List (List UInt8)) (ts : List Term) (x : Term), (∀ t ∈ ts, Good t) → x ∈ ts → nameF x ∉ ns → x ∈ ded ns ts
  | _, [], _, _, h, _ => by cases h
  | ns, t :: ts, x, hg, h, hn => by
    rw [ded]
    rcases List.mem_cons.1 h with rfl | h
    · rw [if_neg hn]; simp
    · by_cases he : nameF x = nameF t
      · have := name_inj (hg x (by simp [h])) (hg t (by simp)) he
        subst this
        rw [if_neg hn]; simp
      · split
        · exact ded_has ns ts x (fun y hy => hg y (by simp [hy])) h hn
        · exact List.mem_cons_of_mem _ (ded_has _ ts x (fun y hy => hg y (by simp [hy])) h fun hm => (mem_addN.1 hm).elim hn he)
theorem ded_good_nodup : ∀ (ns : List (List UInt8)) (ts : List Term), (∀ t ∈ ts, Good t) → (ded ns ts).Nodup
  | _, [], _ => by simp [ded]
  | ns, t :: ts, hg => by
    rw [ded]
    split
    · exact ded_good_nodup ns ts fun y hy => hg y (by simp [hy])
    · refine List.nodup_cons.2 ⟨fun h => (ded_mem _ _ _ h).2 (mem_addN.2 (.inr rfl)), ded_good_nodup _ ts fun y hy => hg y (by simp [hy])⟩
theorem ded_sub {K L : List Term} (hg : ∀ t ∈ K ++ L, Good t) (hn : K.Nodup) : (ded [] (K ++ L)).length ≥ K.length := by
  have : ∀ (ns : List (List UInt8)) (K : List Term), (∀ t ∈ K ++ L, Good t) → K.Nodup → (∀ s ∈ ns, ∀ t ∈ K, s ≠ nameF t) → (ded ns (K ++ L)).length ≥ K.length := by
    intro ns K
    induction K generalizing ns with
    | nil => intro _ _ _; exact Nat.zero_le _
    | cons t K ih =>
      intro hg hn hs
      have hn2 := List.nodup_cons.1 hn
      rw [List.cons_append, ded, if_neg (fun h => hs _ h t (by simp) rfl)]
      have := ih (addN ns (nameF t)) (fun x hx => hg x (by rw [List.cons_append]; exact List.mem_cons_of_mem _ hx)) hn2.2 fun s h x hx => by
        rcases mem_addN.1 h with h | rfl
        · exact hs s h x (by simp [hx])
        · intro he
          have := name_inj (hg t (by simp)) (hg x (by simp [hx])) he
          subst this
          exact hn2.1 hx
      simp only [List.length_cons]; omega
  exact this [] K hg hn nofun

/-! the small example -/
def wK : Term := .mk 2 1 2 [] []
def wN : Term := .mk 2 1 1 [] []
def wT1 : Term := .mk 6 0 0 [] [wK, wN]
def wT2 : Term := .mk 7 2 0 [] [wK]
def wF : Term := .mk 2 2 0 [] []
theorem wK_good : Good wK := good_walk.2 rfl
theorem wN_good : Good wN := good_walk.2 rfl
theorem wT1_good : Good wT1 := good_walk.2 rfl
theorem wT2_good : Good wT2 := good_walk.2 rfl
theorem wF_good : Good wF := good_walk.2 rfl
theorem wS_good : Good (secretT 2) := good_secret (by omega)
theorem wake_nodup : [wT1, wT2, secretT 2, wF].Nodup := by simp [wT1, wT2, wF, secretT, wK, wN]
theorem wake_good : ∀ t ∈ [wT1, wT2, secretT 2, wF], Good t := by simp; exact ⟨wT1_good, wT2_good, wS_good, wF_good⟩
theorem wake_a : RightA [wT1, wT2] [] := ⟨⟨by simp, by simp; exact ⟨wT1_good, wT2_good⟩, by simp [wT1, wT2]⟩, fun i hi => by simp at hi⟩
theorem wake_b : RightA [wT1, wT2, secretT 2, wF] [2] := ⟨⟨by simp, wake_good, wake_nodup⟩, fun i hi => by
  have : i = 0 := by simpa using hi
  subst this
  refine ⟨by simp [nthI], ?_, ?_⟩
  · simp [lastU, nthI]
  · simp [nthI]⟩
theorem wake_0 : RightA [] [] := ⟨⟨by simp, by simp, by simp⟩, fun i hi => by simp at hi⟩
theorem wake_no {t : Term} (ht : t = wN ∨ t = wK ∨ t = secretT 2) : derB [wT1, wT2] t = false := by
  cases h : derB [wT1, wT2] t with
  | false => rfl
  | true =>
    refine absurd (derB_iff.1 h) (not_der_of (N := fun t => t = wN ∨ t = wK ∨ t = secretT 2) (fun k u n s ks hn => ?_) (fun t ht => ?_) ht)
    · rcases hn with hn | hn | hn <;> (simp only [wK, wN, secretT, Term.mk.injEq] at hn; obtain ⟨rfl, _⟩ := hn; exact ⟨by omega, by omega⟩)
    · simp only [List.mem_cons, List.not_mem_nil, or_false] at ht
      rcases ht with rfl | rfl
      · refine .mk (fun hn => ?_) (fun h => by omega) (fun _ key rest he hnk => ?_) (fun h => by omega)
        · rcases hn with hn | hn | hn <;> (simp only [wK, wN, secretT, Term.mk.injEq] at hn; omega)
        · simp only [List.cons.injEq] at he; exact absurd (.inr (.inl he.1.symm)) hnk
      · refine .mk (fun hn => ?_) (fun h => by omega) (fun h => by omega) (fun _ hn => absurd (.inr (.inr rfl)) hn)
        rcases hn with hn | hn | hn <;> (simp only [wK, wN, secretT, Term.mk.injEq] at hn; omega)
theorem wake_k : derB [wT1, wT2, secretT 2, wF] wK = true := derB_iff.2 (.open7 (u := 2) (n := 0) (s := []) (ks := [wK]) (.known (by simp [wT2])) (.known (by simp)) (by simp))
theorem wake_n : derB [wT1, wT2, secretT 2, wF] wN = true := derB_iff.2 (.unlock (u := 0) (n := 0) (s := []) (key := wK) (ks := [wN]) (.known (by simp [wT1])) (derB_iff.1 wake_k) (by simp))
theorem wake_ded2 : ded [] [wT1, wT2] = [wT1, wT2] := ded_nodup [] _ (by simp; exact ⟨wT1_good, wT2_good⟩) (by simp [wT1, wT2]) nofun
theorem wake_ded4 : ded [] [wT1, wT2, secretT 2, wF] = [wT1, wT2, secretT 2, wF] := ded_nodup [] _ wake_good wake_nodup nofun
end Go.Proofs.Ytgielmldblopeaa
