/- The law AttackGrows. -/
import Derived.Test.YtgielmldblopeaaLawAttackA
namespace Go.Proofs.Ytgielmldblopeaa
open Go Go.Wk
set_option synthInstance.maxSize 100000
set_option synthInstance.maxHeartbeats 400000
set_option maxRecDepth 100000

theorem chk_good {K : List Term} {us : List Int} (h : RightA K us) (t : Term) : chkF K [t] = if badF t then 150 else 0 := by
  have h500 : ¬ 500 < K.length := by have := h.1.1; omega
  have hK : K.any badF = false := any_bad.2 h.1.2.1
  rw [chkF, if_neg h500, List.any_append, hK]
  simp
theorem can_good {K : List Term} {us : List Int} (h : RightA K us) (t : Term) : canB K t = (!badF t && derB K t) := by
  rw [canB, chk_good h t]
  cases badF t <;> simp
theorem learnt_right {K L : List Term} {us : List Int} (h : RightA K us) (hL : ∀ t ∈ L, Good t) (hl : (ded [] (K ++ L)).length ≤ 500) : RightA (ded [] (K ++ L)) us := by
  have hg : ∀ t ∈ K ++ L, Good t := fun t ht => (List.mem_append.1 ht).elim (h.1.2.1 t) (hL t)
  refine ⟨⟨hl, fun t ht => hg t (ded_mem _ _ _ ht).1, ded_good_nodup _ _ hg⟩, fun i hi => ?_⟩
  obtain ⟨h1, h2, h3⟩ := h.2 i hi
  exact ⟨h1, h2, ded_has _ _ _ hg (List.mem_append_left _ h3) nofun⟩
theorem learnt_can {K L : List Term} (hK : ∀ t ∈ K ++ L, Good t) {t : Term} (ht : derB K t = true) : derB (ded [] (K ++ L)) t = true :=
  derB_mono (fun x hx => .known (ded_has _ _ _ hK (List.mem_append_left _ hx) nofun)) ht
theorem learnt_has {K L : List Term} (hK : ∀ t ∈ K ++ L, Good t) {t : Term} (ht : t ∈ L) : derB (ded [] (K ++ L)) t = true :=
  derB_iff.2 (.known (ded_has _ _ _ hK (List.mem_append_right _ ht) nofun))
end Go.Proofs.Ytgielmldblopeaa
