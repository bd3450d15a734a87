/- Sizes and depths of terms; what is made of good terms is good. -/
import Derived.Test.YtmngicgdgpimlaaDoorPlainName
namespace Go.Proofs.YtmngicgdgpimlaaDoor
open Go Go.Wk
set_option maxRecDepth 100000

/-! how deep a term is -/
mutual
def dpt : Term → Nat
  | .mk _ _ _ _ ks => 1 + dptL ks
def dptL : List Term → Nat
  | [] => 0
  | t :: ts => max (dpt t) (dptL ts)
end
theorem dptL_le {ts : List Term} {d : Nat} : dptL ts ≤ d ↔ ∀ t ∈ ts, dpt t ≤ d := by
  induction ts with
  | nil => simp [dptL]
  | cons x xs ih => simp only [dptL, Nat.max_le, ih, List.mem_cons, forall_eq_or_imp]
mutual
theorem walk_fit : ∀ (t : Term) (d l d' l' : Int), (walkF t d l).1 = true → (cnt t : Int) ≤ l' → d' + dpt t ≤ 61 → (walkF t d' l').1 = true ∧ (walkF t d' l').2 = l' - cnt t
  | .mk k u n s ks, d, l, d', l' => by
    intro h hl hd
    rw [walkF] at h ⊢
    split at h
    · cases h
    · rename_i hc
      rw [cnt] at hl
      rw [dpt] at hd
      rw [if_neg (fun hn => hc (hn.elim (fun q => absurd q (by omega)) (fun q => .inr (q.elim (fun q => absurd q (by omega)) .inr))))]
      obtain ⟨h1, h2⟩ := walkL_fit ks (d + 1) (l - 1) (d' + 1) (l' - 1) h (by omega) (by omega)
      refine ⟨h1, ?_⟩
      rw [h2, cnt]; omega
theorem walkL_fit : ∀ (ts : List Term) (d l d' l' : Int), (walkLF ts d l).1 = true → (cntL ts : Int) ≤ l' → d' + dptL ts ≤ 61 → (walkLF ts d' l').1 = true ∧ (walkLF ts d' l').2 = l' - cntL ts
  | [], d, l, d', l' => by intro _ _ _; simp [walkLF, cntL]
  | t :: ts, d, l, d', l' => by
    intro h hl hd
    rw [walkLF] at h ⊢
    rw [cntL] at hl
    rw [dptL] at hd
    split at h
    · rename_i hc
      obtain ⟨h1, h2⟩ := walk_fit t d l d' l' hc (by omega) (by omega)
      rw [if_pos h1]
      obtain ⟨h3, h4⟩ := walkL_fit ts d _ d' (walkF t d' l').2 h (by omega) (by omega)
      refine ⟨h3, ?_⟩
      rw [h4, h2, cntL]; omega
    · cases h
end
theorem walkL_good : ∀ (ts : List Term) (d l : Int), (∀ t ∈ ts, Good t) → (cntL ts : Int) ≤ l → d + dptL ts ≤ 61 → (walkLF ts d l).1 = true
  | [], d, l => by intro _ _ _; simp [walkLF]
  | t :: ts, d, l => by
    intro h hl hd
    rw [cntL] at hl
    rw [dptL] at hd
    obtain ⟨h1, h2⟩ := walk_fit t 1 1200 d l (good_walk.1 (h t (by simp))) (by omega) (by omega)
    rw [walkLF, if_pos h1]
    exact walkL_good ts d _ (fun x hx => h x (by simp [hx])) (by omega) (by omega)
theorem good_mk {k u n : Int} {s : List UInt8} {ks : List Term} (hp : plainF k u n s ks.length = true) (h : ∀ t ∈ ks, Good t) (hc : cntL ks ≤ 1199) (hd : dptL ks ≤ 59) : Good (.mk k u n s ks) := by
  refine good_walk.2 ?_
  rw [walkF, if_neg (by simp [hp])]
  exact walkL_good ks _ _ h (by omega) (by omega)
theorem good_fresh {u n : Int} (hu : 1 ≤ u ∧ u ≤ 6) (hn : 0 ≤ n ∧ n ≤ 65535) : Good (.mk 2 u n [] []) := by
  refine good_mk ?_ (by simp) (by simp [cntL]) (by simp [dptL])
  simp [plainF, show fieldsOf 2 = 6 from rfl, show hasF 6 1 = false from by decide, show hasF 6 2 = true from by decide, show hasF 6 4 = true from by decide, show kidsF 6 = 0 from by decide, knownF, hu.1, hu.2, hn.1, hn.2]
theorem good_lock {a b : Term} (ha : Good a) (hb : Good b) (hc : cnt a + cnt b ≤ 1199) (h1 : dpt a ≤ 59) (h2 : dpt b ≤ 59) : Good (.mk 6 0 0 [] [a, b]) :=
  good_mk (show plainF 6 0 0 [] 2 = true by decide) (by simp; exact ⟨ha, hb⟩) (by simp [cntL]; omega) (by simp [dptL]; omega)
theorem good_hash {a : Term} (ha : Good a) (hc : cnt a ≤ 1199) (h1 : dpt a ≤ 59) : Good (.mk 5 0 0 [] [a]) :=
  good_mk (show plainF 5 0 0 [] 1 = true by decide) (by simp; exact ha) (by simp [cntL]; omega) (by simp [dptL]; omega)
theorem good_seal {u : Int} {a : Term} (hu : 1 ≤ u ∧ u ≤ 6) (ha : Good a) (hc : cnt a ≤ 1199) (h1 : dpt a ≤ 59) : Good (.mk 7 u 0 [] [a]) := by
  refine good_mk ?_ (by simp; exact ha) (by simp [cntL]; omega) (by simp [dptL]; omega)
  simp [plainF, show fieldsOf 7 = 10 from rfl, show hasF 10 1 = false from by decide, show hasF 10 2 = true from by decide, show hasF 10 4 = false from by decide, show kidsF 10 = 1 from by decide, knownF, hu.1, hu.2]
end Go.Proofs.YtmngicgdgpimlaaDoor
