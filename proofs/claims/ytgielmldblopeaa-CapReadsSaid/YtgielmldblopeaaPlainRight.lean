/- term.Check is the document's answer. -/
import Derived.Test.YtgielmldblopeaaRefTerm
namespace Go.Proofs.Ytgielmldblopeaa
open Go Go.Wk
set_option maxRecDepth 100000

theorem plain_one (k u n : Int) (s : List UInt8) (m : Nat) : plainF k u n s m = rOne k u n s m := by
  by_cases hk : 1 ≤ k ∧ k ≤ 8
  · obtain ⟨h1, h2⟩ := hk
    have hk8 : k = 1 ∨ k = 2 ∨ k = 3 ∨ k = 4 ∨ k = 5 ∨ k = 6 ∨ k = 7 ∨ k = 8 := by omega
    rcases hk8 with rfl | rfl | rfl | rfl | rfl | rfl | rfl | rfl <;>
      (simp only [plainF, rOne, show fieldsOf 1 = 1 from rfl, show fieldsOf 2 = 6 from rfl, show fieldsOf 3 = 2 from rfl, show fieldsOf 4 = 16 from rfl, show fieldsOf 5 = 8 from rfl, show fieldsOf 6 = 16 from rfl, show fieldsOf 7 = 10 from rfl, show fieldsOf 8 = 14 from rfl,
        show kidsF 1 = 0 from by decide, show kidsF 6 = 0 from by decide, show kidsF 2 = 0 from by decide, show kidsF 16 = 2 from by decide, show kidsF 8 = 1 from by decide, show kidsF 10 = 1 from by decide, show kidsF 14 = 1 from by decide,
        show rKids 1 = 0 from rfl, show rKids 2 = 0 from rfl, show rKids 3 = 0 from rfl, show rKids 4 = 2 from rfl, show rKids 5 = 1 from rfl, show rKids 6 = 2 from rfl, show rKids 7 = 1 from rfl, show rKids 8 = 1 from rfl,
        show hasF 1 1 = true from by decide, show hasF 1 2 = false from by decide, show hasF 1 4 = false from by decide,
        show hasF 6 1 = false from by decide, show hasF 6 2 = true from by decide, show hasF 6 4 = true from by decide,
        show hasF 2 1 = false from by decide, show hasF 2 2 = true from by decide, show hasF 2 4 = false from by decide,
        show hasF 16 1 = false from by decide, show hasF 16 2 = false from by decide, show hasF 16 4 = false from by decide,
        show hasF 8 1 = false from by decide, show hasF 8 2 = false from by decide, show hasF 8 4 = false from by decide,
        show hasF 10 1 = false from by decide, show hasF 10 2 = true from by decide, show hasF 10 4 = false from by decide,
        show hasF 14 1 = false from by decide, show hasF 14 2 = true from by decide, show hasF 14 4 = true from by decide,
        show rUser 1 = false from rfl, show rUser 2 = true from rfl, show rUser 3 = true from rfl, show rUser 4 = false from rfl, show rUser 5 = false from rfl, show rUser 6 = false from rfl, show rUser 7 = true from rfl, show rUser 8 = true from rfl,
        show rNum 1 = false from rfl, show rNum 2 = true from rfl, show rNum 3 = false from rfl, show rNum 4 = false from rfl, show rNum 5 = false from rfl, show rNum 6 = false from rfl, show rNum 7 = false from rfl, show rNum 8 = true from rfl, knownF]
       rw [Bool.eq_iff_iff]
       simp
       try omega)
  · have h1 : fieldsOf k = 0 := by
      unfold fieldsOf; (repeat' split) <;> omega
    have h2 : rKids k = -1 := by
      unfold rKids; rw [if_pos]; omega
    simp [plainF, rOne, h1, h2]
mutual
theorem walk_size : ∀ (t : Term) (deep left : Int), (walkF t deep left).1 = (rSize t left (61 - deep)).2 ∧ ((walkF t deep left).1 = true → (walkF t deep left).2 = left - (rSize t left (61 - deep)).1)
  | .mk k u n s kids, deep, left => by
    rw [walkF, rSize, plain_one]
    have e : (left - 1 < 0 ∨ 60 < deep ∨ rOne k u n s kids.length = false) ↔ (left < 1 ∨ 61 - deep < 1 ∨ rOne k u n s kids.length = false) := or_congr (by omega) (or_congr (by omega) Iff.rfl)
    by_cases hc : left - 1 < 0 ∨ 60 < deep ∨ rOne k u n s kids.length = false
    · rw [if_pos hc, if_pos (e.1 hc)]; simp
    · rw [if_neg hc, if_neg (fun h => hc (e.2 h))]
      have := walk_sizeL kids (deep + 1) left 1
      rw [show 61 - (deep + 1) + 1 = 61 - deep from by omega] at this
      exact this
theorem walk_sizeL : ∀ (ts : List Term) (deep left n : Int), (walkLF ts deep (left - n)).1 = (rSizeL ts left (61 - deep + 1) n).2 ∧ ((walkLF ts deep (left - n)).1 = true → (walkLF ts deep (left - n)).2 = left - (rSizeL ts left (61 - deep + 1) n).1)
  | [], deep, left, n => by simp [walkLF, rSizeL]
  | t :: ts, deep, left, n => by
    rw [walkLF, rSizeL]
    have h1 := walk_size t deep (left - n)
    rw [show 61 - deep + 1 - 1 = 61 - deep from by omega]
    cases hb : (rSize t (left - n) (61 - deep)).2 with
    | false =>
      rw [hb] at h1
      simp [h1.1]
    | true =>
      rw [hb] at h1
      rw [if_pos h1.1, if_pos rfl, h1.2 h1.1]
      have h2 := walk_sizeL ts deep left (n + (rSize t (left - n) (61 - deep)).1)
      rw [show left - (n + (rSize t (left - n) (61 - deep)).1) = left - n - (rSize t (left - n) (61 - deep)).1 from by omega] at h2
      exact h2
end
theorem size_ref (t : Term) : sizeF t = if rightF t then (rSize t 1200 60).1 else 0 := by
  have := walk_size t 1 1200
  rw [show (61 : Int) - 1 = 60 from rfl] at this
  unfold sizeF rightF
  rw [this.1]
  split
  · rename_i h; rw [this.2 (by rw [this.1]; exact h)]; omega
  · rfl
theorem check_right (t : Term) : checkF t = if rightF t then 0 else 150 := by
  have h := size_ref t
  unfold checkF
  cases hr : rightF t with
  | false => rw [hr] at h; simp at h; simp [h]
  | true =>
    rw [hr] at h; simp at h
    have := rSize_le t 1200 60 hr
    rw [if_neg (by omega), if_pos rfl]
theorem check_zero {t : Term} : checkF t = 0 ↔ rightF t = true := by
  rw [check_right]; cases rightF t <;> simp
end Go.Proofs.Ytgielmldblopeaa
