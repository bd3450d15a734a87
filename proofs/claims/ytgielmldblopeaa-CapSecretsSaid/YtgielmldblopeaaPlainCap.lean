/- Lists of boxes, in plain words. -/
import Derived.Test.YtgielmldblopeaaPlainSafe
import Derived.Test.YtgielmldblopeaaCapB
namespace Go.Proofs.Ytgielmldblopeaa
open Go Go.Wk
set_option maxRecDepth 100000

theorem risF_all (q : Int → Bool) : ∀ (xs : List Int) (o : Option Int), risF q o xs = true → (∀ x ∈ xs, q x = true) ∧ xs.Pairwise (· < ·) ∧ ∀ y, o = some y → ∀ x ∈ xs, y < x
  | [], o, _ => ⟨nofun, .nil, nofun⟩
  | x :: xs, o, h => by
    rw [risF_cons, Bool.and_eq_true, Bool.and_eq_true] at h
    obtain ⟨⟨h1, h2⟩, h3⟩ := h
    obtain ⟨i1, i2, i3⟩ := risF_all q xs (some x) h3
    refine ⟨fun y hy => ?_, List.pairwise_cons.2 ⟨fun y hy => i3 x rfl y hy, i2⟩, fun y hy z hz => ?_⟩
    · rcases List.mem_cons.1 hy with rfl | hy
      · exact h1
      · exact i1 y hy
    · subst hy
      have h4 : y < x := by simpa using h2
      rcases List.mem_cons.1 hz with rfl | hz
      · exact h4
      · have := i3 x rfl z hz; omega
structure PermOk (p : LPerm) : Prop where
  owner : 1 ≤ p.owner ∧ p.owner ≤ 6
  rdU : ∀ x ∈ p.rd.xs, 1 ≤ x ∧ x ≤ 6
  rdO : p.owner ∉ p.rd.xs
  rd : p.rd.xs.Pairwise (· < ·)
  grU : ∀ x ∈ p.gr.xs, 1 ≤ x ∧ x ≤ 3
  gr : p.gr.xs.Pairwise (· < ·)
theorem permOk {p : LPerm} (h : permB p = true) : PermOk p := by
  unfold permB at h
  simp only [Bool.and_eq_true] at h
  obtain ⟨⟨⟨⟨⟨⟨h1, -⟩, -⟩, h2⟩, -⟩, h3⟩, -⟩ := h
  obtain ⟨a1, a2, -⟩ := risF_all _ _ _ h2
  obtain ⟨b1, b2, -⟩ := risF_all _ _ _ h3
  refine ⟨by simpa [okU] using h1, fun x hx => ?_, fun hx => ?_, a2, fun x hx => by simpa [okG] using b1 x hx, b2⟩
  · have := a1 x hx
    simp [okU] at this; omega
  · have := a1 _ hx
    simp at this
theorem rising_len {lo hi : Int} : ∀ {xs : List Int}, xs.Pairwise (· < ·) → (∀ x ∈ xs, lo ≤ x ∧ x ≤ hi) → (xs.length : Int) ≤ max 0 (hi - lo + 1)
  | [], _, _ => by simp; omega
  | x :: xs, h, hx => by
    have h1 := List.pairwise_cons.1 h
    have h2 := hx x (by simp)
    have ih := rising_len (lo := x + 1) (hi := hi) h1.2 fun y hy => by have := h1.1 y hy; have := hx y (by simp [hy]); omega
    simp only [List.length_cons]
    omega
theorem good_text {s : List UInt8} (h : s.length ≤ 64) : Good (textT s) := by
  refine good_walk.2 ?_
  rw [textT, walkF]
  have hp : plainF 1 0 0 s 0 = true := by
    unfold plainF
    simp [fieldsOf, hasF, kidsF, h, show iand .i64 1 16 = 0 from rfl, show iand .i64 1 8 = 0 from rfl, show iand .i64 1 2 = 0 from rfl, show iand .i64 1 1 = 1 from rfl]
    omega
  simp [hp, walkLF]
theorem good_pair {a b : Term} (ha : Good a) (hb : Good b) (hc : cnt a + cnt b ≤ 1199) (h1 : dpt a ≤ 59) (h2 : dpt b ≤ 59) : Good (.pair a b) :=
  good_mk rfl (by simp; exact ⟨ha, hb⟩) (by simp [cntL]; omega) (by simp [dptL]; omega)
theorem cnt_pair (a b : Term) : cnt (.pair a b) = 1 + (cnt a + cnt b) := by simp [Term.pair, cnt, cntL]
theorem dpt_pair (a b : Term) : dpt (.pair a b) = 1 + max (dpt a) (dpt b) := by simp [Term.pair, dpt, dptL]
theorem listT_good : ∀ (ts : List Term), (∀ t ∈ ts, Good t ∧ cnt t ≤ 20 ∧ dpt t ≤ 20) → ts.length ≤ 30 → Good (listT ts) ∧ cnt (listT ts) ≤ 1 + 21 * ts.length ∧ dpt (listT ts) ≤ 21 + ts.length
  | [], _, _ => ⟨good_text (by simp), by simp [listT, textT, cnt, cntL], by simp [listT, textT, dpt, dptL]⟩
  | t :: ts, h, hl => by
    simp only [List.length_cons] at hl
    obtain ⟨i1, i2, i3⟩ := listT_good ts (fun x hx => h x (by simp [hx])) (by omega)
    obtain ⟨g1, g2, g3⟩ := h t (by simp)
    rw [listT, cnt_pair, dpt_pair, List.length_cons]
    exact ⟨good_pair g1 i1 (by omega) (by omega) (by omega), by omega, by omega⟩
end Go.Proofs.Ytgielmldblopeaa
