/- Lists of terms: their sizes. -/
import Derived.Test.YtmngicgdgpimlaaDoorPlainSize
import Derived.Test.YtmngicgdgpimlaaDoorTermG
namespace Go.Proofs.YtmngicgdgpimlaaDoor
open Go Go.Wk
set_option maxRecDepth 100000

theorem good_text {s : List UInt8} (h : s.length ≤ 64) : Good (textT s) := by
  refine good_walk.2 ?_
  rw [textT, walkF]
  have hp : plainF 1 0 0 s 0 = true := by
    unfold plainF
    simp [fieldsOf, hasF, kidsF, h, show iand .i64 1 16 = 0 from rfl, show iand .i64 1 8 = 0 from rfl, show iand .i64 1 2 = 0 from rfl, show iand .i64 1 1 = 1 from rfl]
    omega
  simp [hp, walkLF]
theorem good_pair {a b : Term} (ha : Good a) (hb : Good b) (hc : cnt a + cnt b ≤ 1199) (h1 : dpt a ≤ 59) (h2 : dpt b ≤ 59) : Good (.pair a b) :=
  good_mk rfl (by simp; exact ⟨ha, hb⟩) (by simp [cntL]; omega) (by simp [dptL]; omega)
theorem cnt_pair (a b : Term) : cnt (.pair a b) = 1 + (cnt a + cnt b) := by simp [Term.pair, cnt, cntL]
theorem dpt_pair (a b : Term) : dpt (.pair a b) = 1 + max (dpt a) (dpt b) := by simp [Term.pair, dpt, dptL]
theorem listT_good : ∀ (ts : List Term), (∀ t ∈ ts, Good t ∧ cnt t ≤ 20 ∧ dpt t ≤ 20) → ts.length ≤ 30 → Good (listT ts) ∧ cnt (listT ts) ≤ 1 + 21 * ts.length ∧ dpt (listT ts) ≤ 21 + ts.length
  | [], _, _ => ⟨good_text (by simp), by simp [listT, textT, cnt, cntL], by simp [listT, textT, dpt, dptL]⟩
  | t :: ts, h, hl => by
    simp only [List.length_cons] at hl
    obtain ⟨i1, i2, i3⟩ := listT_good ts (fun x hx => h x (by simp [hx])) (by omega)
    obtain ⟨g1, g2, g3⟩ := h t (by simp)
    rw [listT, cnt_pair, dpt_pair, List.length_cons]
    exact ⟨good_pair g1 i1 (by omega) (by omega) (by omega), by omega, by omega⟩
end Go.Proofs.YtmngicgdgpimlaaDoor
