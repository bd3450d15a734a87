/- 12: a part of this claim's texts, joined: RowMemD. -/
import Derived.Test.YtdakncgafdnjfaaGreatPk11
/- MemoryChecks answers true at every input and leaves it as it was. No condition. -/
namespace Go.Proofs.YtdakncgafdnjfaaGreat
open Go Go.Wk
open Go.ChangeShapes Go.WideShapes Go.ChangeAt Go.RowKit
set_option maxRecDepth 100000
instance troMems : Tro Tryz.prog 62 (Sl LMem) := troSl Tryz.underlying62 (by kernel_rfl)
theorem memchecks_lifted (os : Os) (started : os.Started) (H : Type) (enc : TypeId × Value → H) :
    ReturnsInHanded {} Tryz.checked os 7 .any (Rows.memoryChecksSpec.pre6 enc Tryz.prog Tryz.f7 Rows.memoryChecksRow.domain false) (Rows.memoryChecksSpec.post enc Tryz.prog Tryz.f7 false true false false) := by
  refine returnsInHanded_of_change (C := Tryz.checked) own started (by kernel_rfl) Tryz.func7
    (ChangeSpec.witness6 (enc := enc) (C := Tryz.checked) false ⟨#[], #[.slice none 0 0], []⟩ 8 (by kernel_rfl) (by kernel_rfl) (by kernel_rfl) (by kernel_rfl)) ?_
  intro W base args ds gs before hval0 hW _ _
  have hval : ∀ (j : Nat) t v, Tryz.f7.params[j]? = some t → args[j]? = some v → Value.okWide Tryz.prog W .any base t v := hval0
  have hW2 := hW
  obtain ⟨p, q, hA0, hV, rfl, _, _⟩ := hW
  have hA : DataW.TrodAll enc Tryz.prog W 0 (fun _ => true) true Tryz.f7.params.toList args.toList ds p := hA0
  rw [Tryz.params7] at hA hval
  obtain ⟨v0, d0, rfl, rfl, h0⟩ := trodAll_one hA
  obtain ⟨rfl, rfl⟩ := trodVars_none hV
  obtain ⟨x, rfl, l_x, m_x, h_x⟩ := slice_of_Trod (α := LMem) Tryz.underlying62 h0 (hval 0 62 v0 rfl rfl)
  refine Ret.law (memchecks_c x.p x.cap x.xs (by have h1 := l_x; have h2 := m_x; unfold maxLen at h2; omega) W h_x.stable) fun W1 hag => ?_
  exact ⟨_, rfl, law_post (B := 4) laidOut (by kernel_rfl) rfl rfl rfl hW2 rfl rfl rfl hag⟩
theorem memchecks_fi : (Rows.memoryChecksRow.inPlace == Tryz.pinned.checked.prog.inPlace 7) = true := by kernel_rfl
theorem memchecks_fu : (Rows.memoryChecksRow.unfollowed == Tryz.pinned.checked.prog.unfollowed 7) = true := by kernel_rfl
theorem memchecks_fr : (Rows.memoryChecksRow.recurses == Tryz.pinned.checked.prog.recurses 7) = true := by kernel_rfl
theorem memchecks_fn : (Rows.memoryChecksRow.named == Tryz.pinned.checked.prog.varsNamed 7) = true := by kernel_rfl
theorem memchecks_closed : joinedFacts Tryz.pinned.checked.prog 7 Tryz.f7 Rows.memoryChecksSpec Rows.memoryChecksRow = true := by
  unfold joinedFacts
  rw [memchecks_fi, memchecks_fu, memchecks_fr, memchecks_fn]
  kernel_rfl
theorem memchecks_holds : Rows.MemoryChecksSaid :=
  OpenClaim.holds_of_wide 7 Tryz.f7 rfl rfl rfl rfl rfl rfl rfl ⟨rfl, rfl, rfl, rfl, rfl⟩ rfl rfl rfl rfl rfl (by kernel_rfl) Tryz.func7 memchecks_closed
    (of_decide_eq_true (by kernel_rfl)) (by unfold Func.isWrapper; rw [if_neg (of_decide_eq_false (by kernel_rfl))]; exact ⟨rfl, rfl⟩)
    (fun os started H enc _ => memchecks_lifted os started H enc)
end Go.Proofs.YtdakncgafdnjfaaGreat