/- AttackGrows answers true at every input and leaves it as it was. No condition. -/
import Derived.Test.YtajmjbboahmdkaaRowAttack
import Derived.Test.YtajmjbboahmdkaaLawAttackB
namespace Go.Proofs.Ytajmjbboahmdkaa
open Go Go.Wk
open Go.ChangeShapes Go.WideShapes Go.ChangeAt Go.RowKit
set_option maxRecDepth 100000

theorem grows_lifted (os : Os) (started : os.Started) (H : Type) (enc : TypeId × Value → H) :
    ReturnsInHanded {} Try.checked os 4 .any (Rows.attackGrowsSpec.pre6 enc Try.prog Try.f4 Rows.attackGrowsRow.domain false) (Rows.attackGrowsSpec.post enc Try.prog Try.f4 false true false false) := by
  refine returnsInHanded_of_change (C := Try.checked) own started (by kernel_rfl) Try.func4
    (ChangeSpec.witness6 (enc := enc) (C := Try.checked) false ⟨#[], #[.agg #[.slice none 0 0, .slice none 0 0], .slice none 0 0, .slice none 0 0], []⟩ 8 (by kernel_rfl) (by kernel_rfl) (by kernel_rfl) (by kernel_rfl)) ?_
  intro W base args ds gs before hval0 hW _ _
  have hval : ∀ (j : Nat) t v, Try.f4.params[j]? = some t → args[j]? = some v → Value.okWide Try.prog W .any base t v := hval0
  have hW2 := hW
  obtain ⟨p, q, hA0, hV, rfl, _, _⟩ := hW
  have hA : DataW.TrodAll enc Try.prog W 0 (fun _ => true) true Try.f4.params.toList args.toList ds p := hA0
  rw [Try.params4] at hA hval
  obtain ⟨v0, v1, v2, d0, d1, d2, p0, p1, p2, rfl, rfl, rfl, h0, h1, h2⟩ := trodAll_three hA
  obtain ⟨rfl, rfl⟩ := trodVars_none hV
  obtain ⟨x, rfl, h_x⟩ := struct_of_Trod (α := LAtk) Try.underlying25 h0 (hval 0 25 v0 rfl rfl)
  obtain ⟨p_ls, c_ls, ls, rfl, l_ls, m_ls, h_ls⟩ := terms_of_Trod (T := 37) Try.underlying23 h1 (hval 1 23 v1 rfl rfl)
  obtain ⟨p_qs, c_qs, qs, rfl, l_qs, m_qs, h_qs⟩ := terms_of_Trod (T := 37) Try.underlying23 h2 (hval 2 23 v2 rfl rfl)
  refine Ret.law (growslaw_c x ls qs p_ls p_qs c_ls c_qs W (AtkIn.of h_x) (by unfold maxLen at *; omega) (by unfold maxLen at *; omega) h_ls.stable h_qs.stable) fun W1 hag => ?_
  exact ⟨_, rfl, law_post (B := 4) laidOut (by kernel_rfl) rfl rfl rfl hW2 rfl rfl rfl hag⟩
theorem grows_holds : Rows.AttackGrowsSaid :=
  OpenClaim.holds_of_wide 4 Try.f4 rfl rfl rfl rfl rfl rfl rfl ⟨rfl, rfl, rfl, rfl, rfl⟩ rfl rfl rfl rfl rfl (by kernel_rfl) Try.func4 (by kernel_rfl)
    (of_decide_eq_true (by kernel_rfl)) (by unfold Func.isWrapper; rw [if_neg (of_decide_eq_false (by kernel_rfl))]; exact ⟨rfl, rfl⟩)
    (fun os started H enc _ => grows_lifted os started H enc)
end Go.Proofs.Ytajmjbboahmdkaa
