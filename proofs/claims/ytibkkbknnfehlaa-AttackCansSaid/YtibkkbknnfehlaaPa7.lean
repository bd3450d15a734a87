/- 7: a part of this claim's texts, joined: RowCans. -/
import Derived.Test.YtibkkbknnfehlaaPa6
/- AttackCans: what can be reckoned, and what leaks, is what the document says; for all attackers and every row of terms. No condition. -/
namespace Go.Proofs.Ytibkkbknnfehlaa
open Go Go.Wk
open Go.ChangeShapes Go.WideShapes Go.ChangeAt Go.RowKit
set_option maxRecDepth 100000
theorem cans_lifted (os : Os) (started : os.Started) (H : Type) (enc : TypeId × Value → H) :
    ReturnsInHanded {} Try.checked os 3 .any (Rows.attackCansSpec.pre6 enc Try.prog Try.f3 Rows.attackCansRow.domain false) (Rows.attackCansSpec.post enc Try.prog Try.f3 false true false false) := by
  refine returnsInHanded_of_change (C := Try.checked) own started (by kernel_rfl) Try.func3
    (ChangeSpec.witness6 (enc := enc) (C := Try.checked) false ⟨#[], #[.agg #[.slice none 0 0, .slice none 0 0], .slice none 0 0], []⟩ 8 (by kernel_rfl) (by kernel_rfl) (by kernel_rfl) (by kernel_rfl)) ?_
  intro W base args ds gs before hval0 hW _ _
  have hval : ∀ (j : Nat) t v, Try.f3.params[j]? = some t → args[j]? = some v → Value.okWide Try.prog W .any base t v := hval0
  have hW2 := hW
  obtain ⟨p, q, hA0, hV, rfl, _, _⟩ := hW
  have hA : DataW.TrodAll enc Try.prog W 0 (fun _ => true) true Try.f3.params.toList args.toList ds p := hA0
  rw [Try.params3] at hA hval
  obtain ⟨v0, v1, d0, d1, p0, p1, rfl, rfl, rfl, h0, h1⟩ := trodAll_two hA
  obtain ⟨rfl, rfl⟩ := trodVars_none hV
  obtain ⟨x, rfl, h_x⟩ := struct_of_Trod (α := LAtk) Try.underlying25 h0 (hval 0 25 v0 rfl rfl)
  obtain ⟨p_ls, c_ls, ls, rfl, l_ls, m_ls, h_ls⟩ := terms_of_Trod (T := 37) Try.underlying23 h1 (hval 1 23 v1 rfl rfl)
  refine Ret.law (canslaw_c x ls p_ls c_ls W (AtkIn.of h_x) (by unfold maxLen at *; omega) h_ls.stable) fun W1 hag => ?_
  exact ⟨_, rfl, law_post (B := 4) laidOut (by kernel_rfl) rfl rfl rfl hW2 rfl rfl rfl hag⟩
theorem cans_holds : Rows.AttackCansSaid :=
  OpenClaim.holds_of_wide 3 Try.f3 rfl rfl rfl rfl rfl rfl rfl ⟨rfl, rfl, rfl, rfl, rfl⟩ rfl rfl rfl rfl rfl (by kernel_rfl) Try.func3 (by kernel_rfl)
    (of_decide_eq_true (by kernel_rfl)) (by unfold Func.isWrapper; rw [if_neg (of_decide_eq_false (by kernel_rfl))]; exact ⟨rfl, rfl⟩)
    (fun os started H enc _ => cans_lifted os started H enc)
end Go.Proofs.Ytibkkbknnfehlaa