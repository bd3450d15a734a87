/- CapSecrets answers true at every input and leaves it as it was. No condition. -/
import Derived.Test.YtgielmldblopeaaRowCap
import Derived.Test.YtgielmldblopeaaLawCapC
namespace Go.Proofs.Ytgielmldblopeaa
open Go Go.Wk
open Go.ChangeShapes Go.WideShapes Go.ChangeAt Go.RowKit
set_option maxRecDepth 100000

theorem capsecrets_lifted (os : Os) (started : os.Started) (H : Type) (enc : TypeId × Value → H) :
    ReturnsInHanded {} Try.checked os 6 .any (Rows.capSecretsSpec.pre6 enc Try.prog Try.f6 Rows.capSecretsRow.domain false) (Rows.capSecretsSpec.post enc Try.prog Try.f6 false true false false) := by
  refine returnsInHanded_of_change (C := Try.checked) own started (by kernel_rfl) Try.func6
    (ChangeSpec.witness6 (enc := enc) (C := Try.checked) false ⟨#[], #[.agg #[.int .i64 0, .int .i64 0, .slice none 0 0, .slice none 0 0, .slice none 0 0], .slice none 0 0, .slice none 0 0], []⟩ 8 (by kernel_rfl) (by kernel_rfl) (by kernel_rfl) (by kernel_rfl)) ?_
  intro W base args ds gs before hval0 hW _ _
  have hval : ∀ (j : Nat) t v, Try.f6.params[j]? = some t → args[j]? = some v → Value.okWide Try.prog W .any base t v := hval0
  have hW2 := hW
  obtain ⟨p, q, hA0, hV, rfl, _, _⟩ := hW
  have hA : DataW.TrodAll enc Try.prog W 0 (fun _ => true) true Try.f6.params.toList args.toList ds p := hA0
  rw [Try.params6] at hA hval
  obtain ⟨v0, v1, v2, d0, d1, d2, p0, p1, p2, rfl, rfl, rfl, h0, h1, h2⟩ := trodAll_three hA
  obtain ⟨rfl, rfl⟩ := trodVars_none hV
  obtain ⟨x, rfl, h_x⟩ := struct_of_Trod (α := LPerm) Try.underlying56 h0 (hval 0 56 v0 rfl rfl)
  obtain ⟨us, rfl, l_us, m_us, h_us⟩ := slice_of_Trod (α := Bool) Try.underlying72 h1 (hval 1 72 v1 rfl rfl)
  obtain ⟨gs, rfl, l_gs, m_gs, h_gs⟩ := slice_of_Trod (α := Bool) Try.underlying72 h2 (hval 2 72 v2 rfl rfl)
  refine Ret.law (capsecrets_c x us.xs gs.xs us.p gs.p us.cap gs.cap W (InF.stable h_x) h_us.stable h_gs.stable) fun W1 hag => ?_
  exact ⟨_, rfl, law_post (B := 4) laidOut (by kernel_rfl) rfl rfl rfl hW2 rfl rfl rfl hag⟩
theorem capsecrets_holds : Rows.CapSecretsSaid :=
  OpenClaim.holds_of_wide 6 Try.f6 rfl rfl rfl rfl rfl rfl rfl ⟨rfl, rfl, rfl, rfl, rfl⟩ rfl rfl rfl rfl rfl (by kernel_rfl) Try.func6 (by kernel_rfl)
    (of_decide_eq_true (by kernel_rfl)) (by unfold Func.isWrapper; rw [if_neg (of_decide_eq_false (by kernel_rfl))]; exact ⟨rfl, rfl⟩)
    (fun os started H enc _ => capsecrets_lifted os started H enc)
end Go.Proofs.Ytgielmldblopeaa
