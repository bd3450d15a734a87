/- 10: a part of this claim's texts, joined: RowVaultD. -/
import Derived.Test.YtdakncgafdnjfaaGreatPf9
/- VaultOpens answers true at every input and leaves it as it was. No condition. -/
namespace Go.Proofs.YtdakncgafdnjfaaGreat
open Go Go.Wk
open Go.ChangeShapes Go.WideShapes Go.ChangeAt Go.RowKit
set_option maxRecDepth 100000
instance troByteS : Tro Tryz.prog 5 UInt8 := troB Tryz.underlying5 (by kernel_rfl)
instance troBytesV : Tro Tryz.prog 25 (Sl UInt8) := troSl Tryz.underlying25 (by kernel_rfl)
instance troBrowsV : Tro Tryz.prog 33 (Sl (Sl UInt8)) := troSl Tryz.underlying33 (by kernel_rfl)
theorem vaultopens_lifted (os : Os) (started : os.Started) (H : Type) (enc : TypeId × Value → H) :
    ReturnsInHanded {} Tryz.checked os 4 .any (Rows.vaultOpensSpec.pre6 enc Tryz.prog Tryz.f4 Rows.vaultOpensRow.domain false) (Rows.vaultOpensSpec.post enc Tryz.prog Tryz.f4 false true false false) := by
  refine returnsInHanded_of_change (C := Tryz.checked) own started (by kernel_rfl) Tryz.func4
    (ChangeSpec.witness6 (enc := enc) (C := Tryz.checked) false ⟨#[], #[.slice none 0 0, .slice none 0 0], []⟩ 8 (by kernel_rfl) (by kernel_rfl) (by kernel_rfl) (by kernel_rfl)) ?_
  intro W base args ds gs before hval0 hW _ _
  have hval : ∀ (j : Nat) t v, Tryz.f4.params[j]? = some t → args[j]? = some v → Value.okWide Tryz.prog W .any base t v := hval0
  have hW2 := hW
  obtain ⟨p, q, hA0, hV, rfl, _, _⟩ := hW
  have hA : DataW.TrodAll enc Tryz.prog W 0 (fun _ => true) true Tryz.f4.params.toList args.toList ds p := hA0
  rw [Tryz.params4] at hA hval
  obtain ⟨v0, v1, d0, d1, p0, p1, rfl, rfl, rfl, h0, h1⟩ := trodAll_two hA
  obtain ⟨rfl, rfl⟩ := trodVars_none hV
  obtain ⟨b, rfl, l_b, m_b, h_b⟩ := slice_of_Trod (α := UInt8) Tryz.underlying25 h0 (hval 0 25 v0 rfl rfl)
  obtain ⟨l, rfl, l_l, m_l, h_l⟩ := slice_of_Trod (α := (Sl UInt8)) Tryz.underlying33 h1 (hval 1 33 v1 rfl rfl)
  refine Ret.law (vopens_c b.xs b.p b.cap l.xs l.p l.cap W (by omega) (by unfold maxLen at *; omega) (by unfold maxLen at *; omega) h_b.stable h_l.stable) fun W1 hag => ?_
  exact ⟨_, rfl, law_post (B := 4) laidOut (by kernel_rfl) rfl rfl rfl hW2 rfl rfl rfl hag⟩
theorem vaultopens_holds : Rows.VaultOpensSaid :=
  OpenClaim.holds_of_wide 4 Tryz.f4 rfl rfl rfl rfl rfl rfl rfl ⟨rfl, rfl, rfl, rfl, rfl⟩ rfl rfl rfl rfl rfl (by kernel_rfl) Tryz.func4 (by kernel_rfl)
    (of_decide_eq_true (by kernel_rfl)) (by unfold Func.isWrapper; rw [if_neg (of_decide_eq_false (by kernel_rfl))]; exact ⟨rfl, rfl⟩)
    (fun os started H enc _ => vaultopens_lifted os started H enc)
end Go.Proofs.YtdakncgafdnjfaaGreat