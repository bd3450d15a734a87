/- AttackForged answers true at every input and leaves it as it was. No condition. -/
import Derived.Test.YtgielmldblopeaaRowAttack
import Derived.Test.YtgielmldblopeaaLawAttackC
namespace Go.Proofs.Ytgielmldblopeaa
open Go Go.Wk
open Go.ChangeShapes Go.WideShapes Go.ChangeAt Go.RowKit
set_option maxRecDepth 100000

instance troStr : Tro Try.prog 9 (List UInt8) := troS Try.underlying9 (by kernel_rfl)
instance troRow : Tro Try.prog 37 LRow := ⟨fun enc w base spare held fuel cs x h => by
  obtain ⟨hlen, hf⟩ := trod_flds Try.underlying37 h
  rw [show Try.prog.cellsOf 37 = 6 from by kernel_rfl] at hlen
  obtain ⟨n0, y0, g0⟩ := hf 0 9 0 rfl
  obtain ⟨n1, y1, g1⟩ := hf 1 35 1 rfl
  obtain ⟨u, e0, i0⟩ := trod_fld (α := List UInt8) g0 rfl
  obtain ⟨t, e1, i1⟩ := trod_fld (α := LTerm) g1 rfl
  refine ⟨⟨u, t⟩, ?_, i1⟩
  match cs, hlen with
  | [c0, c1, c2, c3, c4, c5], _ =>
    have q0 : [c0] = [str u] := e0
    have q1 : [c1, c2, c3, c4, c5] = t.cells := e1
    show _ = str u :: t.cells
    simp only [List.cons.injEq, and_true] at q0
    rw [q0, ← q1], by kernel_rfl⟩
instance troRows : Tro Try.prog 26 (Sl LRow) := troSl Try.underlying26 (by kernel_rfl)
theorem forged_lifted (os : Os) (started : os.Started) (H : Type) (enc : TypeId × Value → H) :
    ReturnsInHanded {} Try.checked os 3 .any (Rows.attackForgedSpec.pre6 enc Try.prog Try.f3 Rows.attackForgedRow.domain false) (Rows.attackForgedSpec.post enc Try.prog Try.f3 false true false false) := by
  refine returnsInHanded_of_change (C := Try.checked) own started (by kernel_rfl) Try.func3
    (ChangeSpec.witness6 (enc := enc) (C := Try.checked) false ⟨#[], #[.agg #[.slice none 0 0, .slice none 0 0], .slice none 0 0, .slice none 0 0], []⟩ 8 (by kernel_rfl) (by kernel_rfl) (by kernel_rfl) (by kernel_rfl)) ?_
  intro W base args ds gs before hval0 hW _ _
  have hval : ∀ (j : Nat) t v, Try.f3.params[j]? = some t → args[j]? = some v → Value.okWide Try.prog W .any base t v := hval0
  have hW2 := hW
  obtain ⟨p, q, hA0, hV, rfl, _, _⟩ := hW
  have hA : DataW.TrodAll enc Try.prog W 0 (fun _ => true) true Try.f3.params.toList args.toList ds p := hA0
  rw [Try.params3] at hA hval
  obtain ⟨v0, v1, v2, d0, d1, d2, p0, p1, p2, rfl, rfl, rfl, h0, h1, h2⟩ := trodAll_three hA
  obtain ⟨rfl, rfl⟩ := trodVars_none hV
  obtain ⟨x, rfl, h_x⟩ := struct_of_Trod (α := LAtk) Try.underlying25 h0 (hval 0 25 v0 rfl rfl)
  obtain ⟨ls, rfl, l_ls, m_ls, h_ls⟩ := slice_of_Trod (α := LRow) Try.underlying26 h1 (hval 1 26 v1 rfl rfl)
  obtain ⟨p_qs, c_qs, qs, rfl, l_qs, m_qs, h_qs⟩ := terms_of_Trod (T := 35) Try.underlying23 h2 (hval 2 23 v2 rfl rfl)
  refine Ret.law (forgedlaw_c x ls.xs qs ls.p p_qs ls.cap c_qs W (AtkIn.of h_x) (by unfold maxLen at *; omega) (by unfold maxLen at *; omega) h_ls.stable h_qs.stable) fun W1 hag => ?_
  exact ⟨_, rfl, law_post (B := 4) laidOut (by kernel_rfl) rfl rfl rfl hW2 rfl rfl rfl hag⟩
theorem forged_holds : Rows.AttackForgedSaid :=
  OpenClaim.holds_of_wide 3 Try.f3 rfl rfl rfl rfl rfl rfl rfl ⟨rfl, rfl, rfl, rfl, rfl⟩ rfl rfl rfl rfl rfl (by kernel_rfl) Try.func3 (by kernel_rfl)
    (of_decide_eq_true (by kernel_rfl)) (by unfold Func.isWrapper; rw [if_neg (of_decide_eq_false (by kernel_rfl))]; exact ⟨rfl, rfl⟩)
    (fun os started H enc _ => forged_lifted os started H enc)
end Go.Proofs.Ytgielmldblopeaa
