/- 9: a part of this claim's texts, joined: RowVaultC. -/
import Derived.Test.YtdakncgafdnjfaaGreatPe8
/- VaultLasts answers true at every input and leaves it as it was. No condition. -/
namespace Go.Proofs.YtdakncgafdnjfaaGreat
open Go Go.Wk
open Go.ChangeShapes Go.WideShapes Go.ChangeAt Go.RowKit
set_option maxRecDepth 100000

instance troStr : Tro Tryz.prog 9 (List UInt8) := troS Tryz.underlying9 (by kernel_rfl)
instance troRow : Tro Tryz.prog 45 LRow := ⟨fun enc w base spare held fuel cs x h => by
  obtain ⟨hlen, hf⟩ := trod_flds Tryz.underlying45 h
  rw [show Tryz.prog.cellsOf 45 = 6 from by kernel_rfl] at hlen
  obtain ⟨n0, y0, g0⟩ := hf 0 9 0 rfl
  obtain ⟨n1, y1, g1⟩ := hf 1 43 1 rfl
  obtain ⟨u, e0, i0⟩ := trod_fld (α := List UInt8) g0 rfl
  obtain ⟨t, e1, i1⟩ := trod_fld (α := LTerm) g1 rfl
  refine ⟨⟨u, t⟩, ?_, i1⟩
  match cs, hlen with
  | [c0, c1, c2, c3, c4, c5], _ =>
    have q0 : [c0] = [str u] := e0
    have q1 : [c1, c2, c3, c4, c5] = t.cells := e1
    show _ = str u :: t.cells
    simp only [List.cons.injEq, and_true] at q0
    rw [q0, ← q1], by kernel_rfl⟩
instance troRows : Tro Tryz.prog 22 (Sl LRow) := troSl Tryz.underlying22 (by kernel_rfl)
instance troBoolV : Tro Tryz.prog 4 Bool := troBo Tryz.underlying4 (by kernel_rfl)
instance troBoolsV : Tro Tryz.prog 58 (Sl Bool) := troSl Tryz.underlying58 (by kernel_rfl)
instance troRowss : Tro Tryz.prog 57 (Sl (Sl LRow)) := troSl Tryz.underlying57 (by kernel_rfl)
theorem vaultlasts_lifted (os : Os) (started : os.Started) (H : Type) (enc : TypeId × Value → H) :
    ReturnsInHanded {} Tryz.checked os 6 .any (Rows.vaultLastsSpec.pre6 enc Tryz.prog Tryz.f6 Rows.vaultLastsRow.domain false) (Rows.vaultLastsSpec.post enc Tryz.prog Tryz.f6 false true false false) := by
  refine returnsInHanded_of_change (C := Tryz.checked) own started (by kernel_rfl) Tryz.func6
    (ChangeSpec.witness6 (enc := enc) (C := Tryz.checked) false ⟨#[], #[.slice none 0 0, .int .i64 0, .slice none 0 0], []⟩ 8 (by kernel_rfl) (by kernel_rfl) (by kernel_rfl) (by kernel_rfl)) ?_
  intro W base args ds gs before hval0 hW _ _
  have hval : ∀ (j : Nat) t v, Tryz.f6.params[j]? = some t → args[j]? = some v → Value.okWide Tryz.prog W .any base t v := hval0
  have hW2 := hW
  obtain ⟨p, q, hA0, hV, rfl, _, _⟩ := hW
  have hA : DataW.TrodAll enc Tryz.prog W 0 (fun _ => true) true Tryz.f6.params.toList args.toList ds p := hA0
  rw [Tryz.params6] at hA hval
  obtain ⟨v0, v1, v2, d0, d1, d2, p0, p1, p2, rfl, rfl, rfl, h0, h1, h2⟩ := trodAll_three hA
  obtain ⟨rfl, rfl⟩ := trodVars_none hV
  obtain ⟨l, rfl, l_l, m_l, h_l⟩ := slice_of_Trod (α := (Sl LRow)) Tryz.underlying57 h0 (hval 0 57 v0 rfl rfl)
  obtain ⟨n, rfl, rfl, rfl, wn⟩ := open_int Tryz.underlying3 (hval 1 3 v1 rfl rfl) h1
  obtain ⟨kp, rfl, l_kp, m_kp, h_kp⟩ := slice_of_Trod (α := Bool) Tryz.underlying58 h2 (hval 2 58 v2 rfl rfl)
  refine Ret.law (vlasts_c l.xs l.p l.cap n kp.xs kp.p kp.cap W (by unfold maxLen at *; omega) (by unfold maxLen at *; omega) h_l.stable h_kp.stable) fun W1 hag => ?_
  exact ⟨_, rfl, law_post (B := 4) laidOut (by kernel_rfl) rfl rfl rfl hW2 rfl rfl rfl hag⟩
theorem vaultlasts_holds : Rows.VaultLastsSaid :=
  OpenClaim.holds_of_wide 6 Tryz.f6 rfl rfl rfl rfl rfl rfl rfl ⟨rfl, rfl, rfl, rfl, rfl⟩ rfl rfl rfl rfl rfl (by kernel_rfl) Tryz.func6 (by kernel_rfl)
    (of_decide_eq_true (by kernel_rfl)) (by unfold Func.isWrapper; rw [if_neg (of_decide_eq_false (by kernel_rfl))]; exact ⟨rfl, rfl⟩)
    (fun os started H enc _ => vaultlasts_lifted os started H enc)
end Go.Proofs.YtdakncgafdnjfaaGreat
