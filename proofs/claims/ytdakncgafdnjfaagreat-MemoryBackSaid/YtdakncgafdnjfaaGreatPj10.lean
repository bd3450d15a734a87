/- 10: a part of this claim's texts, joined: RowMemB. -/
import Derived.Test.YtdakncgafdnjfaaGreatPj9
/- MemoryBack answers true at every input and leaves it as it was. No condition. -/
namespace Go.Proofs.YtdakncgafdnjfaaGreat
open Go Go.Wk
open Go.ChangeShapes Go.WideShapes Go.ChangeAt Go.RowKit
set_option maxRecDepth 100000
instance troByteM : Tro Tryz.prog 5 UInt8 := troB Tryz.underlying5 (by kernel_rfl)
instance troBytesM : Tro Tryz.prog 25 (Sl UInt8) := troSl Tryz.underlying25 (by kernel_rfl)
theorem memback_lifted (os : Os) (started : os.Started) (H : Type) (enc : TypeId × Value → H) :
    ReturnsInHanded {} Tryz.checked os 9 .any (Rows.memoryBackSpec.pre6 enc Tryz.prog Tryz.f9 Rows.memoryBackRow.domain false) (Rows.memoryBackSpec.post enc Tryz.prog Tryz.f9 false true false false) := by
  refine returnsInHanded_of_change (C := Tryz.checked) own started (by kernel_rfl) Tryz.func9
    (ChangeSpec.witness6 (enc := enc) (C := Tryz.checked) false ⟨#[], #[.agg #[.int .i64 0, .int .i64 0, .int .i64 0, .int .i64 0, .slice none 0 0, .slice none 0 0, .slice none 0 0], .slice none 0 0, .int .i64 0], []⟩ 8 (by kernel_rfl) (by kernel_rfl) (by kernel_rfl) (by kernel_rfl)) ?_
  intro W base args ds gs before hval0 hW _ _
  have hval : ∀ (j : Nat) t v, Tryz.f9.params[j]? = some t → args[j]? = some v → Value.okWide Tryz.prog W .any base t v := hval0
  have hW2 := hW
  obtain ⟨p, q, hA0, hV, rfl, _, _⟩ := hW
  have hA : DataW.TrodAll enc Tryz.prog W 0 (fun _ => true) true Tryz.f9.params.toList args.toList ds p := hA0
  rw [Tryz.params9] at hA hval
  obtain ⟨v0, v1, v2, d0, d1, d2, p0, p1, p2, rfl, rfl, rfl, h0, h1, h2⟩ := trodAll_three hA
  obtain ⟨rfl, rfl⟩ := trodVars_none hV
  obtain ⟨m, rfl, h_m⟩ := struct_of_Trod (α := LMem) Tryz.underlying67 h0 (hval 0 67 v0 rfl rfl)
  obtain ⟨b, rfl, l_b, m_b, h_b⟩ := slice_of_Trod (α := UInt8) Tryz.underlying25 h1 (hval 1 25 v1 rfl rfl)
  obtain ⟨n, rfl, rfl, rfl, wn⟩ := open_int Tryz.underlying3 (hval 2 3 v2 rfl rfl) h2
  refine Ret.law (memback_c m b.xs b.p b.cap n W h_m l_b m_b h_b.stable) fun W1 hag => ?_
  exact ⟨_, rfl, law_post (B := 4) laidOut (by kernel_rfl) rfl rfl rfl hW2 rfl rfl rfl hag⟩
theorem memback_fi : (Rows.memoryBackRow.inPlace == Tryz.pinned.checked.prog.inPlace 9) = true := by kernel_rfl
theorem memback_fu : (Rows.memoryBackRow.unfollowed == Tryz.pinned.checked.prog.unfollowed 9) = true := by kernel_rfl
theorem memback_fr : (Rows.memoryBackRow.recurses == Tryz.pinned.checked.prog.recurses 9) = true := by kernel_rfl
theorem memback_fn : (Rows.memoryBackRow.named == Tryz.pinned.checked.prog.varsNamed 9) = true := by kernel_rfl
theorem memback_closed : joinedFacts Tryz.pinned.checked.prog 9 Tryz.f9 Rows.memoryBackSpec Rows.memoryBackRow = true := by
  unfold joinedFacts
  rw [memback_fi, memback_fu, memback_fr, memback_fn]
  kernel_rfl
theorem memback_holds : Rows.MemoryBackSaid :=
  OpenClaim.holds_of_wide 9 Tryz.f9 rfl rfl rfl rfl rfl rfl rfl ⟨rfl, rfl, rfl, rfl, rfl⟩ rfl rfl rfl rfl rfl (by kernel_rfl) Tryz.func9 memback_closed
    (of_decide_eq_true (by kernel_rfl)) (by unfold Func.isWrapper; rw [if_neg (of_decide_eq_false (by kernel_rfl))]; exact ⟨rfl, rfl⟩)
    (fun os started H enc _ => memback_lifted os started H enc)
end Go.Proofs.YtdakncgafdnjfaaGreat