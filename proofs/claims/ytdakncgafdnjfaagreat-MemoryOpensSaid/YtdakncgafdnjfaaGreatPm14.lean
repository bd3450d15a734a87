/- 14: a part of this claim's texts, joined: RowMemE. -/
import Derived.Test.YtdakncgafdnjfaaGreatPm13
/- OO answers true at every input and leaves it as it was. No condition. -/
namespace Go.Proofs.YtdakncgafdnjfaaGreat
open Go Go.Wk
open Go.ChangeShapes Go.WideShapes Go.ChangeAt Go.RowKit
set_option maxRecDepth 100000
theorem tD {P : Program} {T : TypeId} {α : Type} {Z : α → Prop} [dW α] [hT : wY P T α Z] {H : Type} {enc : TypeId × Value → H} {w : World} {base : Nat} {spare : Nat → Bool} {held : Bool} {fs : Array Field} (hu : P.underlying T = some (.struct fs)) {v : Value} {d : DataW H} {p : List MemPlace} {r : Reach} {W : World} {base' : Nat} (h : DataW.Trod enc P w base spare held T v d p) (hv : Value.okWide P W r base' T v) :
    ∃ a : α, v = .agg ⟨cX.cells a⟩ ∧ dW.ny w a ∧ ((∀ n ∈ d.weights P T, n ≤ reachBytes) → Z a) := by
  obtain ⟨cs, rfl, _⟩ := okWide_struct hu hv
  obtain ⟨fuel, hf⟩ := h
  obtain ⟨a, e, ha, hz⟩ := hT.of _ _ _ _ _ _ _ _ hf
  refine ⟨a, ?_, ha, hz⟩
  have : cs.toList = cX.cells a := by simpa [Value.cells] using e
  rw [← this]
instance Vi : uJ Tryz.prog 5 UInt8 := XX Tryz.underlying5 (by kernel_rfl)
instance R8 : uJ Tryz.prog 25 (Sl UInt8) := AH Tryz.underlying25 (by kernel_rfl)
instance R9 : uJ Tryz.prog 33 (Sl (Sl UInt8)) := AH Tryz.underlying33 (by kernel_rfl)
theorem tE (os : Os) (started : os.Started) (H : Type) (enc : TypeId × Value → H) :
    ReturnsInHanded {} Tryz.checked os 11 .any (Rows.memoryOpensSpec.pre6 enc Tryz.prog Tryz.f11 Rows.memoryOpensRow.domain false) (Rows.memoryOpensSpec.post enc Tryz.prog Tryz.f11 false true false false) := by
  refine returnsInHanded_of_change_sized (C := Tryz.checked) own started (by kernel_rfl) Tryz.func11
    (ChangeSpec.witness6 (enc := enc) (C := Tryz.checked) false ⟨#[], #[.slice none 0 0, .slice none 0 0, .agg #[.int .i64 0, .int .i64 0, .int .i64 0, .int .i64 0, .int .i64 0, .int .i64 0, .slice none 0 0, .slice none 0 0, .slice none 0 0, .slice none 0 0]], []⟩ 8 (by kernel_rfl) (by kernel_rfl) (by kernel_rfl) (by kernel_rfl)) ?_
  intro W base args ds gs before Vj hW _ hz _
  have hval : ∀ (j : Nat) t v, Tryz.f11.params[j]? = some t → args[j]? = some v → Value.okWide Tryz.prog W .any base t v := Vj
  have hW2 := hW
  obtain ⟨p, q, XF, hV, rfl, _, _⟩ := hW
  have hA : DataW.TrodAll enc Tryz.prog W 0 (fun _ => true) true Tryz.f11.params.toList args.toList ds p := XF
  rw [Tryz.params11] at hA hval
  obtain ⟨v0, v1, v2, d0, d1, d2, p0, p1, p2, rfl, rfl, rfl, h0, h1, h2⟩ := trodAll_three hA
  obtain ⟨rfl, rfl⟩ := trodVars_none hV
  obtain ⟨b, rfl, l_b, m_b, h_b⟩ := pI (α := UInt8) Tryz.underlying25 h0 (hval 0 25 v0 rfl rfl)
  obtain ⟨r, rfl, l_r, m_r, h_r⟩ := pI (α := (Sl UInt8)) Tryz.underlying33 h1 (hval 1 33 v1 rfl rfl)
  obtain ⟨x, rfl, h_x, z0_x⟩ := tD (α := DV) Tryz.underlying90 h2 (hval 2 90 v2 rfl rfl)
  have z_x := z0_x (fun n hn => of_decide_eq_true (List.all_eq_true.1 hz n (DataW.weights_mem_each (j := 2) rfl rfl n hn)))
  refine aT.law (K4 b.p b.cap b.xs (by omega) r.p r.cap r.xs (by omega) x z_x W h_b.aO h_r.aO (NS.aO h_x)) fun W1 iR => ?_
  exact ⟨_, rfl, HI (B := 4) laidOut (by kernel_rfl) rfl rfl rfl hW2 rfl rfl rfl iR⟩
theorem Ch : (Rows.memoryOpensRow.inPlace == Tryz.pinned.checked.prog.inPlace 11) = true := by kernel_rfl
theorem Ci : (Rows.memoryOpensRow.unfollowed == Tryz.pinned.checked.prog.unfollowed 11) = true := by kernel_rfl
theorem Cj : (Rows.memoryOpensRow.recurses == Tryz.pinned.checked.prog.recurses 11) = true := by kernel_rfl
theorem Ck : (Rows.memoryOpensRow.named == Tryz.pinned.checked.prog.varsNamed 11) = true := by kernel_rfl
theorem tF : joinedFacts Tryz.pinned.checked.prog 11 Tryz.f11 Rows.memoryOpensSpec Rows.memoryOpensRow = true := by
  unfold joinedFacts
  rw [Ch, Ci, Cj, Ck]
  kernel_rfl
theorem memopens_holds : Rows.MemoryOpensSaid :=
  OpenClaim.holds_of_wide 11 Tryz.f11 rfl rfl rfl rfl rfl rfl rfl ⟨rfl, rfl, rfl, rfl, rfl⟩ rfl rfl rfl rfl rfl (by kernel_rfl) Tryz.func11 tF
    (of_decide_eq_true (by kernel_rfl)) (by unfold Func.isWrapper; rw [if_neg (of_decide_eq_false (by kernel_rfl))]; exact ⟨rfl, rfl⟩)
    (fun os started H enc _ => tE os started H enc)
end Go.Proofs.YtdakncgafdnjfaaGreat