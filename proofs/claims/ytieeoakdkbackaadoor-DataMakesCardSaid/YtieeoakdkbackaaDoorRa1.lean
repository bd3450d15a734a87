/- 1: a part of this claim's texts, joined: RowDataMakes. -/
import Derived.Test.YtieeoakdkbackaaDoorPa8
import Derived.Test.YtieeoakdkbackaaDoorTie
import Derived.Test.YtieeoakdkbackaaDoorCards
import Derived.SevenTiedAt
/- DataMakes answers true at every input and leaves it as it was: the row, and the tied card. -/
namespace Go.Proofs.YtieeoakdkbackaaDoor
open Go Go.Wk
open Go.ChangeShapes Go.WideShapes Go.ChangeAt Go.RowKit
set_option maxRecDepth 100000

theorem datamakes_lifted (os : Os) (started : os.Started) (H : Type) (enc : TypeId × Value → H) :
    ReturnsInHanded {} Tryd.checked os 4 .any (fun w args => (Rows.dataMakesSpec.pre enc Tryd.prog Tryd.f4 Rows.dataMakesRow.domain false w args ∧ laidMet Tryd.prog laidL w) ∧ sizedMet enc Tryd.prog Tryd.f4 (OpenSpec.ofChange Rows.dataMakesSpec) false w args)
      (Rows.dataMakesSpec.post enc Tryd.prog Tryd.f4 false true false false) := by
  refine returnsInHanded_of_change_and (C := Tryd.checked) (X := fun w _ => laidMet Tryd.prog laidL w) (fun _ _ _ hh h => h.of_heap hh) own started (by kernel_rfl) Tryd.func4
    (ChangeSpec.witness_at (enc := enc) (C := Tryd.checked) (os := os) (X := fun w _ => laidMet Tryd.prog laidL w) false (laidWorld os) #[.agg #[.string .empty, .int .i64 0, .int .i64 0, .int .i64 0, .int .i64 0, .int .i64 0, .int .i64 0, .string .empty, .slice none 0 0], .agg #[.string .empty, .int .i64 0, .int .i64 0, .int .i64 0, .int .i64 0, .int .i64 0, .int .i64 0, .string .empty, .slice none 0 0], .int .i64 0] 8 rfl (by kernel_rfl) (by kernel_rfl) (by kernel_rfl) (by kernel_rfl) (by kernel_rfl) (laidWorld_met os _)) ?_
  intro W base args ds gs before hval0 hW _ _ hL _
  have hval : ∀ (j : Nat) t v, Tryd.f4.params[j]? = some t → args[j]? = some v → Value.okWide Tryd.prog W .any base t v := hval0
  have hW2 := hW
  obtain ⟨p, q, hA0, hV, rfl, _, _⟩ := hW
  have hA : DataW.TrodAll enc Tryd.prog W 0 (fun _ => true) true Tryd.f4.params.toList args.toList ds p := hA0
  rw [Tryd.params4] at hA hval
  obtain ⟨v0, v1, v2, d0, d1, d2, p0, p1, p2, rfl, rfl, rfl, h0, h1, h2⟩ := trodAll_three hA
  obtain ⟨rfl, rfl⟩ := trodVars_none hV
  obtain ⟨d, rfl, h_d⟩ := struct_of_Trod (α := LDat) Tryd.underlying28 h0 (hval 0 28 v0 rfl rfl)
  obtain ⟨o, rfl, h_o⟩ := struct_of_Trod (α := LDat) Tryd.underlying28 h1 (hval 1 28 v1 rfl rfl)
  obtain ⟨leaf, rfl, rfl, rfl, wleaf⟩ := open_int Tryd.underlying3 (hval 2 3 v2 rfl rfl) h2
  refine Ret.law (datamakes_c d o leaf W (lib_of_laid hL).stable h_d.stable h_o.stable) fun W1 hag => ?_
  exact ⟨_, rfl, law_post (B := 4) laidOut (by kernel_rfl) rfl rfl rfl hW2 rfl rfl rfl hag⟩
theorem datamakes_row : Rows.DataMakesSaid :=
  OpenClaim.holds_of_wide 4 Tryd.f4 rfl rfl rfl rfl rfl rfl rfl ⟨rfl, rfl, rfl, rfl, rfl⟩ rfl rfl rfl rfl rfl (by kernel_rfl) Tryd.func4 (by kernel_rfl)
    (of_decide_eq_true (by kernel_rfl)) (by unfold Func.isWrapper; rw [if_neg (of_decide_eq_false (by kernel_rfl))]; exact ⟨rfl, rfl⟩)
    (fun os started H enc _ => datamakes_lifted os started H enc)
theorem datamakes_holds : Rows.DataMakesCardSaid :=
  Claim7.holds_tied_plain_at .later [] [.data, .data, .data, .sentinel, .sentinel] true (true, "30fb8166acb64be85a64741f6e8d2359decb1c7b135f688c556d5568ddad5165") true
    datamakes_row (fun _ h => by cases h) (by kernel_rfl) (fun _ h => by cases h) dataMakes_row_tie rfl ⟨rfl, rfl⟩ (by kernel_rfl) rfl
    (fun f fn hf hfn => by
      obtain rfl : f = 4 := Option.some.inj ((show Tryd.prog.funcNamed "safehouse/safehouselaw17.DataMakes" = some 4 by kernel_rfl).symm.trans hf) |>.symm
      obtain rfl : fn = Tryd.f4 := (Option.some.inj (Tryd.func4.symm.trans hfn)).symm
      exact ⟨by kernel_rfl, fun j t ht => by
        rw [Tryd.params4] at ht
        have h3 : t = 3 ∨ t = 28 := by
          rcases j with _ | _ | _ | j
          · exact .inr ((by simpa using ht.symm))
          · exact .inr ((by simpa using ht.symm))
          · exact .inl (by simpa using ht.symm)
          · simp at ht
        rcases h3 with rfl | rfl
        · exact (show Tryd.prog.wantsStandIn 3 = false by kernel_rfl)
        · exact (show Tryd.prog.wantsStandIn 28 = false by kernel_rfl)⟩)
    (by kernel_rfl)
end Go.Proofs.YtieeoakdkbackaaDoor
