/- TreeSound answers true at every input and leaves it as it was: the row, and the tied card. -/
import Derived.Test.YtgielmldblopeaaDoorLaidB
import Derived.Test.YtgielmldblopeaaDoorLawTreeC
import Derived.Test.YtgielmldblopeaaDoorTie
import Derived.Test.YtgielmldblopeaaDoorCards
import Derived.SevenTiedAt
namespace Go.Proofs.YtgielmldblopeaaDoor
open Go Go.Wk
open Go.ChangeShapes Go.WideShapes Go.ChangeAt Go.RowKit
set_option maxRecDepth 100000

theorem treesound_lifted (os : Os) (started : os.Started) (H : Type) (enc : TypeId × Value → H) :
    ReturnsInHanded {} Tryd.checked os 8 .any (fun w args => (Rows.treeSoundSpec.pre enc Tryd.prog Tryd.f8 Rows.treeSoundRow.domain false w args ∧ laidMet Tryd.prog laidL w) ∧ sizedMet enc Tryd.prog Tryd.f8 (OpenSpec.ofChange Rows.treeSoundSpec) false w args)
      (Rows.treeSoundSpec.post enc Tryd.prog Tryd.f8 false true false false) := by
  refine returnsInHanded_of_change_and (C := Tryd.checked) (X := fun w _ => laidMet Tryd.prog laidL w) (fun _ _ _ hh h => h.of_heap hh) own started (by kernel_rfl) Tryd.func8
    (ChangeSpec.witness_at (enc := enc) (C := Tryd.checked) (os := os) (X := fun w _ => laidMet Tryd.prog laidL w) false (laidWorld os) #[.slice none 0 0, .agg #[.string .empty, .int .i64 0], .slice none 0 0] 8 rfl (by kernel_rfl) (by kernel_rfl) (by kernel_rfl) (by kernel_rfl) (by kernel_rfl) (laidWorld_met os _)) ?_
  intro W base args ds gs before hval0 hW _ _ hL _
  have hval : ∀ (j : Nat) t v, Tryd.f8.params[j]? = some t → args[j]? = some v → Value.okWide Tryd.prog W .any base t v := hval0
  have hW2 := hW
  obtain ⟨p, q, hA0, hV, rfl, _, _⟩ := hW
  have hA : DataW.TrodAll enc Tryd.prog W 0 (fun _ => true) true Tryd.f8.params.toList args.toList ds p := hA0
  rw [Tryd.params8] at hA hval
  obtain ⟨v0, v1, v2, d0, d1, d2, p0, p1, p2, rfl, rfl, rfl, h0, h1, h2⟩ := trodAll_three hA
  obtain ⟨rfl, rfl⟩ := trodVars_none hV
  obtain ⟨x, rfl, l_x, m_x, h_x⟩ := slice_of_Trod (α := LMark) Tryd.underlying50 h0 (hval 0 50 v0 rfl rfl)
  obtain ⟨m, rfl, h_m⟩ := struct_of_Trod (α := LMark) Tryd.underlying57 h1 (hval 1 57 v1 rfl rfl)
  obtain ⟨p_ts, c_ts, ts, rfl, l_ts, m_ts, h_ts⟩ := terms_of_Trod (T := 24) Tryd.underlying22 h2 (hval 2 22 v2 rfl rfl)
  refine Ret.law (treesound_c x.xs m ts x.p p_ts x.cap c_ts W (by unfold maxLen at *; omega) (by unfold maxLen at *; omega) (lib_of_laid hL).stable h_x.stable h_ts.stable) fun W1 hag => ?_
  exact ⟨_, rfl, law_post (B := 4) laidOut (by kernel_rfl) rfl rfl rfl hW2 rfl rfl rfl hag⟩
theorem treesound_row : Rows.TreeSoundSaid :=
  OpenClaim.holds_of_wide 8 Tryd.f8 rfl rfl rfl rfl rfl rfl rfl ⟨rfl, rfl, rfl, rfl, rfl⟩ rfl rfl rfl rfl rfl (by kernel_rfl) Tryd.func8 (by kernel_rfl)
    (of_decide_eq_true (by kernel_rfl)) (by unfold Func.isWrapper; rw [if_neg (of_decide_eq_false (by kernel_rfl))]; exact ⟨rfl, rfl⟩)
    (fun os started H enc _ => treesound_lifted os started H enc)
theorem treesound_holds : Rows.TreeSoundCardSaid :=
  Claim7.holds_tied_plain_at .later [] [.data, .data, .data, .sentinel, .sentinel] true (true, "ffa992c3ea0898cc87c9e270811ba28030a1923f6bb03dd9bf75b2254005cd8f") true
    treesound_row (fun _ h => by cases h) (by kernel_rfl) (fun _ h => by cases h) treeSound_row_tie rfl ⟨rfl, rfl⟩ (by kernel_rfl) rfl
    (fun f fn hf hfn => by
      obtain rfl : f = 8 := Option.some.inj ((show Tryd.prog.funcNamed "safehouse/safehouselaw14.TreeSound" = some 8 by kernel_rfl).symm.trans hf) |>.symm
      obtain rfl : fn = Tryd.f8 := (Option.some.inj (Tryd.func8.symm.trans hfn)).symm
      exact ⟨by kernel_rfl, fun j t ht => by
        rw [Tryd.params8] at ht
        have h3 : t = 22 ∨ t = 50 ∨ t = 57 := by
          rcases j with _ | _ | _ | j
          · exact .inr (.inl (by simpa using ht.symm))
          · exact .inr (.inr ((by simpa using ht.symm)))
          · exact .inl (by simpa using ht.symm)
          · simp at ht
        rcases h3 with rfl | rfl | rfl
        · exact (show Tryd.prog.wantsStandIn 22 = false by kernel_rfl)
        · exact (show Tryd.prog.wantsStandIn 50 = false by kernel_rfl)
        · exact (show Tryd.prog.wantsStandIn 57 = false by kernel_rfl)⟩)
    (by kernel_rfl)
end Go.Proofs.YtgielmldblopeaaDoor
