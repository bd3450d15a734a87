/- 6: a part of this claim's texts, joined: RowMeta. -/
import Derived.Test.YtibkkbknnfehlaaGreatDoorPb5
import Derived.Test.YtibkkbknnfehlaaGreatDoorTie
import Derived.Test.YtibkkbknnfehlaaGreatDoorCards
import Derived.SevenTiedAt
/- What metadata is that comes in; the tied cards of MetaBack and MetaApart. -/
namespace Go.Proofs.YtibkkbknnfehlaaGreatDoor
open Go Go.Wk
open Go.ChangeShapes Go.WideShapes Go.ChangeAt Go.RowKit
set_option maxRecDepth 100000
instance troPermM : Tro Tryz.prog 29 LPerm := ⟨fun enc w base spare held fuel cs x h => by
  obtain ⟨hlen, hf⟩ := trod_flds Tryz.underlying29 h
  rw [show Tryz.prog.cellsOf 29 = 5 from by kernel_rfl] at hlen
  obtain ⟨n0, y0, g0⟩ := hf 0 3 0 rfl
  obtain ⟨n1, y1, g1⟩ := hf 1 3 1 rfl
  obtain ⟨n2, y2, g2⟩ := hf 2 27 2 rfl
  obtain ⟨n3, y3, g3⟩ := hf 3 27 3 rfl
  obtain ⟨n4, y4, g4⟩ := hf 4 27 4 rfl
  obtain ⟨u0, e0, i0⟩ := trod_fld (α := Int) g0 rfl
  obtain ⟨u1, e1, i1⟩ := trod_fld (α := Int) g1 rfl
  obtain ⟨u2, e2, i2⟩ := trod_fld (α := Sl Int) g2 rfl
  obtain ⟨u3, e3, i3⟩ := trod_fld (α := Sl Int) g3 rfl
  obtain ⟨u4, e4, i4⟩ := trod_fld (α := Sl Int) g4 rfl
  refine ⟨⟨u0, u1, u2, u3, u4⟩, ?_, i2, i3, i4⟩
  match cs, hlen with
  | [c0, c1, c2, c3, c4], _ =>
    have q0 : [c0] = [.int .i64 u0] := e0
    have q1 : [c1] = [.int .i64 u1] := e1
    have q2 : [c2] = [u2.v] := e2
    have q3 : [c3] = [u3.v] := e3
    have q4 : [c4] = [u4.v] := e4
    simp only [List.cons.injEq, and_true] at q0 q1 q2 q3 q4
    rw [q0, q1, q2, q3, q4]; rfl, by kernel_rfl⟩
instance troIntss : Tro Tryz.prog 30 (Sl (Sl Int)) := troSl Tryz.underlying30 (by kernel_rfl)
instance troMeta : Tro Tryz.prog 32 LMeta := ⟨fun enc w base spare held fuel cs x h => by
  obtain ⟨hlen, hf⟩ := trod_flds Tryz.underlying32 h
  rw [show Tryz.prog.cellsOf 32 = 13 from by kernel_rfl] at hlen
  obtain ⟨n0, y0, g0⟩ := hf 0 9 0 rfl
  obtain ⟨n1, y1, g1⟩ := hf 1 3 1 rfl
  obtain ⟨n2, y2, g2⟩ := hf 2 29 2 rfl
  obtain ⟨n3, y3, g3⟩ := hf 3 30 7 rfl
  obtain ⟨n4, y4, g4⟩ := hf 4 24 8 rfl
  have hS : Tro Tryz.prog 9 (List UInt8) := troS Tryz.underlying9 (by kernel_rfl)
  obtain ⟨u0, e0, i0⟩ := trod_fld (α := List UInt8) g0 rfl
  obtain ⟨u1, e1, i1⟩ := trod_fld (α := Int) g1 rfl
  obtain ⟨u2, e2, i2⟩ := trod_fld (α := LPerm) g2 rfl
  obtain ⟨u3, e3, i3⟩ := trod_fld (α := Sl (Sl Int)) g3 rfl
  obtain ⟨t, e4, i4⟩ := trod_fld (α := LTerm) g4 rfl
  refine ⟨⟨u0, u1, u2, u3, t⟩, ?_, i2, i3, i4⟩
  match cs, hlen with
  | [c0, c1, p0, p1, p2, p3, p4, c7, d1, d2, d3, d4, d5], _ =>
    have q0 : [c0] = [str u0] := e0
    have q1 : [c1] = [.int .i64 u1] := e1
    have q2 : [p0, p1, p2, p3, p4] = cPerm u2 := e2
    have q3 : [c7] = [u3.v] := e3
    have q4 : [d1, d2, d3, d4, d5] = t.cells := e4
    simp only [List.cons.injEq, and_true] at q0 q1 q3
    show [c0, c1] ++ ([p0, p1, p2, p3, p4] ++ ([c7] ++ [d1, d2, d3, d4, d5])) = [str u0, .int .i64 u1] ++ (cPerm u2 ++ ([u3.v] ++ t.cells))
    rw [q0, q1, q2, q3, q4], by kernel_rfl⟩
theorem metaback_lifted (os : Os) (started : os.Started) (H : Type) (enc : TypeId × Value → H) :
    ReturnsInHanded {} Tryz.checked os 4 .any (fun w args => (Rows.metaBackSpec.pre enc Tryz.prog Tryz.f4 Rows.metaBackRow.domain false w args ∧ laidMet Tryz.prog laidL w) ∧ sizedMet enc Tryz.prog Tryz.f4 (OpenSpec.ofChange Rows.metaBackSpec) false w args)
      (Rows.metaBackSpec.post enc Tryz.prog Tryz.f4 false true false false) := by
  refine returnsInHanded_of_change_and (C := Tryz.checked) (X := fun w _ => laidMet Tryz.prog laidL w) (fun _ _ _ hh h => h.of_heap hh) own started (by kernel_rfl) Tryz.func4
    (ChangeSpec.witness_at (enc := enc) (C := Tryz.checked) (os := os) (X := fun w _ => laidMet Tryz.prog laidL w) false (laidWorld os) #[.agg #[.string .empty, .int .i64 0, .int .i64 0, .int .i64 0, .slice none 0 0, .slice none 0 0, .slice none 0 0, .slice none 0 0, .int .i64 0, .int .i64 0, .int .i64 0, .string .empty, .slice none 0 0], .int .i64 0, .int .i64 0] 8 rfl (by kernel_rfl) (by kernel_rfl) (by kernel_rfl) (by kernel_rfl) (by kernel_rfl) (laidWorld_met os _)) ?_
  intro W base args ds gs before hval0 hW _ _ hL _
  have hval : ∀ (j : Nat) t v, Tryz.f4.params[j]? = some t → args[j]? = some v → Value.okWide Tryz.prog W .any base t v := hval0
  have hW2 := hW
  obtain ⟨p, q, hA0, hV, rfl, _, _⟩ := hW
  have hA : DataW.TrodAll enc Tryz.prog W 0 (fun _ => true) true Tryz.f4.params.toList args.toList ds p := hA0
  rw [Tryz.params4] at hA hval
  obtain ⟨v0, v1, v2, d0, d1, d2, p0, p1, p2, rfl, rfl, rfl, h0, h1, h2⟩ := trodAll_three hA
  obtain ⟨rfl, rfl⟩ := trodVars_none hV
  obtain ⟨m, rfl, h_m⟩ := struct_of_Trod (α := LMeta) Tryz.underlying32 h0 (hval 0 32 v0 rfl rfl)
  obtain ⟨leaf, rfl, rfl, rfl, wleaf⟩ := open_int Tryz.underlying3 (hval 1 3 v1 rfl rfl) h1
  obtain ⟨user, rfl, rfl, rfl, wuser⟩ := open_int Tryz.underlying3 (hval 2 3 v2 rfl rfl) h2
  refine Ret.law (metaback_c m leaf user W (lib_of_laid hL).stable (InF.stable (x := m) h_m)) fun W1 hag => ?_
  exact ⟨_, rfl, law_post (B := 4) laidOut (by kernel_rfl) rfl rfl rfl hW2 rfl rfl rfl hag⟩
theorem metaback_row : Rows.MetaBackSaid :=
  OpenClaim.holds_of_wide 4 Tryz.f4 rfl rfl rfl rfl rfl rfl rfl ⟨rfl, rfl, rfl, rfl, rfl⟩ rfl rfl rfl rfl rfl (by kernel_rfl) Tryz.func4 (by kernel_rfl)
    (of_decide_eq_true (by kernel_rfl)) (by unfold Func.isWrapper; rw [if_neg (of_decide_eq_false (by kernel_rfl))]; exact ⟨rfl, rfl⟩)
    (fun os started H enc _ => metaback_lifted os started H enc)
theorem metaback_holds : Rows.MetaBackCardSaid :=
  Claim7.holds_tied_plain_at .later [] [.data, .data, .data, .sentinel, .sentinel] true (true, "a06358edc989b30b0b9e0ebc9a9a02e446f7fc0d6c35c56ce5cc4e6985a4c4aa") true
    metaback_row (fun _ h => by cases h) (by kernel_rfl) (fun _ h => by cases h) metaBack_row_tie rfl ⟨rfl, rfl⟩ (by kernel_rfl) rfl
    (fun f fn hf hfn => by
      obtain rfl : f = 4 := Option.some.inj ((show Tryz.prog.funcNamed "safehouse/safehouselaw15.MetaBack" = some 4 by kernel_rfl).symm.trans hf) |>.symm
      obtain rfl : fn = Tryz.f4 := (Option.some.inj (Tryz.func4.symm.trans hfn)).symm
      exact ⟨by kernel_rfl, fun j t ht => by
        rw [Tryz.params4] at ht
        have h3 : t = 3 ∨ t = 32 := by
          rcases j with _ | _ | _ | j
          · exact .inr ((by simpa using ht.symm))
          · exact .inl (by simpa using ht.symm)
          · exact .inl (by simpa using ht.symm)
          · simp at ht
        rcases h3 with rfl | rfl
        · exact (show Tryz.prog.wantsStandIn 3 = false by kernel_rfl)
        · exact (show Tryz.prog.wantsStandIn 32 = false by kernel_rfl)⟩)
    (by kernel_rfl)
theorem metaapart_lifted (os : Os) (started : os.Started) (H : Type) (enc : TypeId × Value → H) :
    ReturnsInHanded {} Tryz.checked os 5 .any (fun w args => (Rows.metaApartSpec.pre enc Tryz.prog Tryz.f5 Rows.metaApartRow.domain false w args ∧ laidMet Tryz.prog laidL w) ∧ sizedMet enc Tryz.prog Tryz.f5 (OpenSpec.ofChange Rows.metaApartSpec) false w args)
      (Rows.metaApartSpec.post enc Tryz.prog Tryz.f5 false true false false) := by
  refine returnsInHanded_of_change_and (C := Tryz.checked) (X := fun w _ => laidMet Tryz.prog laidL w) (fun _ _ _ hh h => h.of_heap hh) own started (by kernel_rfl) Tryz.func5
    (ChangeSpec.witness_at (enc := enc) (C := Tryz.checked) (os := os) (X := fun w _ => laidMet Tryz.prog laidL w) false (laidWorld os) #[.agg #[.string .empty, .int .i64 0, .int .i64 0, .int .i64 0, .slice none 0 0, .slice none 0 0, .slice none 0 0, .slice none 0 0, .int .i64 0, .int .i64 0, .int .i64 0, .string .empty, .slice none 0 0], .agg #[.string .empty, .int .i64 0, .int .i64 0, .int .i64 0, .slice none 0 0, .slice none 0 0, .slice none 0 0, .slice none 0 0, .int .i64 0, .int .i64 0, .int .i64 0, .string .empty, .slice none 0 0], .int .i64 0] 8 rfl (by kernel_rfl) (by kernel_rfl) (by kernel_rfl) (by kernel_rfl) (by kernel_rfl) (laidWorld_met os _)) ?_
  intro W base args ds gs before hval0 hW _ _ hL _
  have hval : ∀ (j : Nat) t v, Tryz.f5.params[j]? = some t → args[j]? = some v → Value.okWide Tryz.prog W .any base t v := hval0
  have hW2 := hW
  obtain ⟨p, q, hA0, hV, rfl, _, _⟩ := hW
  have hA : DataW.TrodAll enc Tryz.prog W 0 (fun _ => true) true Tryz.f5.params.toList args.toList ds p := hA0
  rw [Tryz.params5] at hA hval
  obtain ⟨v0, v1, v2, d0, d1, d2, p0, p1, p2, rfl, rfl, rfl, h0, h1, h2⟩ := trodAll_three hA
  obtain ⟨rfl, rfl⟩ := trodVars_none hV
  obtain ⟨a, rfl, h_a⟩ := struct_of_Trod (α := LMeta) Tryz.underlying32 h0 (hval 0 32 v0 rfl rfl)
  obtain ⟨b, rfl, h_b⟩ := struct_of_Trod (α := LMeta) Tryz.underlying32 h1 (hval 1 32 v1 rfl rfl)
  obtain ⟨leaf, rfl, rfl, rfl, wleaf⟩ := open_int Tryz.underlying3 (hval 2 3 v2 rfl rfl) h2
  refine Ret.law (metaapart_c a b leaf W (lib_of_laid hL).stable (InF.stable (x := a) h_a) (InF.stable (x := b) h_b)) fun W1 hag => ?_
  exact ⟨_, rfl, law_post (B := 4) laidOut (by kernel_rfl) rfl rfl rfl hW2 rfl rfl rfl hag⟩
theorem metaapart_row : Rows.MetaApartSaid :=
  OpenClaim.holds_of_wide 5 Tryz.f5 rfl rfl rfl rfl rfl rfl rfl ⟨rfl, rfl, rfl, rfl, rfl⟩ rfl rfl rfl rfl rfl (by kernel_rfl) Tryz.func5 (by kernel_rfl)
    (of_decide_eq_true (by kernel_rfl)) (by unfold Func.isWrapper; rw [if_neg (of_decide_eq_false (by kernel_rfl))]; exact ⟨rfl, rfl⟩)
    (fun os started H enc _ => metaapart_lifted os started H enc)
theorem metaapart_holds : Rows.MetaApartCardSaid :=
  Claim7.holds_tied_plain_at .later [] [.data, .data, .data, .sentinel, .sentinel] true (true, "a06358edc989b30b0b9e0ebc9a9a02e446f7fc0d6c35c56ce5cc4e6985a4c4aa") true
    metaapart_row (fun _ h => by cases h) (by kernel_rfl) (fun _ h => by cases h) metaApart_row_tie rfl ⟨rfl, rfl⟩ (by kernel_rfl) rfl
    (fun f fn hf hfn => by
      obtain rfl : f = 5 := Option.some.inj ((show Tryz.prog.funcNamed "safehouse/safehouselaw15.MetaApart" = some 5 by kernel_rfl).symm.trans hf) |>.symm
      obtain rfl : fn = Tryz.f5 := (Option.some.inj (Tryz.func5.symm.trans hfn)).symm
      exact ⟨by kernel_rfl, fun j t ht => by
        rw [Tryz.params5] at ht
        have h3 : t = 3 ∨ t = 32 := by
          rcases j with _ | _ | _ | j
          · exact .inr ((by simpa using ht.symm))
          · exact .inr ((by simpa using ht.symm))
          · exact .inl (by simpa using ht.symm)
          · simp at ht
        rcases h3 with rfl | rfl
        · exact (show Tryz.prog.wantsStandIn 3 = false by kernel_rfl)
        · exact (show Tryz.prog.wantsStandIn 32 = false by kernel_rfl)⟩)
    (by kernel_rfl)
end Go.Proofs.YtibkkbknnfehlaaGreatDoor