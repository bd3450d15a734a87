/- 10: a part of this claim's texts, joined: RowMemA. -/
import Derived.Test.YtdakncgafdnjfaaGreatPg9
/- What inputs of layer 20 are; MemoryCovers answers true at every input and leaves it as it was. No condition. -/
namespace Go.Proofs.YtdakncgafdnjfaaGreat
open Go Go.Wk
open Go.ChangeShapes Go.WideShapes Go.ChangeAt Go.RowKit
set_option maxRecDepth 100000
instance troStrM : Tro Tryz.prog 9 (List UInt8) := troS Tryz.underlying9 (by kernel_rfl)
instance troMarkM : Tro Tryz.prog 177 LMark := ⟨fun enc w base spare held fuel cs x h => by
  obtain ⟨hlen, hf⟩ := trod_flds Tryz.underlying177 h
  rw [show Tryz.prog.cellsOf 177 = 2 from by kernel_rfl] at hlen
  obtain ⟨n0, y0, g0⟩ := hf 0 9 0 rfl
  obtain ⟨n1, y1, g1⟩ := hf 1 3 1 rfl
  obtain ⟨u0, e0, i0⟩ := trod_fld (α := List UInt8) g0 rfl
  obtain ⟨u1, e1, i1⟩ := trod_fld (α := Int) g1 rfl
  refine ⟨⟨u0, u1⟩, ?_, trivial⟩
  match cs, hlen with
  | [c0, c1], _ =>
    have q0 : [c0] = [str u0] := e0
    have q1 : [c1] = [.int .i64 u1] := e1
    simp only [List.cons.injEq, and_true] at q0 q1
    rw [q0, q1]; rfl, by kernel_rfl⟩
instance troSeedM : Tro Tryz.prog 175 LMark := ⟨fun enc w base spare held fuel cs x h => by
  obtain ⟨hlen, hf⟩ := trod_flds Tryz.underlying175 h
  rw [show Tryz.prog.cellsOf 175 = 2 from by kernel_rfl] at hlen
  obtain ⟨n0, y0, g0⟩ := hf 0 9 0 rfl
  obtain ⟨n1, y1, g1⟩ := hf 1 3 1 rfl
  obtain ⟨u0, e0, i0⟩ := trod_fld (α := List UInt8) g0 rfl
  obtain ⟨u1, e1, i1⟩ := trod_fld (α := Int) g1 rfl
  refine ⟨⟨u0, u1⟩, ?_, trivial⟩
  match cs, hlen with
  | [c0, c1], _ =>
    have q0 : [c0] = [str u0] := e0
    have q1 : [c1] = [.int .i64 u1] := e1
    simp only [List.cons.injEq, and_true] at q0 q1
    rw [q0, q1]; rfl, by kernel_rfl⟩
instance troSeenM : Tro Tryz.prog 179 LSeen := ⟨fun enc w base spare held fuel cs x h => by
  obtain ⟨hlen, hf⟩ := trod_flds Tryz.underlying179 h
  rw [show Tryz.prog.cellsOf 179 = 7 from by kernel_rfl] at hlen
  obtain ⟨n0, y0, g0⟩ := hf 0 3 0 rfl
  obtain ⟨n1, y1, g1⟩ := hf 1 3 1 rfl
  obtain ⟨n2, y2, g2⟩ := hf 2 43 2 rfl
  obtain ⟨u, e0, i0⟩ := trod_fld (α := Int) g0 rfl
  obtain ⟨k, e1, i1⟩ := trod_fld (α := Int) g1 rfl
  obtain ⟨t, e2, i2⟩ := trod_fld (α := LTerm) g2 rfl
  refine ⟨⟨u, k, t⟩, ?_, i2⟩
  match cs, hlen with
  | [c0, c1, d1, d2, d3, d4, d5], _ =>
    have q0 : [c0] = [.int .i64 u] := e0
    have q1 : [c1] = [.int .i64 k] := e1
    have q2 : [d1, d2, d3, d4, d5] = t.cells := e2
    simp only [List.cons.injEq, and_true] at q0 q1
    show [c0] ++ [c1] ++ [d1, d2, d3, d4, d5] = [.int .i64 u] ++ [.int .i64 k] ++ t.cells
    rw [q0, q1, q2], by kernel_rfl⟩
instance troMarksM : Tro Tryz.prog 64 (Sl LMark) := troSl Tryz.underlying64 (by kernel_rfl)
instance troSeedsM : Tro Tryz.prog 63 (Sl LMark) := troSl Tryz.underlying63 (by kernel_rfl)
instance troSeensM : Tro Tryz.prog 65 (Sl LSeen) := troSl Tryz.underlying65 (by kernel_rfl)
instance troMem : Tro Tryz.prog 67 LMem := ⟨fun enc w base spare held fuel cs x h => by
  obtain ⟨hlen, hf⟩ := trod_flds Tryz.underlying67 h
  rw [show Tryz.prog.cellsOf 67 = 7 from by kernel_rfl] at hlen
  obtain ⟨n0, y0, g0⟩ := hf 0 3 0 rfl
  obtain ⟨n1, y1, g1⟩ := hf 1 3 1 rfl
  obtain ⟨n2, y2, g2⟩ := hf 2 3 2 rfl
  obtain ⟨n3, y3, g3⟩ := hf 3 3 3 rfl
  obtain ⟨n4, y4, g4⟩ := hf 4 63 4 rfl
  obtain ⟨n5, y5, g5⟩ := hf 5 64 5 rfl
  obtain ⟨n6, y6, g6⟩ := hf 6 65 6 rfl
  obtain ⟨u0, e0, i0⟩ := trod_fld (α := Int) g0 rfl
  obtain ⟨u1, e1, i1⟩ := trod_fld (α := Int) g1 rfl
  obtain ⟨u2, e2, i2⟩ := trod_fld (α := Int) g2 rfl
  obtain ⟨u3, e3, i3⟩ := trod_fld (α := Int) g3 rfl
  obtain ⟨u4, e4, i4⟩ := trod_fld (α := Sl LMark) g4 rfl
  obtain ⟨u5, e5, i5⟩ := trod_fld (α := Sl LMark) g5 rfl
  obtain ⟨u6, e6, i6⟩ := trod_fld (α := Sl LSeen) g6 rfl
  refine ⟨⟨u0, u1, u2, u3, u4.p, u4.cap, u4.xs, u5.p, u5.cap, u5.xs, u6.p, u6.cap, u6.xs⟩, ?_, i4, i5, i6⟩
  match cs, hlen with
  | [c0, c1, c2, c3, c4, c5, c6], _ =>
    have q0 : [c0] = [.int .i64 u0] := e0
    have q1 : [c1] = [.int .i64 u1] := e1
    have q2 : [c2] = [.int .i64 u2] := e2
    have q3 : [c3] = [.int .i64 u3] := e3
    have q4 : [c4] = [u4.v] := e4
    have q5 : [c5] = [u5.v] := e5
    have q6 : [c6] = [u6.v] := e6
    simp only [List.cons.injEq, and_true] at q0 q1 q2 q3 q4 q5 q6
    rw [q0, q1, q2, q3, q4, q5, q6]; rfl, by kernel_rfl⟩
theorem memcovers_lifted (os : Os) (started : os.Started) (H : Type) (enc : TypeId × Value → H) :
    ReturnsInHanded {} Tryz.checked os 8 .any (Rows.memoryCoversSpec.pre6 enc Tryz.prog Tryz.f8 Rows.memoryCoversRow.domain false) (Rows.memoryCoversSpec.post enc Tryz.prog Tryz.f8 false true false false) := by
  refine returnsInHanded_of_change (C := Tryz.checked) own started (by kernel_rfl) Tryz.func8
    (ChangeSpec.witness6 (enc := enc) (C := Tryz.checked) false ⟨#[], #[.agg #[.int .i64 0, .int .i64 0, .int .i64 0, .int .i64 0, .slice none 0 0, .slice none 0 0, .slice none 0 0], .agg #[.int .i64 0, .int .i64 0, .int .i64 0, .int .i64 0, .slice none 0 0, .slice none 0 0, .slice none 0 0], .agg #[.int .i64 0, .int .i64 0, .int .i64 0, .int .i64 0, .slice none 0 0, .slice none 0 0, .slice none 0 0]], []⟩ 8 (by kernel_rfl) (by kernel_rfl) (by kernel_rfl) (by kernel_rfl)) ?_
  intro W base args ds gs before hval0 hW _ _
  have hval : ∀ (j : Nat) t v, Tryz.f8.params[j]? = some t → args[j]? = some v → Value.okWide Tryz.prog W .any base t v := hval0
  have hW2 := hW
  obtain ⟨p, q, hA0, hV, rfl, _, _⟩ := hW
  have hA : DataW.TrodAll enc Tryz.prog W 0 (fun _ => true) true Tryz.f8.params.toList args.toList ds p := hA0
  rw [Tryz.params8] at hA hval
  obtain ⟨v0, v1, v2, d0, d1, d2, p0, p1, p2, rfl, rfl, rfl, h0, h1, h2⟩ := trodAll_three hA
  obtain ⟨rfl, rfl⟩ := trodVars_none hV
  obtain ⟨x, rfl, h_x⟩ := struct_of_Trod (α := LMem) Tryz.underlying67 h0 (hval 0 67 v0 rfl rfl)
  obtain ⟨y, rfl, h_y⟩ := struct_of_Trod (α := LMem) Tryz.underlying67 h1 (hval 1 67 v1 rfl rfl)
  obtain ⟨z, rfl, h_z⟩ := struct_of_Trod (α := LMem) Tryz.underlying67 h2 (hval 2 67 v2 rfl rfl)
  refine Ret.law (memcovers_c x y z W h_x h_y h_z) fun W1 hag => ?_
  exact ⟨_, rfl, law_post (B := 4) laidOut (by kernel_rfl) rfl rfl rfl hW2 rfl rfl rfl hag⟩
theorem memcovers_fi : (Rows.memoryCoversRow.inPlace == Tryz.pinned.checked.prog.inPlace 8) = true := by kernel_rfl
theorem memcovers_fu : (Rows.memoryCoversRow.unfollowed == Tryz.pinned.checked.prog.unfollowed 8) = true := by kernel_rfl
theorem memcovers_fr : (Rows.memoryCoversRow.recurses == Tryz.pinned.checked.prog.recurses 8) = true := by kernel_rfl
theorem memcovers_fn : (Rows.memoryCoversRow.named == Tryz.pinned.checked.prog.varsNamed 8) = true := by kernel_rfl
theorem memcovers_closed : joinedFacts Tryz.pinned.checked.prog 8 Tryz.f8 Rows.memoryCoversSpec Rows.memoryCoversRow = true := by
  unfold joinedFacts
  rw [memcovers_fi, memcovers_fu, memcovers_fr, memcovers_fn]
  kernel_rfl
theorem memcovers_holds : Rows.MemoryCoversSaid :=
  OpenClaim.holds_of_wide 8 Tryz.f8 rfl rfl rfl rfl rfl rfl rfl ⟨rfl, rfl, rfl, rfl, rfl⟩ rfl rfl rfl rfl rfl (by kernel_rfl) Tryz.func8 memcovers_closed
    (of_decide_eq_true (by kernel_rfl)) (by unfold Func.isWrapper; rw [if_neg (of_decide_eq_false (by kernel_rfl))]; exact ⟨rfl, rfl⟩)
    (fun os started H enc _ => memcovers_lifted os started H enc)
end Go.Proofs.YtdakncgafdnjfaaGreat