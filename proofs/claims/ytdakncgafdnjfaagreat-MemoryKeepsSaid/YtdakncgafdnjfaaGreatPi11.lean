/- 11: a part of this claim's texts, joined: RowMemC. -/
import Derived.Test.YtdakncgafdnjfaaGreatPi10
/- MemoryKeeps answers true at every input and leaves it as it was. No condition. -/
namespace Go.Proofs.YtdakncgafdnjfaaGreat
open Go Go.Wk
open Go.ChangeShapes Go.WideShapes Go.ChangeAt Go.RowKit
set_option maxRecDepth 100000
instance troIntK : TroZ Tryz.prog 3 Int (fun _ => True) := troZ_of (troI Tryz.underlying3 (by kernel_rfl))
instance troBoolK : TroZ Tryz.prog 4 Bool (fun _ => True) := troZ_of (troBo Tryz.underlying4 (by kernel_rfl))
instance troBoolsK : TroZ Tryz.prog 58 (Sl Bool) (ZSl Tryz.prog 4 (fun _ => True)) := troZ_Sl Tryz.underlying58 (by kernel_rfl)
instance troMemK : TroZ Tryz.prog 67 LMem (fun _ => True) := troZ_of troMem
instance troKop : TroZ Tryz.prog 90 LKop (fun x => x.keep.length ≤ 140737488355328) := ⟨fun enc w base spare held fuel cs x h => by
  obtain ⟨hlen, hf⟩ := trodZ_flds Tryz.underlying90 h
  rw [show Tryz.prog.cellsOf 90 = 10 from by kernel_rfl] at hlen
  obtain ⟨n0, y0, g0, k0⟩ := hf 0 3 0 rfl
  obtain ⟨n1, y1, g1, k1⟩ := hf 1 3 1 rfl
  obtain ⟨n2, y2, g2, k2⟩ := hf 2 67 2 rfl
  obtain ⟨n3, y3, g3, k3⟩ := hf 3 58 9 rfl
  obtain ⟨u0, e0, i0, -⟩ := trodZ_fld (α := Int) g0 rfl
  obtain ⟨u1, e1, i1, -⟩ := trodZ_fld (α := Int) g1 rfl
  obtain ⟨u2, e2, i2, -⟩ := trodZ_fld (α := LMem) g2 rfl
  obtain ⟨u3, e3, i3, z3⟩ := trodZ_fld (α := Sl Bool) g3 rfl
  refine ⟨⟨u0, u1, u2, u3.p, u3.cap, u3.xs⟩, ?_, ⟨i2, i3⟩, fun hw => ?_⟩
  · match cs, hlen with
    | [c0, c1, c2, c3, c4, c5, c6, c7, c8, c9], _ =>
      have q0 : [c0] = [.int .i64 u0] := e0
      have q1 : [c1] = [.int .i64 u1] := e1
      have q2 : [c2, c3, c4, c5, c6, c7, c8] = [.int .i64 u2.user, .int .i64 u2.leaf, .int .i64 u2.counter, .int .i64 u2.num, .slice u2.sp u2.seeds.length u2.sc, .slice u2.vp u2.vers.length u2.vc, .slice u2.ep u2.seen.length u2.ec] := e2
      have q3 : [c9] = [u3.v] := e3
      simp only [List.cons.injEq, and_true] at q0 q1 q2 q3
      obtain ⟨r0, r1, r2, r3, r4, r5, r6⟩ := q2
      rw [q0, q1, r0, r1, r2, r3, r4, r5, r6, q3]; rfl
  · have h1 := (z3 fun n hn => hw n (k3 n hn)).1
    rw [show Tryz.prog.bytesOf 4 = 1 from by kernel_rfl, Nat.mul_one] at h1
    have := reachBytes_lt
    show u3.xs.length ≤ _
    omega, by kernel_rfl⟩
instance troKops : TroZ Tryz.prog 81 (Sl LKop) (ZSl Tryz.prog 90 (fun x => x.keep.length ≤ 140737488355328)) := troZ_Sl Tryz.underlying81 (by kernel_rfl)
theorem memkeeps_lifted (os : Os) (started : os.Started) (H : Type) (enc : TypeId × Value → H) :
    ReturnsInHanded {} Tryz.checked os 10 .any (Rows.memoryKeepsSpec.pre6 enc Tryz.prog Tryz.f10 Rows.memoryKeepsRow.domain false) (Rows.memoryKeepsSpec.post enc Tryz.prog Tryz.f10 false true false false) := by
  refine returnsInHanded_of_change_sized (C := Tryz.checked) own started (by kernel_rfl) Tryz.func10
    (ChangeSpec.witness6 (enc := enc) (C := Tryz.checked) false ⟨#[], #[.int .i64 0, .slice none 0 0], []⟩ 8 (by kernel_rfl) (by kernel_rfl) (by kernel_rfl) (by kernel_rfl)) ?_
  intro W base args ds gs before hval0 hW _ hz _
  have hval : ∀ (j : Nat) t v, Tryz.f10.params[j]? = some t → args[j]? = some v → Value.okWide Tryz.prog W .any base t v := hval0
  have hW2 := hW
  obtain ⟨p, q, hA0, hV, rfl, _, _⟩ := hW
  have hA : DataW.TrodAll enc Tryz.prog W 0 (fun _ => true) true Tryz.f10.params.toList args.toList ds p := hA0
  rw [Tryz.params10] at hA hval
  obtain ⟨v0, v1, d0, d1, p0, p1, rfl, rfl, rfl, h0, h1⟩ := trodAll_two hA
  obtain ⟨rfl, rfl⟩ := trodVars_none hV
  obtain ⟨n, rfl, rfl, rfl, wn⟩ := open_int Tryz.underlying3 (hval 0 3 v0 rfl rfl) h0
  obtain ⟨x, rfl, l_x, m_x, h_x, z0_x⟩ := slice_of_TrodZ (α := LKop) Tryz.underlying81 h1 (hval 1 81 v1 rfl rfl)
  have z_x := z0_x (fun n hn => of_decide_eq_true (List.all_eq_true.1 hz n (DataW.weights_mem_each (j := 1) rfl rfl n hn)))
  refine Ret.law (memkeeps_c n x.p x.cap x.xs (by omega) z_x.2 W h_x.stable) fun W1 hag => ?_
  exact ⟨_, rfl, law_post (B := 4) laidOut (by kernel_rfl) rfl rfl rfl hW2 rfl rfl rfl hag⟩
theorem memkeeps_fi : (Rows.memoryKeepsRow.inPlace == Tryz.pinned.checked.prog.inPlace 10) = true := by kernel_rfl
theorem memkeeps_fu : (Rows.memoryKeepsRow.unfollowed == Tryz.pinned.checked.prog.unfollowed 10) = true := by kernel_rfl
theorem memkeeps_fr : (Rows.memoryKeepsRow.recurses == Tryz.pinned.checked.prog.recurses 10) = true := by kernel_rfl
theorem memkeeps_fn : (Rows.memoryKeepsRow.named == Tryz.pinned.checked.prog.varsNamed 10) = true := by kernel_rfl
theorem memkeeps_closed : joinedFacts Tryz.pinned.checked.prog 10 Tryz.f10 Rows.memoryKeepsSpec Rows.memoryKeepsRow = true := by
  unfold joinedFacts
  rw [memkeeps_fi, memkeeps_fu, memkeeps_fr, memkeeps_fn]
  kernel_rfl
theorem memkeeps_holds : Rows.MemoryKeepsSaid :=
  OpenClaim.holds_of_wide 10 Tryz.f10 rfl rfl rfl rfl rfl rfl rfl ⟨rfl, rfl, rfl, rfl, rfl⟩ rfl rfl rfl rfl rfl (by kernel_rfl) Tryz.func10 memkeeps_closed
    (of_decide_eq_true (by kernel_rfl)) (by unfold Func.isWrapper; rw [if_neg (of_decide_eq_false (by kernel_rfl))]; exact ⟨rfl, rfl⟩)
    (fun os started H enc _ => memkeeps_lifted os started H enc)
end Go.Proofs.YtdakncgafdnjfaaGreat