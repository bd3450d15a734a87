/- The package of the laws of layer 7: does the layer do anything? -/
import Derived.Test.YtajmjbboahmdkaaLaw07A
import Derived.Test.YtajmjbboahmdkaaPlainSafe
import Derived.Test.YtajmjbboahmdkaaSortC
namespace Go.Proofs.Ytajmjbboahmdkaa
open Go Go.Wk
set_option synthInstance.maxSize 100000
set_option synthInstance.maxHeartbeats 400000
set_option maxRecDepth 100000

abbrev lockL (p : Option Addr) (a b : LTerm) : LTerm := .mk 6 0 0 [] p 2 [a, b]
theorem lock_c (x y : LTerm) (M : Nat → Prop) (w0 : World) (hM : ∀ k, M k → k < w0.heap.size) (hx : Stable M w0 (LtF x)) (hy : Stable M w0 (LtF y)) : Ret Try.prog 36 [vL x, vL y] w0 (fun _ => False) fun v w' => IsT M w' v (.mk 6 0 0 [] [x.t, y.t]) := by
  refine enter Try.func36 rfl rfl (Wd.beginM (M := M) (fs := [LtF x, LtF y]) hM (by simp; exact ⟨hx, hy⟩)) (fun a S => ?_)
  simp only [Try.ntmps36, List.length_cons, List.length_nil, Nat.reduceAdd, Nat.reduceSub, List.replicate_succ, List.replicate_zero, List.cons_append, List.nil_append] at S
  refine c_seq ?_
  refine c_region ?_
  refine sa S ?_; clear S; intro b2 a w S
  refine sa S ?_; clear S; intro b3 a w S
  refine sa S ?_; clear S; intro b4 a w S
  refine wl_nil ?_
  refine xtn ?_
  refine c_seq ?_
  refine c_region ?_
  iterate 2 (refine sq S ?_; clear S; intro a S)
  refine sn S ?_; clear S; intro b7 a w S
  refine sc S ?_; clear S; intro a w S
  refine sw S ?_; clear S; intro a w S
  refine wl_nil ?_
  refine xtn ?_
  refine c_ret ?_
  refine end1 S (fun _ => ?_)
  refine ⟨lockL (some ⟨b7, 0, none⟩) x y, rfl, rfl, fun w' hw' => ?_⟩
  have h1 := S.laterFact (Φ := LtF x) (by simp) w' hw'
  have h2 := S.laterFact (Φ := LtF y) (by simp) w' hw'
  exact ⟨by simp, by simp [maxLen], LsIn.of_block [x, y] (S.laterBox hw' b7) (by simpa using ⟨h1, h2⟩)⟩
theorem ls_box {w : World} {b : Nat} {ts : List LTerm} (hb : w.heap[b]? = some (.cells (ts.flatMap LTerm.cells).toArray 37 (0, 0))) (h : ∀ t ∈ ts, Stable (fun _ => False) w (LtF t)) : Stable (fun _ => False) w (LsF (some ⟨b, 0, none⟩) 0 ts) := fun w' hw' =>
  LsIn.of_block ts (by rw [hw'.blk (Array.getElem?_eq_some_iff.1 hb).1 (fun h => h)]; exact hb) (fun x hx => h x hx w' hw')
theorem wakes7_c (w0 : World) : Ret Try.prog 30 [] w0 (fun _ => False) fun v _ => v = .bool true := by
  refine enter Try.func30 rfl rfl (Wd.start w0) (fun a S => ?_)
  simp only [Try.ntmps30, List.length_cons, List.length_nil, Nat.reduceAdd, Nat.reduceSub, List.replicate_succ, List.replicate_zero, List.cons_append, List.nil_append] at S
  refine c_seq ?_
  refine c_region ?_
  refine sq S ?_; clear S; intro a S
  refine wl_nil ?_
  refine xtn ?_
  refine c_seq ?_
  refine c_region ?_
  iterate 2 (refine sc S ?_; clear S; intro a w S)
  refine sa S ?_; clear S; intro b1 a w S
  refine sa S ?_; clear S; intro b2 a w S
  iterate 2 (refine sw S ?_; clear S; intro a w S)
  refine wl_nil ?_
  refine xtn ?_
  refine c_seq ?_
  refine c_drawD [(0, true), (1, true), (4, true), (2, false), (3, false), (5, false), (6, true), (7, true), (8, true), (9, true), (10, true)] [] S ?_; clear S; intro w S
  iterate 3 (refine dq S ?_; clear S; intro a S)
  refine dl ?_
  refine sr S (lock_c (freshL 1 1) (freshL 1 2) _ w (foots_lt S) (S.t _) (S.t _)) ?_; clear S; rintro _ a w ⟨r1, rfl, hr1, hf1⟩ S
  replace S := S.add hf1
  refine de S ?_
  refine dl ?_
  refine sn S ?_; clear S; intro b15 a w S
  refine de S ?_
  refine dl ?_
  have hls := ls_box (ts := [r1]) (S.box b15) (fun x hx => by obtain rfl := List.mem_singleton.1 hx; exact S.mem.t0 x)
  refine sr S (can_cl [r1] (freshL 1 2) (some ⟨b15, 0, none⟩) 1 w hls (S.mem.t0 _)) ?_; clear S hls; rintro _ a w rfl S
  rw [show List.map LTerm.t [r1] = [exL] from by rw [List.map_singleton, hr1]; rfl, show (freshL 1 2).t = exN from rfl, ex_a.1, ex_a.2] at S
  refine de S ?_
  iterate 5 (refine dq S ?_; clear S; intro a S)
  refine dn ?_
  refine xtn ?_
  refine c_seq ?_
  refine c_drawD [(0, true), (1, true), (3, true), (5, true), (2, false), (4, false), (6, false), (7, true), (8, true), (9, true), (10, true), (11, true)] [] S ?_; clear S; intro w S
  iterate 4 (refine dq S ?_; clear S; intro a S)
  refine dl ?_
  refine sr S (lock_c (freshL 1 1) (freshL 1 2) _ w (foots_lt S) (S.t _) (S.t _)) ?_; clear S; rintro _ a w ⟨r2, rfl, hr2, hf2⟩ S
  replace S := S.add hf2
  refine de S ?_
  refine dl ?_
  refine sn S ?_; clear S; intro b25 a w S
  refine de S ?_
  refine dl ?_
  have hls := ls_box (ts := [r2, freshL 1 1]) (S.box b25) (fun x hx => by
    simp only [List.mem_cons, List.not_mem_nil, or_false] at hx
    rcases hx with rfl | rfl
    · exact S.mem.t0 _
    · exact S.mem.t0 _)
  refine sr S (can_cl [r2, freshL 1 1] (freshL 1 2) (some ⟨b25, 0, none⟩) 2 w hls (S.mem.t0 _)) ?_; clear S hls; rintro _ a w rfl S
  rw [show List.map LTerm.t [r2, freshL 1 1] = [exL, exK] from by rw [List.map_cons, List.map_singleton, hr2]; rfl, show (freshL 1 2).t = exN from rfl, ex_b.1, ex_b.2] at S
  refine de S ?_
  iterate 5 (refine dq S ?_; clear S; intro a S)
  refine dn ?_
  refine xtn ?_
  refine c_seq ?_
  refine c_drawD [(0, true), (1, true), (3, true), (2, false), (4, false), (5, false), (6, true), (7, true), (8, true), (9, true), (10, true)] [] S ?_; clear S; intro w S
  iterate 3 (refine dq S ?_; clear S; intro a S)
  refine dl ?_
  refine sr S (lock_c (freshL 1 1) (freshL 1 2) _ w (foots_lt S) (S.t _) (S.t _)) ?_; clear S; rintro _ a w ⟨r3, rfl, hr3, hf3⟩ S
  replace S := S.add hf3
  refine de S ?_
  refine dl ?_
  refine sn S ?_; clear S; intro b35 a w S
  refine de S ?_
  refine dl ?_
  have hls := ls_box (ts := [r3, freshL 1 1]) (S.box b35) (fun x hx => by
    simp only [List.mem_cons, List.not_mem_nil, or_false] at hx
    rcases hx with rfl | rfl
    · exact S.mem.t0 _
    · exact S.mem.t0 _)
  have hK : List.map LTerm.t [r3, freshL 1 1] = [exL, exK] := by rw [List.map_cons, List.map_singleton, hr3]; rfl
  have hz : chkF [exL, exK] [] = 0 := chk_zero.2 ⟨by simp, by simp; exact ⟨exL_good, exK_good⟩⟩
  refine sr S (parts_c sort_ok [r3, freshL 1 1] (some ⟨b35, 0, none⟩) 2 w hls) ?_; clear S hls; rintro _ a w ⟨p', c', ls, rfl, -, -, -, -, hz2, -⟩ S
  rw [hK] at hz2 S
  obtain ⟨km, hA, hsub, hperm⟩ := hz2 hz
  have hl3 : ls.length = 3 := by rw [hperm.length_eq, List.length_map]; exact ex_c hA hsub
  rw [hz, hl3] at S
  refine de S ?_
  iterate 5 (refine dq S ?_; clear S; intro a S)
  refine dn ?_
  refine xtn ?_
  refine c_seq ?_
  refine c_region ?_
  iterate 3 (refine sq S ?_; clear S; intro a S)
  iterate 2 (refine gQ S ?_; clear S; intro a S)
  iterate 2 (refine sq S ?_; clear S; intro a S)
  iterate 2 (refine gQ S ?_; clear S; intro a S)
  iterate 2 (refine sq S ?_; clear S; intro a S)
  iterate 2 (refine gQ S ?_; clear S; intro a S)
  iterate 2 (refine sq S ?_; clear S; intro a S)
  refine gQ S ?_; clear S; intro a S
  iterate 2 (refine sq S ?_; clear S; intro a S)
  iterate 3 (refine gQ S ?_; clear S; intro a S)
  iterate 2 (refine sq S ?_; clear S; intro a S)
  refine wl_nil ?_
  refine xtn ?_
  refine c_ret ?_
  refine end1 S (fun _ => ?_)
  simp
end Go.Proofs.Ytajmjbboahmdkaa
