/- Layer 14: few, Same; marks compared. -/
import Derived.Test.YtmngicgdgpimlaaDoorPlainTreeB
import Derived.Laws.StructEq
namespace Go.Proofs.YtmngicgdgpimlaaDoor
open Go Go.Wk
set_option synthInstance.maxSize 100000
set_option synthInstance.maxHeartbeats 400000
set_option maxRecDepth 100000

deriving instance DecidableEq for LMark
theorem eq_mark (m n : LMark) (w : World) : (Go.Op.equalIn 10000 36 (.agg ⟨[str m.key, .int .i64 m.ver]⟩) (.agg ⟨[str n.key, .int .i64 n.ver]⟩)).run Tryd.prog w = .ok (decide (m = n)) w := by
  have u3 := Tryd.underlying3
  have a3 := Tryd.isAgg3
  have z3 := Tryd.sizeOf3
  have u9 := Tryd.underlying9
  have a9 := Tryd.isAgg9
  have z9 := Tryd.sizeOf9
  have hS : Tryd.prog.underlying 36 = some (.struct (Tryd.prog.fieldsOf 36)) := by kernel_rfl
  have hp : Tryd.prog.stoodInHeld 36 = false := by kernel_rfl
  obtain ⟨a, x⟩ := m
  obtain ⟨b, y⟩ := n
  rw [show (10000 : Nat) = 9999 + 1 from rfl, run_equalIn_agg w 9999 36 _ _ hS hp]
  simp only [Program.fieldsOf, Tryd.underlying36]
  go_simp
  by_cases h1 : a = b <;> by_cases h2 : x = y <;> simp [h1, h2]
theorem guard_mark : Tryd.prog.eqGuardType Tryd.prog.depth 36 = false := by kernel_rfl
section
variable {l : Cx} {bs : List Wk.Item} {fs : List (World → Prop)} {x y : Operand} {m n : LMark} {t' ty : TypeId}
instance opEqMark [Ev l x (.agg ⟨[str m.key, .int .i64 m.ver]⟩)] [Ev l y (.agg ⟨[str n.key, .int .i64 n.ver]⟩)] : OpQ Tryd.prog (.binOp .eql 36 x y t') ty l bs fs (.bool (decide (m = n))) := ⟨fun ρ w h _ => by
  simp [xop, execOp, h.ev (x := x) (v := .agg ⟨[str m.key, .int .i64 m.ver]⟩), h.ev (x := y) (v := .agg ⟨[str n.key, .int .i64 n.ver]⟩), Sem.run_bind, run_eqGuard_agg w .eql 36 x y _ _ guard_mark, run_eql_struct, eq_mark]⟩
instance opNeMark [Ev l x (.agg ⟨[str m.key, .int .i64 m.ver]⟩)] [Ev l y (.agg ⟨[str n.key, .int .i64 n.ver]⟩)] : OpQ Tryd.prog (.binOp .neq 36 x y t') ty l bs fs (.bool (!decide (m = n))) := ⟨fun ρ w h _ => by
  simp [xop, execOp, h.ev (x := x) (v := .agg ⟨[str m.key, .int .i64 m.ver]⟩), h.ev (x := y) (v := .agg ⟨[str n.key, .int .i64 n.ver]⟩), Sem.run_bind, run_eqGuard_agg w .neq 36 x y _ _ guard_mark, run_neq_struct, eq_mark]⟩
end
theorem equalm_c (xs ys : List LMark) (p q : Option Addr) (c e : Nat) (w0 : World) (hl : xs.length ≤ 1000000000) (hx : Stable (fun _ => False) w0 (GlF p xs)) (hy : Stable (fun _ => False) w0 (GlF q ys)) :
    Ret Tryd.prog 9 [.slice p xs.length c, .slice q ys.length e] w0 (fun _ => False) fun v _ => v = .bool (decide (xs = ys)) := by
  refine enter Tryd.func9 rfl rfl (Wd.begin (fs := [GlF p xs, GlF q ys]) (by simp; exact ⟨hx, hy⟩)) (fun a S => ?_)
  simp only [Tryd.ntmps9, List.length_cons, List.length_nil, Nat.reduceAdd, Nat.reduceSub, List.replicate_succ, List.replicate_zero, List.cons_append, List.nil_append] at S
  refine c_seq ?_
  refine c_region ?_
  refine sq S ?_; clear S; intro a S
  refine wl_nil ?_
  refine xtn ?_
  iterate 2 (refine c_seq ?_)
  refine c_region ?_
  iterate 5 (refine sq S ?_; clear S; intro a S)
  refine wl_nil ?_
  refine xtn ?_
  refine c_cond S (fun h1 => ?_) (fun h1 => ?_)
  · refine c_seq ?_
    refine c_region ?_
    refine sq S ?_; clear S; intro a S
    refine wl_nil ?_
    refine xtn ?_
    refine c_ret ?_
    refine xtr ?_
    have hne : xs ≠ ys := fun h => by rw [h] at h1; simp at h1
    refine end1 S (fun _ => ?_)
    rw [decide_eq_false hne]
  · refine c_skip ?_
    refine xtn ?_
    iterate 2 (refine c_seq ?_)
    refine c_region ?_
    iterate 3 (refine sq S ?_; clear S; intro a S)
    refine wl_nil ?_
    refine xtn ?_
    refine c_block ?_
    have hle : xs.length = ys.length := by simp at h1; omega
    refine c_forb1 S (fun (k : Nat) uu => [(4, uu 4), (0, uu 5), (7, .int .i64 (k : Nat)), (0, uu 14), (0, uu 15), (0, uu 16), (0, uu 17), (0, uu 18), (0, uu 19), (0, uu 20), (0, uu 21), (0, uu 22), (0, uu 23), (0, uu 24), (0, uu 25)]) (fun (k : Nat) => k ≤ xs.length ∧ xs.take k = ys.take k) (fun (k : Nat) => xs.length - k) (0) ?_ S.uu ?_ ?_
    · exact ⟨Nat.zero_le _, rfl⟩
    · first | exact S | exact S.sub _ _
    · clear S; rintro k uu a w ⟨hk, hrel⟩ S
      refine c_seq ?_
      refine c_region ?_
      refine sq S ?_; clear S; intro a S
      refine wl_nil ?_
      refine xtn ?_
      refine c_seq ?_
      refine c_cond S (fun h4 => ?_) (fun h4 => ?_)
      · refine c_skip ?_
        refine xtn ?_
        refine c_seq ?_
        refine c_block ?_
        refine c_seq ?_
        have hkl : k < xs.length := by simpa using h4
        have hK1 : KLt k xs.length := ⟨hkl⟩
        have hK2 : KLt k ys.length := ⟨by omega⟩
        refine c_region ?_
        iterate 2 (refine sq S ?_; clear S; intro a S)
        refine wl_nil ?_
        refine xtn ?_
        refine c_seq ?_
        refine c_drawD [(0, true), (1, true), (2, true), (3, true), (4, true), (5, true), (6, true), (7, true), (8, true)] [] S ?_; clear S; intro w S
        iterate 9 (refine dq S ?_; clear S; intro a S)
        refine dn ?_
        refine xtn ?_
        refine c_cond S (fun h6 => ?_) (fun h6 => ?_)
        · refine c_seq ?_
          refine c_region ?_
          refine sq S ?_; clear S; intro a S
          refine wl_nil ?_
          refine xtn ?_
          refine c_ret ?_
          refine xbr ?_
          iterate 2 (refine xtr ?_)
          refine xbr ?_
          refine xtr ?_
          have h9 : nthG xs k ≠ nthG ys k := by simpa using h6
          have hne : xs ≠ ys := fun h => h9 (by rw [h])
          refine end1 S (fun _ => ?_)
          rw [decide_eq_false hne]
        · refine c_skip ?_
          refine xbn ?_
          refine xtn ?_
          refine c_region ?_
          iterate 2 (refine sq S ?_; clear S; intro a S)
          refine wl_nil ?_
          refine xtn ?_
          have h9 : nthG xs k = nthG ys k := by simpa using h6
          rw [w64 ((k : Int) + 1) (by omega) (by omega)] at S
          exact ⟨k + 1, S.uu, ⟨hkl, by rw [nthG_take hkl, nthG_take (show k < ys.length by omega), hrel, h9]⟩, S.sub _ _, by omega⟩
      · refine c_exit ?_
        iterate 2 (refine xte ?_)
        refine xbe ?_
        refine xtn ?_
        refine c_seq ?_
        refine c_region ?_
        refine sq S ?_; clear S; intro a S
        refine wl_nil ?_
        refine xtn ?_
        refine c_ret ?_
        have h9 : xs.length ≤ k := by simpa using h4
        rw [List.take_of_length_le h9, List.take_of_length_le (by omega)] at hrel
        refine end1 S (fun _ => ?_)
        rw [decide_eq_true hrel]
def fewL : List LMark := [⟨[97], 1⟩, ⟨[98], 2⟩, ⟨[99], 3⟩]
def shortM (m : LMark) : LMark := ⟨m.key.take 65, m.ver⟩
def shortL (l : List LMark) : List LMark := (l.take 17).map shortM
end Go.Proofs.YtmngicgdgpimlaaDoor
