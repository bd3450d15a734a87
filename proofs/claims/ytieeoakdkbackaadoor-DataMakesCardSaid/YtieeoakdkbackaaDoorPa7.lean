/- 7: a part of this claim's texts, joined: TreeG TreeH FreshS LaidB TreeI W7 DataA DataB DataC DataD DataE DataF DataG. -/
import Derived.Test.YtieeoakdkbackaaDoorPa6
import Derived.Laws.StructEq
import Derived.Lib.LaidTab
import Derived.SizedLaws
import Derived.ChangeVars
import Derived.JoinedOf
import Derived.JoinedAt
import Derived.RecoverIn
import Derived.OpenShut
/- Layer 14: few, Same; marks compared. -/
namespace Go.Proofs.YtieeoakdkbackaaDoor
open Go Go.Wk
set_option synthInstance.maxSize 100000
set_option synthInstance.maxHeartbeats 400000
set_option maxRecDepth 100000

deriving instance DecidableEq for LMark
theorem eq_mark (m n : LMark) (w : World) : (Go.Op.equalIn 10000 51 (.agg ⟨[str m.key, .int .i64 m.ver]⟩) (.agg ⟨[str n.key, .int .i64 n.ver]⟩)).run Tryd.prog w = .ok (decide (m = n)) w := by
  have u3 := Tryd.underlying3
  have a3 := Tryd.isAgg3
  have z3 := Tryd.sizeOf3
  have u9 := Tryd.underlying9
  have a9 := Tryd.isAgg9
  have z9 := Tryd.sizeOf9
  have hS : Tryd.prog.underlying 51 = some (.struct (Tryd.prog.fieldsOf 51)) := by kernel_rfl
  have hp : Tryd.prog.stoodInHeld 51 = false := by kernel_rfl
  obtain ⟨a, x⟩ := m
  obtain ⟨b, y⟩ := n
  rw [show (10000 : Nat) = 9999 + 1 from rfl, run_equalIn_agg w 9999 51 _ _ hS hp]
  simp only [Program.fieldsOf, Tryd.underlying51]
  go_simp
  by_cases h1 : a = b <;> by_cases h2 : x = y <;> simp [h1, h2]
theorem guard_mark : Tryd.prog.eqGuardType Tryd.prog.depth 51 = false := by kernel_rfl
section
variable {l : Cx} {bs : List Wk.Item} {fs : List (World → Prop)} {x y : Operand} {m n : LMark} {t' ty : TypeId}
instance opEqMark [Ev l x (.agg ⟨[str m.key, .int .i64 m.ver]⟩)] [Ev l y (.agg ⟨[str n.key, .int .i64 n.ver]⟩)] : OpQ Tryd.prog (.binOp .eql 51 x y t') ty l bs fs (.bool (decide (m = n))) := ⟨fun ρ w h _ => by
  simp [xop, execOp, h.ev (x := x) (v := .agg ⟨[str m.key, .int .i64 m.ver]⟩), h.ev (x := y) (v := .agg ⟨[str n.key, .int .i64 n.ver]⟩), Sem.run_bind, run_eqGuard_agg w .eql 51 x y _ _ guard_mark, run_eql_struct, eq_mark]⟩
instance opNeMark [Ev l x (.agg ⟨[str m.key, .int .i64 m.ver]⟩)] [Ev l y (.agg ⟨[str n.key, .int .i64 n.ver]⟩)] : OpQ Tryd.prog (.binOp .neq 51 x y t') ty l bs fs (.bool (!decide (m = n))) := ⟨fun ρ w h _ => by
  simp [xop, execOp, h.ev (x := x) (v := .agg ⟨[str m.key, .int .i64 m.ver]⟩), h.ev (x := y) (v := .agg ⟨[str n.key, .int .i64 n.ver]⟩), Sem.run_bind, run_eqGuard_agg w .neq 51 x y _ _ guard_mark, run_neq_struct, eq_mark]⟩
end
theorem equalm_c (xs ys : List LMark) (p q : Option Addr) (c e : Nat) (w0 : World) (hl : xs.length ≤ 1000000000) (hx : Stable (fun _ => False) w0 (GlF p xs)) (hy : Stable (fun _ => False) w0 (GlF q ys)) :
    Ret Tryd.prog 24 [.slice p xs.length c, .slice q ys.length e] w0 (fun _ => False) fun v _ => v = .bool (decide (xs = ys)) := by
  refine enter Tryd.func24 rfl rfl (Wd.begin (fs := [GlF p xs, GlF q ys]) (by simp; exact ⟨hx, hy⟩)) (fun a S => ?_)
  simp only [Tryd.ntmps24, List.length_cons, List.length_nil, Nat.reduceAdd, Nat.reduceSub, List.replicate_succ, List.replicate_zero, List.cons_append, List.nil_append] at S
  refine c_seq ?_
  refine c_region ?_
  refine sq S ?_; clear S; intro a S
  refine wl_nil ?_
  refine xtn ?_
  iterate 2 (refine c_seq ?_)
  refine c_region ?_
  iterate 5 (refine sq S ?_; clear S; intro a S)
  refine wl_nil ?_
  refine xtn ?_
  refine c_cond S (fun h1 => ?_) (fun h1 => ?_)
  · refine c_seq ?_
    refine c_region ?_
    refine sq S ?_; clear S; intro a S
    refine wl_nil ?_
    refine xtn ?_
    refine c_ret ?_
    refine xtr ?_
    have hne : xs ≠ ys := fun h => by rw [h] at h1; simp at h1
    refine end1 S (fun _ => ?_)
    rw [decide_eq_false hne]
  · refine c_skip ?_
    refine xtn ?_
    iterate 2 (refine c_seq ?_)
    refine c_region ?_
    iterate 3 (refine sq S ?_; clear S; intro a S)
    refine wl_nil ?_
    refine xtn ?_
    refine c_block ?_
    have hle : xs.length = ys.length := by simp at h1; omega
    refine c_forb1 S (fun (k : Nat) uu => [(4, uu 4), (0, uu 5), (7, .int .i64 (k : Nat)), (0, uu 14), (0, uu 15), (0, uu 16), (0, uu 17), (0, uu 18), (0, uu 19), (0, uu 20), (0, uu 21), (0, uu 22), (0, uu 23), (0, uu 24), (0, uu 25)]) (fun (k : Nat) => k ≤ xs.length ∧ xs.take k = ys.take k) (fun (k : Nat) => xs.length - k) (0) ?_ S.uu ?_ ?_
    · exact ⟨Nat.zero_le _, rfl⟩
    · first | exact S | exact S.sub _ _
    · clear S; rintro k uu a w ⟨hk, hrel⟩ S
      refine c_seq ?_
      refine c_region ?_
      refine sq S ?_; clear S; intro a S
      refine wl_nil ?_
      refine xtn ?_
      refine c_seq ?_
      refine c_cond S (fun h4 => ?_) (fun h4 => ?_)
      · refine c_skip ?_
        refine xtn ?_
        refine c_seq ?_
        refine c_block ?_
        refine c_seq ?_
        have hkl : k < xs.length := by simpa using h4
        have hK1 : KLt k xs.length := ⟨hkl⟩
        have hK2 : KLt k ys.length := ⟨by omega⟩
        refine c_region ?_
        iterate 2 (refine sq S ?_; clear S; intro a S)
        refine wl_nil ?_
        refine xtn ?_
        refine c_seq ?_
        refine c_drawD [(0, true), (1, true), (2, true), (3, true), (4, true), (5, true), (6, true), (7, true), (8, true)] [] S ?_; clear S; intro w S
        iterate 9 (refine dq S ?_; clear S; intro a S)
        refine dn ?_
        refine xtn ?_
        refine c_cond S (fun h6 => ?_) (fun h6 => ?_)
        · refine c_seq ?_
          refine c_region ?_
          refine sq S ?_; clear S; intro a S
          refine wl_nil ?_
          refine xtn ?_
          refine c_ret ?_
          refine xbr ?_
          iterate 2 (refine xtr ?_)
          refine xbr ?_
          refine xtr ?_
          have h9 : nthG xs k ≠ nthG ys k := by simpa using h6
          have hne : xs ≠ ys := fun h => h9 (by rw [h])
          refine end1 S (fun _ => ?_)
          rw [decide_eq_false hne]
        · refine c_skip ?_
          refine xbn ?_
          refine xtn ?_
          refine c_region ?_
          iterate 2 (refine sq S ?_; clear S; intro a S)
          refine wl_nil ?_
          refine xtn ?_
          have h9 : nthG xs k = nthG ys k := by simpa using h6
          rw [w64 ((k : Int) + 1) (by omega) (by omega)] at S
          exact ⟨k + 1, S.uu, ⟨hkl, by rw [nthG_take hkl, nthG_take (show k < ys.length by omega), hrel, h9]⟩, S.sub _ _, by omega⟩
      · refine c_exit ?_
        iterate 2 (refine xte ?_)
        refine xbe ?_
        refine xtn ?_
        refine c_seq ?_
        refine c_region ?_
        refine sq S ?_; clear S; intro a S
        refine wl_nil ?_
        refine xtn ?_
        refine c_ret ?_
        have h9 : xs.length ≤ k := by simpa using h4
        rw [List.take_of_length_le h9, List.take_of_length_le (by omega)] at hrel
        refine end1 S (fun _ => ?_)
        rw [decide_eq_true hrel]
theorem same14_c (xs ys : List LMark) (p q : Option Addr) (c e : Nat) (w0 : World) (hl : xs.length ≤ 1000000000) (hx : Stable (fun _ => False) w0 (GlF p xs)) (hy : Stable (fun _ => False) w0 (GlF q ys)) :
    Ret Tryd.prog 31 [.slice p xs.length c, .slice q ys.length e] w0 (fun _ => False) fun v _ => v = .bool (decide (xs = ys)) := by
  refine enter Tryd.func31 rfl rfl (Wd.begin (fs := [GlF p xs, GlF q ys]) (by simp; exact ⟨hx, hy⟩)) (fun a S => ?_)
  simp only [Tryd.ntmps31, List.length_cons, List.length_nil, Nat.reduceAdd, Nat.reduceSub, List.replicate_succ, List.replicate_zero, List.cons_append, List.nil_append] at S
  refine c_seq ?_
  refine c_region ?_
  refine sq S ?_; clear S; intro a S
  refine wl_nil ?_
  refine xtn ?_
  iterate 2 (refine c_seq ?_)
  refine c_region ?_
  iterate 5 (refine sq S ?_; clear S; intro a S)
  refine wl_nil ?_
  refine xtn ?_
  refine c_cond S (fun h1 => ?_) (fun h1 => ?_)
  · refine c_seq ?_
    refine c_region ?_
    refine sq S ?_; clear S; intro a S
    refine wl_nil ?_
    refine xtn ?_
    refine c_ret ?_
    refine xtr ?_
    have hne : xs ≠ ys := fun h => by rw [h] at h1; simp at h1
    refine end1 S (fun _ => ?_)
    rw [decide_eq_false hne]
  · refine c_skip ?_
    refine xtn ?_
    iterate 2 (refine c_seq ?_)
    refine c_region ?_
    iterate 3 (refine sq S ?_; clear S; intro a S)
    refine wl_nil ?_
    refine xtn ?_
    refine c_block ?_
    have hle : xs.length = ys.length := by simp at h1; omega
    refine c_forb1 S (fun (k : Nat) uu => [(4, uu 4), (0, uu 5), (7, .int .i64 (k : Nat)), (0, uu 14), (0, uu 15), (0, uu 16), (0, uu 17), (0, uu 18), (0, uu 19), (0, uu 20), (0, uu 21), (0, uu 22), (0, uu 23), (0, uu 24), (0, uu 25)]) (fun (k : Nat) => k ≤ xs.length ∧ xs.take k = ys.take k) (fun (k : Nat) => xs.length - k) (0) ?_ S.uu ?_ ?_
    · exact ⟨Nat.zero_le _, rfl⟩
    · first | exact S | exact S.sub _ _
    · clear S; rintro k uu a w ⟨hk, hrel⟩ S
      refine c_seq ?_
      refine c_region ?_
      refine sq S ?_; clear S; intro a S
      refine wl_nil ?_
      refine xtn ?_
      refine c_seq ?_
      refine c_cond S (fun h4 => ?_) (fun h4 => ?_)
      · refine c_skip ?_
        refine xtn ?_
        refine c_seq ?_
        refine c_block ?_
        refine c_seq ?_
        have hkl : k < xs.length := by simp at h4; omega
        have hK1 : KLt k xs.length := ⟨hkl⟩
        have hK2 : KLt k ys.length := ⟨by omega⟩
        refine c_region ?_
        iterate 2 (refine sq S ?_; clear S; intro a S)
        refine wl_nil ?_
        refine xtn ?_
        refine c_seq ?_
        refine c_drawD [(0, true), (1, true), (2, true), (3, true), (4, true), (5, true), (6, true), (7, true), (8, true)] [] S ?_; clear S; intro w S
        iterate 9 (refine dq S ?_; clear S; intro a S)
        refine dn ?_
        refine xtn ?_
        refine c_cond S (fun h6 => ?_) (fun h6 => ?_)
        · refine c_seq ?_
          refine c_region ?_
          refine sq S ?_; clear S; intro a S
          refine wl_nil ?_
          refine xtn ?_
          refine c_ret ?_
          refine xbr ?_
          iterate 2 (refine xtr ?_)
          refine xbr ?_
          refine xtr ?_
          have h9 : nthG xs k ≠ nthG ys k := by simpa using h6
          have hne : xs ≠ ys := fun h => h9 (by rw [h])
          refine end1 S (fun _ => ?_)
          rw [decide_eq_false hne]
        · refine c_skip ?_
          refine xbn ?_
          refine xtn ?_
          refine c_region ?_
          iterate 2 (refine sq S ?_; clear S; intro a S)
          refine wl_nil ?_
          refine xtn ?_
          have h9 : nthG xs k = nthG ys k := by simpa using h6
          rw [w64 ((k : Int) + 1) (by omega) (by omega)] at S
          exact ⟨k + 1, S.uu, ⟨hkl, by rw [nthG_take hkl, nthG_take (show k < ys.length by omega), hrel, h9]⟩, S.sub _ _, by omega⟩
      · refine c_exit ?_
        iterate 2 (refine xte ?_)
        refine xbe ?_
        refine xtn ?_
        refine c_seq ?_
        refine c_region ?_
        refine sq S ?_; clear S; intro a S
        refine wl_nil ?_
        refine xtn ?_
        refine c_ret ?_
        have h9 : xs.length ≤ k := by simp at h4; omega
        rw [List.take_of_length_le h9, List.take_of_length_le (by omega)] at hrel
        refine end1 S (fun _ => ?_)
        rw [decide_eq_true hrel]
def fewL : List LMark := [⟨[97], 1⟩, ⟨[98], 2⟩, ⟨[99], 3⟩]
theorem few_c (M : Nat → Prop) (w0 : World) (hM : ∀ k, M k → k < w0.heap.size) : Ret Tryd.prog 65 [] w0 (fun _ => False) fun v w' => ∃ p c, v = .slice p 3 c ∧ 3 ≤ c ∧ Stable M w' (GlF p fewL) := by
  refine enter Tryd.func65 rfl rfl (Wd.beginM (M := M) (fs := []) hM nofun) (fun a S => ?_)
  simp only [Tryd.ntmps65, List.length_cons, List.length_nil, Nat.reduceAdd, Nat.reduceSub, List.replicate_succ, List.replicate_zero, List.cons_append, List.nil_append] at S
  refine c_seq ?_
  refine c_region ?_
  refine sq S ?_; clear S; intro a S
  refine wl_nil ?_
  refine xtn ?_
  refine c_seq ?_
  refine c_region ?_
  iterate 3 (refine sq S ?_; clear S; intro a S)
  refine sn S ?_; clear S; intro b4 a w S
  refine sq S ?_; clear S; intro a S
  refine wl_nil ?_
  refine xtn ?_
  refine c_ret ?_
  replace S := S.boxRow b4 2 3 rfl (by simp [maxLen])
  rw [show ([str [97], .int .i64 1, str [98], .int .i64 2, str [99], .int .i64 3] : List Value) = encL fewL from rfl] at S
  have hrow := S.row (some ⟨b4, 0, none⟩) 3
  have hnew := S.rowNew (some ⟨b4, 0, none⟩) 3
  refine end1 S (fun _ => ?_)
  exact ⟨_, 3, rfl, Nat.le_refl _, gl_own hrow (fun _ _ _ _ => trivial) (fun ad h hm => (hnew ad h).elim (fun h => h.elim) (fun h2 => by have := hM _ hm; omega))⟩
def shortM (m : LMark) : LMark := ⟨m.key.take 65, m.ver⟩
def shortL (l : List LMark) : List LMark := (l.take 17).map shortM
theorem short_c (l : List LMark) (p : Option Addr) (c : Nat) (M : Nat → Prop) (w0 : World) (hl : l.length ≤ 9223372036854775807) (hM : ∀ k, M k → k < w0.heap.size) (hx : Stable M w0 (GlF p l)) :
    Ret Tryd.prog 26 [.slice p l.length c] w0 (fun _ => False) fun v w' => ∃ p' c', v = .slice p' (shortL l).length c' ∧ (shortL l).length ≤ c' ∧ Stable M w' (GlF p' (shortL l)) := by
  refine enter Tryd.func26 rfl rfl (Wd.beginM (M := M) (fs := [GlF p l]) hM (by simpa using hx)) (fun a S => ?_)
  simp only [Tryd.ntmps26, List.length_cons, List.length_nil, Nat.reduceAdd, Nat.reduceSub, List.replicate_succ, List.replicate_zero, List.cons_append, List.nil_append] at S
  refine c_seq ?_
  refine c_region ?_
  refine sq S ?_; clear S; intro a S
  refine wl_nil ?_
  refine xtn ?_
  refine c_seq ?_
  refine c_region ?_
  refine sq S ?_; clear S; intro a S
  refine wl_nil ?_
  refine xtn ?_
  iterate 2 (refine c_seq ?_)
  refine c_region ?_
  iterate 3 (refine sq S ?_; clear S; intro a S)
  refine wl_nil ?_
  refine xtn ?_
  refine c_block ?_
  replace S := S.addNil 51 2
  refine c_fore3 S (fun (k : Nat) (po : Option Addr) (co : Nat) uu => [(3, .slice po k co), (0, uu 4), (0, uu 5), (2, .int .i64 (k : Nat)), (0, uu 9), (0, uu 10), (0, uu 11), (0, uu 12), (0, uu 13), (0, uu 14), (0, uu 15), (0, uu 16), (0, uu 17), (0, uu 18), (0, uu 19), (0, uu 20), (0, uu 21), (0, uu 22), (0, uu 23), (0, uu 24), (0, uu 25), (0, uu 26), (0, uu 27)]) (fun (k : Nat) (po : Option Addr) (co : Nat) => [Wk.row 51 2 po k co (encL ((l.take k).map shortM)), ext M]) (fun (k : Nat) (po : Option Addr) (co : Nat) => [GlF p l]) (fun (k : Nat) (po : Option Addr) (co : Nat) => k ≤ l.length ∧ k ≤ 17) (fun (k : Nat) (po : Option Addr) (co : Nat) => l.length - k) (0) (none) (0) ?_ S.uu ?_ ?_
  · exact ⟨Nat.zero_le _, Nat.zero_le _⟩
  · first | exact S | exact S.sub _ _
  · clear S; rintro k po co uu a w ⟨hk, hk17⟩ S
    refine c_seq ?_
    refine c_region ?_
    refine sq S ?_; clear S; intro a S
    refine wl_nil ?_
    refine xtn ?_
    refine c_seq ?_
    refine c_cond S (fun h3 => ?_) (fun h3 => ?_)
    · refine c_skip ?_
      refine xtn ?_
      refine c_seq ?_
      refine c_block ?_
      refine c_seq ?_
      have hkl2 : k < l.length := by simp at h3; omega
      have hK : KLt k l.length := ⟨hkl2⟩
      refine c_region ?_
      iterate 3 (refine sq S ?_; clear S; intro a S)
      refine sa S ?_; clear S; intro b5 a w S
      refine sq S ?_; clear S; intro a S
      refine sw S ?_; clear S; intro a w S
      refine wl_nil ?_
      refine xtn ?_
      iterate 2 (refine c_seq ?_)
      refine c_region ?_
      iterate 2 (refine sq S ?_; clear S; intro a S)
      refine wl_nil ?_
      refine xtn ?_
      refine c_cond S (fun h5 => ?_) (fun h5 => ?_)
      · refine c_exit ?_
        refine xte ?_
        refine xbx ?_
        iterate 2 (refine xte ?_)
        refine xbe ?_
        refine xtn ?_
        refine c_seq ?_
        refine c_region ?_
        iterate 2 (refine sq S ?_; clear S; intro a S)
        refine wl_nil ?_
        refine xtn ?_
        refine c_ret ?_
        have hk17' : k = 17 := by simp at h5; omega
        have hlen : (shortL l).length = k := by simp [shortL]; omega
        have hrow := S.row po k
        have hnew := S.rowNew po k
        rw [hk17', show (l.take 17).map shortM = shortL l from rfl, ← hk17'] at hrow
        refine end1 S (fun _ => ?_)
        refine ⟨po, co, by rw [hlen], by rw [hlen]; exact own_le hrow, ?_⟩
        exact gl_own hrow (fun _ _ _ _ => trivial) (fun ad h hm => (hnew ad h).elim (fun h => h.elim) (fun h2 => by have := hM _ hm; omega))
      · refine c_skip ?_
        refine xtn ?_
        refine c_seq ?_
        refine c_region ?_
        iterate 7 (refine sq S ?_; clear S; intro a S)
        rw [show ((nthG l k).key.take (min (nthG l k).key.length 65)).drop 0 = (shortM (nthG l k)).key from by rw [List.drop_zero, shortM]; rw [Nat.min_def]; split <;> simp_all [List.take_of_length_le]] at S
        refine sq S ?_; clear S; intro a S
        refine sw S ?_; clear S; intro a w S
        refine wl_nil ?_
        refine xtn ?_
        refine c_region ?_
        iterate 2 (refine sq S ?_; clear S; intro a S)
        refine sn S ?_; clear S; intro b25 a w S
        refine sap S (by simp [maxLen]; omega) (by omega) ?_; clear S; rintro p7 c7 a w - S
        rw [show encL ((l.take k).map shortM) ++ [str (shortM (nthG l k)).key, .int .i64 (nthG l k).ver] = encL ((l.take (k + 1)).map shortM) from by rw [nthG_take hkl2, List.map_append, encL_append]; rfl] at S
        refine sq S ?_; clear S; intro a S
        refine wl_nil ?_
        refine xbn ?_
        refine xtn ?_
        refine c_region ?_
        iterate 2 (refine sq S ?_; clear S; intro a S)
        refine wl_nil ?_
        refine xtn ?_
        rw [w64 ((k : Int) + 1) (by omega) (by omega)] at S
        exact ⟨k + 1, p7, c7, S.uu, ⟨hkl2, by simp at h5; omega⟩, S.sub _ _, by omega⟩
    · refine c_exit ?_
      iterate 2 (refine xte ?_)
      refine xbe ?_
      refine xtn ?_
      refine c_seq ?_
      refine c_region ?_
      iterate 2 (refine sq S ?_; clear S; intro a S)
      refine wl_nil ?_
      refine xtn ?_
      refine c_ret ?_
      have hke : k = l.length := by simp at h3; omega
      have hlen : (shortL l).length = k := by simp [shortL]; omega
      have hrow := S.row po k
      have hnew := S.rowNew po k
      rw [show (l.take k).map shortM = shortL l from by rw [shortL, List.take_of_length_le (by omega), List.take_of_length_le (by omega)]] at hrow
      refine end1 S (fun _ => ?_)
      refine ⟨po, co, by rw [hlen], by rw [hlen]; exact own_le hrow, ?_⟩
      exact gl_own hrow (fun _ _ _ _ => trivial) (fun ad h hm => (hnew ad h).elim (fun h => h.elim) (fun h2 => by have := hM _ hm; omega))
end Go.Proofs.YtieeoakdkbackaaDoor

/- Layer 14 does something. -/
namespace Go.Proofs.YtieeoakdkbackaaDoor
open Go Go.Wk
set_option synthInstance.maxSize 100000
set_option synthInstance.maxHeartbeats 400000
set_option maxRecDepth 100000

theorem few_ok : okM fewL = true := by decide
theorem RootR.yes {M : Nat → Prop} {b : Bool} {T : Term} {v : Value} {w : World} (h : RootR M b T v w) (hb : b = true) : ∃ r : LTerm, v = .tuple ⟨[vL r, .int .i64 0]⟩ ∧ r.t = T ∧ Stable M w (LtF r) := by
  obtain ⟨r, e, rfl, h1, h2, -⟩ := h
  obtain ⟨rfl, h3⟩ := h2 hb
  exact ⟨r, rfl, h3, h1⟩
theorem wakes14_c (w0 : World) (ht : Stable (fun _ => False) w0 LibF) : Ret Tryd.prog 25 [] w0 (fun _ => False) fun v _ => v = .bool true := by
  obtain ⟨f16, fV⟩ := okM_V few_ok
  refine enter Tryd.func25 rfl rfl (Wd.begin (fs := [TabF, LibF]) (by simp; exact ⟨ht.imp fun _ h => h.1, ht⟩)) (fun a S => ?_)
  simp only [Tryd.ntmps25, List.length_cons, List.length_nil, Nat.reduceAdd, Nat.reduceSub, List.replicate_succ, List.replicate_zero, List.cons_append, List.nil_append] at S
  refine c_seq ?_
  refine c_region ?_
  refine sq S ?_; clear S; intro a S
  refine wl_nil ?_
  refine xtn ?_
  refine c_seq ?_
  refine c_region ?_
  refine sr S (few_c _ w0 (foots_lt S)) ?_; clear S; rintro _ a w ⟨p1, c1, rfl, hc1, hf1⟩ S
  replace S := S.add hf1
  refine sr S (troot_c fewL p1 c1 _ w hc1 (by decide) (foots_lt S) (S.mem.fact TabF) (S.mem.fact (GlF p1 fewL))) ?_; clear S; rintro _ a w hR S
  obtain ⟨r, rfl, hr, hrf⟩ := hR.yes few_ok
  replace S := S.add hrf
  iterate 3 (refine sq S ?_; clear S; intro a S)
  refine sa S ?_; clear S; intro b1 a w S
  refine sw S ?_; clear S; intro a w S
  refine sq S ?_; clear S; intro a S
  refine wl_nil ?_
  refine xtn ?_
  refine c_seq ?_
  refine c_region ?_
  refine sr S (few_c _ w (foots_lt S)) ?_; clear S; rintro _ a w ⟨p2, c2, rfl, hc2, hf2⟩ S
  replace S := S.add hf2
  refine sr S (tproof_c fewL p2 c2 [98] _ w hc2 (by decide) (foots_lt S) (S.mem.fact TabF) (S.mem.fact (GlF p2 fewL))) ?_; clear S; rintro _ a w ⟨pp, cp, ps, e, rfl, hps, -, -, h3⟩ S
  obtain ⟨rfl, i, hi, hik, hpath⟩ := h3 few_ok (by decide)
  replace S := S.add hps
  iterate 5 (refine sq S ?_; clear S; intro a S)
  refine wl_nil ?_
  refine xtn ?_
  refine c_seq ?_
  refine c_region ?_
  refine sr S (few_c _ w (foots_lt S)) ?_; clear S; rintro _ a w ⟨p3, c3, rfl, hc3, hf3⟩ S
  replace S := S.add hf3
  refine sr S (twrite_c fewL p3 c3 _ w (by decide) (foots_lt S) (S.mem.fact TabF) (S.mem.fact (GlF p3 fewL))) ?_; clear S; rintro _ a w hR S
  obtain ⟨t, rfl, htt, htf⟩ := hR.yes few_ok
  replace S := S.add htf
  iterate 3 (refine sq S ?_; clear S; intro a S)
  refine sa S ?_; clear S; intro b5 a w S
  refine sw S ?_; clear S; intro a w S
  refine sq S ?_; clear S; intro a S
  refine wl_nil ?_
  refine xtn ?_
  refine c_seq ?_
  refine c_region ?_
  refine sq S ?_; clear S; intro a S
  refine sr S (tread_c t _ w (foots_lt S) (S.mem.fact LibF) (S.t t)) ?_; clear S; rintro _ a w ⟨pm, cm, ms, e, rfl, hms, hcm, h1, h2⟩ S
  have he : e = 0 := by
    apply Classical.byContradiction
    intro hne
    exact (h2 hne).2.2 fewL few_ok htt (by rw [htt]; exact good_write f16 fV)
  subst he
  obtain ⟨hm1, hm2, -⟩ := h1 rfl
  have hmf : ms = fewL := write_inj (okM_V hm1).2 fV (by rw [← hm2, htt])
  subst hmf
  replace S := S.add hms
  iterate 5 (refine sq S ?_; clear S; intro a S)
  refine wl_nil ?_
  refine xtn ?_
  refine c_seq ?_
  have hK1 : KLt 1 3 := ⟨by decide⟩
  have hK2 : KLt 1 fewL.length := ⟨by decide⟩
  have hi1 : i = 1 := by
    have : i = 0 ∨ i = 1 ∨ i = 2 := by have : fewL.length = 3 := rfl; omega
    rcases this with rfl | rfl | rfl
    · simp [fewL, nthG] at hik
    · rfl
    · simp [fewL, nthG] at hik
  subst hi1
  have hpl : ps.length = 2 := by
    have := congrArg List.length hpath
    rw [List.length_map, List.length_reverse] at this
    rw [this]
    rw [pathT_r (by decide) (by decide), List.length_cons, pathT_l (by decide) (by decide), List.length_cons, pathT_one (by decide)]; rfl
  refine c_drwe0 (.q 0 (.q 1 (.q 2 (.q 3 (.q 4 (.q 5 (.q 6 (.q 7 (.q 8 (.q 9 (.q 10 (.q 11 (.q 12 (.q 13 (.q 14 (.q 15 (.q 16 (.q 17 (.q 18 (.q 19 (.q 20 (.q 24 (.l 21 (.l 22 (.l 23 (.l 25 (.q 26 (.q 27 (.q 28 (.q 29 (.q 30 (.l 31 (.q 32 (.q 33 (.q 34 (.q 35 (.l 36 (.l 37 (.q 38 (.q 39 (.e))))))))))))))))))))))))))))))))))))))))) S (fun  uu => [(0, .bool true), (28, uu 29), (0, uu 30), (0, uu 31), (0, uu 32), (0, uu 33), (0, uu 34), (0, uu 35), (0, uu 36), (0, uu 37), (0, uu 38), (0, uu 39), (0, uu 40), (0, uu 41), (0, uu 42), (0, uu 43), (0, uu 44), (0, uu 45), (0, uu 46), (0, uu 47), (0, uu 48), (0, uu 49), (0, uu 50), (0, uu 51), (0, uu 52), (0, uu 53), (0, uu 54), (0, uu 55), (0, uu 56), (0, uu 57), (0, uu 58), (0, uu 59), (0, uu 60), (0, uu 61), (0, uu 62), (0, uu 63), (0, uu 64), (0, uu 65), (0, uu 66), (0, uu 67)]) [Wk.box b5 24 t.cells, Wk.box b1 24 r.cells] ([]) ([]) (True) ?_ ?_
  · intro w S
    iterate 2 (refine tq S ?_; clear S; intro a S)
    rw [show decide ((0 : Int) = 0) = true from rfl] at S
    refine tq S ?_; clear S; intro a S
    iterate 2 (refine tqG S ?_; clear S; intro a S)
    rw [show decide ((0 : Int) = 0) = true from rfl] at S
    iterate 2 (refine tq S ?_; clear S; intro a S)
    iterate 2 (refine tqG S ?_; clear S; intro a S)
    rw [show decide ((0 : Int) = 0) = true from rfl] at S
    iterate 2 (refine tq S ?_; clear S; intro a S)
    iterate 2 (refine tqG S ?_; clear S; intro a S)
    rw [show decide ((0 : Int) = 0) = true from rfl] at S
    iterate 2 (refine tq S ?_; clear S; intro a S)
    iterate 3 (refine tqG S ?_; clear S; intro a S)
    rw [show decide ((ps.length : Int) = 2) = true from decide_eq_true (by omega)] at S
    iterate 2 (refine tq S ?_; clear S; intro a S)
    iterate 2 (refine tqG S ?_; clear S; intro a S)
    refine tl ?_
    refine gT S ?_
    refine sr S (few_c _ w (foots_lt S)) ?_; clear S; rintro _ a w ⟨p4, c4, rfl, hc4, hf4⟩ S
    replace S := S.add hf4
    refine te S ?_
    refine tl ?_
    refine gQ S ?_; clear S; intro a S
    refine te S ?_
    refine tl ?_
    refine gQ S ?_; clear S; intro a S
    refine te S ?_
    refine tl ?_
    refine gT S ?_
    refine sr S (proves_c r (nthG fewL 1) ps pp cp _ (by omega) (S.t0 r) (S.mem.fact0 (LsF pp 0 ps)) (S.mem.fact0 TabF)) ?_; clear S; rintro _ a w rfl S
    rw [show provesB r.t (nthG fewL 1) (ps.map LTerm.t) = true from by rw [hr, hpath]; exact proves_ok few_ok (by decide)] at S
    refine te S ?_
    iterate 2 (refine tq S ?_; clear S; intro a S)
    iterate 3 (refine tqG S ?_; clear S; intro a S)
    refine tl ?_
    refine gT S ?_
    refine sr S (proves_c r ⟨[98], 3⟩ ps pp cp _ (by omega) (S.t0 r) (S.mem.fact0 (LsF pp 0 ps)) (S.mem.fact0 TabF)) ?_; clear S; rintro _ a w rfl S
    rw [show provesB r.t ⟨[98], 3⟩ (ps.map LTerm.t) = false from by
      cases h : provesB r.t ⟨[98], 3⟩ (ps.map LTerm.t) with
      | false => rfl
      | true => rw [hr] at h; exact absurd (proves_sound few_ok h) (by decide)] at S
    refine te S ?_
    refine tqG S ?_; clear S; intro a S
    rw [show (!false) = true from rfl] at S
    iterate 2 (refine tq S ?_; clear S; intro a S)
    refine tqG S ?_; clear S; intro a S
    refine tl ?_
    refine gT S ?_
    refine sr S (few_c _ w (foots_lt S)) ?_; clear S; rintro _ a w ⟨p5, c5, rfl, hc5, hf5⟩ S
    replace S := S.add hf5
    refine te S ?_
    refine tl ?_
    refine gT S ?_
    refine sr S (same14_c fewL fewL pm p5 cm c5 _ (by decide) (S.gl0 pm) (S.gl0 p5)) ?_; clear S; rintro _ a w rfl S
    rw [show decide (fewL = fewL) = true from decide_eq_true rfl] at S
    refine te S ?_
    iterate 2 (refine tq S ?_; clear S; intro a S)
    refine tn ?_
    trace_state
    exact ⟨S.uu, trivial, S.sub _ _⟩
  clear S; rintro  uu a w hrel S
  refine xtn ?_
  refine c_ret ?_
  refine end1 S (fun _ => rfl)
end Go.Proofs.YtieeoakdkbackaaDoor

/- Terms that are signed. -/
namespace Go.Proofs.YtieeoakdkbackaaDoor
open Go Go.Wk
set_option synthInstance.maxSize 100000
set_option synthInstance.maxHeartbeats 400000
set_option maxRecDepth 100000

/-! terms that are signed -/
def signT (u n : Int) (a : Term) : Term := .mk 8 u n [] [a]
theorem good_signK {x : LTerm} (h : Good x.t) (hk : x.kind = 8) : x.kids.length = 1 ∧ x.t = signT x.user x.num (nthL x.kids 0).t ∧ (1 ≤ x.user ∧ x.user ≤ 6) ∧ (0 ≤ x.num ∧ x.num ≤ 65535) := by
  have h' := h
  rw [x.t_eq] at h
  have hp := plain_shape (goodP h)
  rw [hk] at hp
  have hq : 1 ≤ x.user ∧ x.user ≤ 6 ∧ 0 ≤ x.num ∧ x.num ≤ 65535 ∧ x.text = [] ∧ x.kids.length = 1 := by
    rcases hp with q | q | q | q | q | q | q
    all_goals first | (obtain ⟨-, q⟩ := q; simpa using q) | omega
  obtain ⟨q1, q2, q3, q4, q5, q6⟩ := hq
  refine ⟨q6, ?_, ⟨q1, q2⟩, ⟨q3, q4⟩⟩
  obtain ⟨u, hu⟩ : ∃ u, x.kids = [u] := by
    match h : x.kids, q6 with
    | [u], _ => exact ⟨u, rfl⟩
  rw [x.t_eq, hk, q5, hu]; rfl
theorem good_sign {u n : Int} {a : Term} (hu : 1 ≤ u ∧ u ≤ 6) (hn : 0 ≤ n ∧ n ≤ 65535) (ha : Good a) (hc : cnt a ≤ 1199) (h1 : dpt a ≤ 59) : Good (signT u n a) := by
  refine good_mk ?_ (by simp; exact ha) (by simp [cntL]; omega) (by simp [dptL]; omega)
  simp [plainF, show fieldsOf 8 = 14 from rfl, show hasF 14 1 = false from by decide, show hasF 14 2 = true from by decide, show hasF 14 4 = true from by decide, show kidsF 14 = 1 from by decide, knownF, hu.1, hu.2, hn.1, hn.2]
theorem sign_c (u n : Int) (x : LTerm) (M : Nat → Prop) (w0 : World) (hM : ∀ k, M k → k < w0.heap.size) (hx : Stable M w0 (LtF x)) : Ret Tryd.prog 46 [.int .i64 u, .int .i64 n, vL x] w0 (fun _ => False) fun v w' => IsT M w' v (signT u n x.t) := by
  refine enter Tryd.func46 rfl rfl (Wd.beginM (M := M) (fs := [LtF x]) hM (by simpa using hx)) (fun a S => ?_)
  simp only [Tryd.ntmps46, List.length_cons, List.length_nil, Nat.reduceAdd, Nat.reduceSub, List.replicate_succ, List.replicate_zero, List.cons_append, List.nil_append] at S
  refine c_seq ?_
  refine c_region ?_
  refine sa S ?_; clear S; intro b5 a w S
  refine sa S ?_; clear S; intro b6 a w S
  refine wl_nil ?_
  refine xtn ?_
  refine c_seq ?_
  refine c_region ?_
  refine sq S ?_; clear S; intro a S
  refine sn S ?_; clear S; intro b9 a w S
  refine sc S ?_; clear S; intro a w S
  refine sa S ?_; clear S; intro b7 a w S
  refine sw S ?_; clear S; intro a w S
  refine wl_nil ?_
  refine xtn ?_
  refine c_seq ?_
  refine c_region ?_
  iterate 3 (refine sq S ?_; clear S; intro a S)
  refine sw S ?_; clear S; intro a w S
  refine sq S ?_; clear S; intro a S
  refine sw S ?_; clear S; intro a w S
  refine wl_nil ?_
  refine xtn ?_
  refine c_seq ?_
  refine c_region ?_
  refine sq S ?_; clear S; intro a S
  refine sw S ?_; clear S; intro a w S
  refine wl_nil ?_
  refine xtn ?_
  refine c_ret ?_
  refine end1 S (fun _ => ?_)
  refine ⟨.mk 8 u n [] (some ⟨b9, 0, none⟩) 1 [x], rfl, rfl, fun w' hw' => ?_⟩
  have h1 := S.laterFact (Φ := LtF x) (by simp) w' hw'
  exact ⟨by simp, by simp [maxLen], LsIn.of_block [x] (S.laterBox hw' b9) (fun y hy => by obtain rfl := List.mem_singleton.1 hy; exact h1)⟩
theorem good_textK {x : LTerm} (h : Good x.t) (hk : x.kind = 1) : x.t = textT x.text ∧ x.text.length ≤ 64 := by
  rw [x.t_eq] at h
  have hp := plain_shape (goodP h)
  rw [hk] at hp
  have hq : x.user = 0 ∧ x.num = 0 ∧ x.text.length ≤ 64 ∧ x.kids.length = 0 := by
    rcases hp with q | q | q | q | q | q | q
    all_goals first | (obtain ⟨-, q⟩ := q; simpa using q) | omega
  have h0 : x.kids = [] := List.eq_nil_of_length_eq_zero hq.2.2.2
  refine ⟨?_, hq.2.2.1⟩
  rw [x.t_eq, hk, hq.1, hq.2.1, h0]; rfl
end Go.Proofs.YtieeoakdkbackaaDoor

/- From a row's condition to what a walk needs; the rows of layer 14: TreeUnlike. -/
namespace Go.Proofs.YtieeoakdkbackaaDoor
open Go Go.Wk
open Go.ChangeShapes Go.WideShapes Go.ChangeAt Go.RowKit
set_option maxRecDepth 100000

theorem starE : "*" ++ "errors.errorString" = "*errors.errorString" := by decide
theorem rowE (u : TypeId) (h : Tryd.prog.typeName? 3 u = some "*errors.errorString") : u = 167 :=
  typeName_ptr_named (nm := "errors.errorString") (by rw [starE]; kernel_rfl) (by kernel_rfl) (by decide) u (by rw [starE]; exact h)
theorem pow10_data : (Rows.laid_internal_strconv_uint64pow10 : DataW Unit) = Lib.tabData .u64 Lib.pow10Tab := by kernel_rfl
theorem lib_of_laid {W : World} (h : laidMet Tryd.prog laidL W) : LibF W := by
  have h3 := h.tail.tail
  have h4 := h3.tail
  have h5 := h4.tail
  refine ⟨?_, ?_, ?_⟩
  · refine Lib.tabIs_of_head (rest := [("strconv.ErrRange", Rows.laid_strconv_ErrRange), ("strconv.ErrSyntax", Rows.laid_strconv_ErrSyntax)]) (g := 3) (t := 171) (e := 153) (n := 20) (by kernel_rfl) (by kernel_rfl) (by kernel_rfl) (by kernel_rfl) (by kernel_rfl) (by kernel_rfl) ?_
    rw [← pow10_data]; exact h3
  · obtain ⟨a, s, hv, -⟩ := laid_sentinel h5 (g := 1) (ti := 114) (by kernel_rfl) (by kernel_rfl) Tryd.underlying114 rowE Tryd.underlying167 Tryd.underlying169 rfl rfl Tryd.underlying9 (by kernel_rfl) (by kernel_rfl)
    exact ⟨_, _, hv⟩
  · obtain ⟨a, s, hv, -⟩ := laid_sentinel h4 (g := 2) (ti := 114) (by kernel_rfl) (by kernel_rfl) Tryd.underlying114 rowE Tryd.underlying167 Tryd.underlying169 rfl rfl Tryd.underlying9 (by kernel_rfl) (by kernel_rfl)
    exact ⟨_, _, hv⟩
instance troMark : Tro Tryd.prog 51 LMark := ⟨fun enc w base spare held fuel cs x h => by
  obtain ⟨hlen, hf⟩ := trod_flds Tryd.underlying51 h
  rw [show Tryd.prog.cellsOf 51 = 2 from by kernel_rfl] at hlen
  obtain ⟨n0, y0, g0⟩ := hf 0 9 0 rfl
  obtain ⟨n1, y1, g1⟩ := hf 1 3 1 rfl
  have hS : Tro Tryd.prog 9 (List UInt8) := troS Tryd.underlying9 (by kernel_rfl)
  obtain ⟨u0, e0, i0⟩ := trod_fld (α := List UInt8) g0 rfl
  obtain ⟨u1, e1, i1⟩ := trod_fld (α := Int) g1 rfl
  refine ⟨⟨u0, u1⟩, ?_, trivial⟩
  match cs, hlen with
  | [c0, c1], _ =>
    have q0 : [c0] = [str u0] := e0
    have q1 : [c1] = [.int .i64 u1] := e1
    simp only [List.cons.injEq, and_true] at q0 q1
    rw [q0, q1]; rfl, by kernel_rfl⟩
instance troMarks : Tro Tryd.prog 46 (Sl LMark) := troSl Tryd.underlying46 (by kernel_rfl)
end Go.Proofs.YtieeoakdkbackaaDoor

/- Layer 14: small. -/
namespace Go.Proofs.YtieeoakdkbackaaDoor
open Go Go.Wk
set_option synthInstance.maxSize 100000
set_option synthInstance.maxHeartbeats 400000
set_option maxRecDepth 100000

theorem own_cap14 {w : World} {e : TypeId} {sz : Nat} {p : Option Addr} {n c : Nat} {xs : List Value} (h : w.ownsRow 0 e sz (.slice p n c) n xs) : c ≤ maxLen := by
  rcases h.2 with ⟨hv, h0⟩ | ⟨g, cap, cur, hv, hb, hg, hnc, hcm, hcs, ht⟩
  · cases hv; exact Nat.zero_le _
  · cases hv; exact hcm
theorem take_map14 (ks : List LTerm) (k : Nat) (h : k < ks.length) : (ks.take (k + 1)).map LTerm.t = (ks.take k).map LTerm.t ++ [(nthL ks k).t] := by
  rw [List.take_add_one, nth_get h, List.map_append]; rfl
def small14 : Nat → Term → Term
  | 0, .mk k u n s _ => .mk k u n (s.take 65) []
  | d + 1, .mk k u n s ks => .mk k u n (s.take 65) ((ks.take 3).map (small14 d))
def small14K (d : Nat) (ks : List Term) : List Term := match d with | 0 => [] | d + 1 => (ks.take 3).map (small14 d)
theorem small14_eq (d : Nat) (t : LTerm) : small14 d t.t = .mk t.kind t.user t.num (t.text.take 65) (small14K d (t.kids.map LTerm.t)) := by
  rw [t.t_eq]; cases d <;> rfl
theorem small14K_len (d : Nat) (ks : List Term) : (small14K d ks).length ≤ 3 := by
  cases d
  · simp [small14K]
  · simp only [small14K, List.length_map, List.length_take]; omega
theorem small14K_more {d : Nat} {ks : List LTerm} {k : Nat} (h : k < ks.length) (hk : k < 3) : small14K (d + 1) ((ks.take (k + 1)).map LTerm.t) = small14K (d + 1) ((ks.take k).map LTerm.t) ++ [small14 d (nthL ks k).t] := by
  simp only [small14K]
  have e1 : ((ks.take (k + 1)).map LTerm.t).take 3 = (ks.take (k + 1)).map LTerm.t := List.take_of_length_le (by simp; omega)
  have e2 : ((ks.take k).map LTerm.t).take 3 = (ks.take k).map LTerm.t := List.take_of_length_le (by simp; omega)
  rw [e1, e2, take_map14 ks k h, List.map_append]; rfl
theorem small14K_same {d : Nat} {ks : List LTerm} {k : Nat} (h : k < ks.length) (hk : ¬ (k < 3 ∧ 0 < d)) : small14K d ((ks.take (k + 1)).map LTerm.t) = small14K d ((ks.take k).map LTerm.t) := by
  cases d with
  | zero => rfl
  | succ d =>
    simp only [small14K]
    rw [take_map14 ks k h, List.take_append_of_le_length (by simp; omega)]
end Go.Proofs.YtieeoakdkbackaaDoor

namespace Go.Wk
open Go

/-! panics: what they leave by, and who takes it -/
/-- what a call says that returns or panics; nothing but the blocks of M has changed. -/
def RetP (P : Program) (f : Nat) (args : List Value) (w : World) (M : Nat → Prop) (R : Value → World → Prop) (X : List PanicEntry → World → Prop) : Prop :=
  Calls P f args.toArray w fun e w' => (∃ v, e = .returned v ∧ Agree M w w' ∧ R v w') ∨ ∃ ch, e = .panicked ch ∧ Agree M w w' ∧ X ch w'
theorem Ret.toP {P : Program} {f : Nat} {args : List Value} {w : World} {M : Nat → Prop} {R : Value → World → Prop} {X : List PanicEntry → World → Prop} (h : Ret P f args w M R) : RetP P f args w M R X :=
  Calls.mono h fun _ _ ⟨v, e, ha, hv⟩ => .inl ⟨v, e, ha, hv⟩
theorem RetP.mono {P : Program} {f : Nat} {args : List Value} {w : World} {M : Nat → Prop} {R R' : Value → World → Prop} {X X' : List PanicEntry → World → Prop} (h : RetP P f args w M R X) (hr : ∀ v w', R v w' → R' v w') (hx : ∀ c w', X c w' → X' c w') : RetP P f args w M R' X' :=
  Calls.mono h fun _ _ h => h.imp (fun ⟨v, e, ha, hv⟩ => ⟨v, e, ha, hr _ _ hv⟩) fun ⟨c, e, ha, hc⟩ => ⟨c, e, ha, hx _ _ hc⟩
/-- it does not panic. -/
theorem RetP.ret {P : Program} {f : Nat} {args : List Value} {w : World} {M : Nat → Prop} {R : Value → World → Prop} {X : List PanicEntry → World → Prop} (h : RetP P f args w M R X) (hx : ∀ c w', ¬ X c w') : Ret P f args w M R :=
  Calls.mono h fun _ _ h => h.elim id fun ⟨c, _, _, hc⟩ => absurd hc (hx _ _)
/-- one panic, of this value. -/
def pch (v : Value) : List PanicEntry := [{ v := v, recovered := false }]

section
variable {P : Program} {r : Option Nat} {ops : Array Oper} {Q : Exit → Act → World → Prop} {w0 : World} {M0 : Nat → Prop} {ds : List Deferred} {a : Act} {w : World} {l l' : List Value} {bs bs' : List Item} {fs : List (World → Prop)}
  {d : Option Nat} {op : Op} {ty : TypeId} {pos : String} {af : Array Edge} {rest : List Oper} {v v' G : Value} {f : Nat} {x : Operand} {xs : List Operand} {args : List Value} {ts : Array TypeId} {j g : Nat} {pol : Bool} {cs : List Bool}

theorem cv_anyP [EntF P f] [CallTo ⟨[], l⟩ x xs f args] (S : St w0 M0 ds a w l bs fs) {R : Ending → World → Prop} (hc : Calls P f args.toArray w R)
    (K : ∀ e w', R e w' → (∃ v, e = .returned v ∧ WL P r ops Q rest (a.put d v) w') ∨ ∃ ch, e = .panicked ch ∧ Q (.panic ch) a w') :
    WL P r ops Q (⟨d, .call { callee := .value x, args := xs.toArray, argTypes := ts }, ty, pos, af, none⟩ :: rest) a w := by
  refine wl_plain rfl ?_
  rw [semAt_nd rfl]
  simp only [run_callto (f := f) (args := args) S.fr, Oper.uponIn]
  refine ⟨fun h => (by cases h), trivial, fun cs _ => ?_⟩
  obtain ⟨e, w', fr, hR, hcm, h1, h2⟩ := hc cs
  rcases K e w' hR with ⟨v, rfl, hk⟩ | ⟨ch, rfl, hk⟩
  · exact ⟨.returned v, w', fr, hk, (comesIn_wide (m := lone (Frame.enter P f args.toArray .normal) cs w) (e := .returned v)).2 hcm, h1, h2⟩
  · exact ⟨.panicked ch, w', fr, hk, (comesIn_wide (m := lone (Frame.enter P f args.toArray .normal) cs w) (e := .panicked ch)).2 hcm, h1, h2⟩
/-- a call that may panic: nothing that lay there has changed. -/
theorem srP {l' : Value → List Value} [EntF P f] [CallTo ⟨[], l⟩ x xs f args] [hp : ∀ v, PutO l d v (l' v)] (S : St w0 M0 ds a w l bs fs) {R : Value → World → Prop} {X : List PanicEntry → World → Prop} (hc : RetP P f args w (fun _ => False) R X)
    (Kp : ∀ ch w', X ch w' → St w0 M0 ds a w' l bs fs → Q (.panic ch) a w')
    (K : ∀ v a w', R v w' → St w0 M0 ds a w' (l' v) bs fs → WL P r ops Q rest a w') :
    WL P r ops Q (⟨d, .call { callee := .value x, args := xs.toArray, argTypes := ts }, ty, pos, af, none⟩ :: rest) a w := by
  refine cv_anyP S hc ?_
  rintro e w' (⟨v, rfl, ha, hR⟩ | ⟨ch, rfl, ha, hX⟩)
  · have := hp v
    have S' := S.put (d := d) (v := v)
    exact .inl ⟨v, rfl, K v _ w' hR ⟨S'.slots, S'.defers, S'.wd.step ha⟩⟩
  · exact .inr ⟨ch, rfl, Kp ch w' hX ⟨S.slots, S.defers, S.wd.step ha⟩⟩
/-- a panic. -/
theorem sPan {tp : TypeId} [hx : Ev ⟨[], l⟩ x (.iface tp v)] (S : St w0 M0 ds a w l bs fs) (h : St w0 M0 ds a w l bs fs → Q (.panic (pch (.iface tp v))) a w) : WL P r ops Q (⟨d, .panic x, ty, pos, af, none⟩ :: rest) a w := by
  refine wl_plain rfl ?_
  rw [semAt_nd rfl]
  have hf : a.eval x = .iface tp v := S.fr.ev
  have : (xop a.eval (.panic x) ty).run P w = .halt (.panic (.iface tp v)) w := by
    simp [xop, execOp, hf, Instr.panic, goPanic, Sem.run_bind, Sem.run]
  rw [this]
  exact h S

/-! how functions end that may panic -/
variable {fn : Func} {R : Value → World → Prop} {X : List PanicEntry → World → Prop} {e : Exit}
theorem endP (h : bodyPost P fn (fun e w' => ∃ v, e = .returned v ∧ Agree M0 w0 w' ∧ R v w') e a w) :
    bodyPost P fn (fun e w' => (∃ v, e = .returned v ∧ Agree M0 w0 w' ∧ R v w') ∨ ∃ ch, e = .panicked ch ∧ Agree M0 w0 w' ∧ X ch w') e a w := by
  cases e <;> simp only [bodyPost] at h ⊢ <;> first | exact h | skip
  · exact ⟨h.1, h.2.choose, h.2.choose_spec.1, .inl h.2.choose_spec.2⟩
  · exact ⟨h.1, h.2.choose, h.2.choose_spec.1, .inl h.2.choose_spec.2⟩
  · exact ⟨h.1, .inl h.2⟩
  · exact .inl h
theorem endX {ch : List PanicEntry} (S : St w0 M0 [] a w l bs fs) (h : X ch w) :
    bodyPost P fn (fun e w' => (∃ v, e = .returned v ∧ Agree M0 w0 w' ∧ R v w') ∨ ∃ ch, e = .panicked ch ∧ Agree M0 w0 w' ∧ X ch w') (.panic ch) a w :=
  ⟨S.defers, .inr ⟨ch, rfl, S.wd.agree, h⟩⟩

/-! a function that defers one call -/
theorem enterD {f : Nat} {fn : Func} {c : Code} {args : List Value} {l : List Value} {R : Ending → World → Prop} {M0 : Nat → Prop} {bs : List Item} {fs : List (World → Prop)}
    (hf : P.funcs[f]? = some fn) (hb : fn.body = some c) (hl : args ++ List.replicate (fn.ntmps - args.length) undef = l) (hw : Wd w M0 w bs fs)
    (h : ∀ a, St w M0 [] a w l bs fs → Wp P none c (bodyPostDIn (FW none) 0 P fn R) a w) : Calls P f args.toArray w R := by
  refine (callsIn_wide (n := 0)).1 (callsIn_of_wp_defers (F := FW none) (n := 0) hf hb trivial (h _ ⟨?_, rfl, hw⟩))
  simp [← hl]
theorem sdef {fi ca : List Value} {l' : List Value} [hx : Ev ⟨[], l⟩ x (.func (.func f) ⟨fi⟩ ⟨ca⟩)] [hp : PutO l d undef l'] (S : St w0 M0 ds a w l bs fs)
    (K : ∀ a, St w0 M0 ({ target := .fn (.func f) ⟨ca⟩, args := ⟨fi⟩ } :: ds) a w l' bs fs → WL P none ops Q rest a w) :
    WL P none ops Q (⟨d, .defer { callee := .value x, args := #[], argTypes := ts }, ty, pos, af, none⟩ :: rest) a w := by
  refine wl_plain rfl ?_
  have hf : a.eval x = .func (.func f) ⟨fi⟩ ⟨ca⟩ := S.fr.ev
  rw [Oper.semAt_none]
  have : (execOp a.eval ⟨d, .defer { callee := .value x, args := #[], argTypes := ts }, ty, pos, af, none⟩).run P w = .ok (.defer { target := .fn (.func f) ⟨ca⟩, args := ⟨fi⟩ }) w := by
    simp [execOp, resolve, hf, Deferred.ofValue]
  rw [this]
  obtain ⟨t, dd⟩ := a
  have := S.slots; simp at this; subst this
  have hd := S.defers; simp at hd; subst hd
  show WL P none ops Q rest _ w
  rw [hp.eq]
  exact K _ ⟨rfl, rfl, S.wd⟩
/-- its end, by whatever way: the deferred call is run. -/
theorem leaveRet {g : Nat} {ca : List Value} {K : World → Prop} {Rr : Ending → World → Prop} [he : EntF P g] (hd : a.defers = [{ target := .fn (.func g) ⟨ca⟩, args := #[] }])
    (hc : CallsDIn (FW none) 0 P g ca.toArray .returning w fun e u' w' => (∃ v, e = .returned v) ∧ u' = .returning ∧ K w')
    (hk : ∀ w', K w' → ∃ v, (results fn a.tmps).run P w' = .ok v w' ∧ Rr (.returned v) w') (hx : e = .ret ∨ e = .normal := by simp) : bodyPostDIn (FW none) 0 P fn Rr e a w := by
  have key : LeavesIn (FW none) 0 P fn a.tmps Rr a.defers .returning w := by
    rw [hd]
    refine leavesIn_cons (f := g) (args := ca.toArray) (by simp) (fun h => by cases h) ?_ (fun _ _ => trivial) (hc.mono ?_)
    · have := he.run ca.toArray w
      simpa [invoke] using this
    · rintro e u' w' ⟨⟨v, rfl⟩, rfl, hK⟩
      obtain ⟨v, h1, h2⟩ := hk w' hK
      exact ⟨v, h1, h2⟩
  rcases hx with rfl | rfl <;> exact key
theorem leavePan {g : Nat} {ca : List Value} {pv : Value} {K : World → Prop} {Rr : Ending → World → Prop} [he : EntF P g] (hd : a.defers = [{ target := .fn (.func g) ⟨ca⟩, args := #[] }])
    (hc : CallsDIn (FW none) 0 P g ca.toArray (.panicking (pch pv)) w fun e u' w' => (∃ v, e = .returned v) ∧ u' = .panicking [{ v := pv, recovered := true }] ∧ K w')
    (hk : ∀ w', K w' → ∃ v, (results fn a.tmps).run P w' = .ok v w' ∧ Rr (.returned v) w') : bodyPostDIn (FW none) 0 P fn Rr (.panic (pch pv)) a w := by
  show LeavesIn (FW none) 0 P fn a.tmps Rr a.defers (.panicking (pch pv)) w
  rw [hd]
  refine leavesIn_cons (f := g) (args := ca.toArray) (by simp) (fun h => by cases h) ?_ (fun _ _ => trivial) (hc.mono ?_)
  · have := he.run ca.toArray w
    simpa [invoke] using this
  · rintro e u' w' ⟨⟨v, rfl⟩, rfl, hK⟩
    obtain ⟨v, h1, h2⟩ := hk w' hK
    exact ⟨v, h1, h2⟩
/-- a deferred function that begins with recover. -/
theorem callsD_catch {f : Nat} {fn : Func} {rest : Code} {id t6 t3 : Nat} {ty0 ty1 : TypeId} {pos0 pos1 : String} {af0 af1 : Array Edge} {args l : List Value} {l1 l2 : Value → List Value} {u : FrameMode} {w0 : World} {M0 : Nat → Prop} {bs : List Item} {fs : List (World → Prop)} {Rr : Ending → FrameMode → World → Prop}
    (hf : P.funcs[f]? = some fn) (hb : fn.body = some (.seq (.region id #[⟨some t6, .call { callee := .builtin .recover, args := #[], argTypes := #[] }, ty0, pos0, af0, none⟩, ⟨some t3, .assign (.tmp t6), ty1, pos1, af1, none⟩] false) rest))
    (hl : args ++ List.replicate (fn.ntmps - args.length) undef = l) (hw : Wd w0 M0 w bs fs) [hp1 : ∀ x, PutAt l t6 x (l1 x)] [hn1 : ∀ x, Nth (l1 x) t6 x] [hp2 : ∀ x, PutAt (l1 x) t3 x (l2 x)]
    (hu : u = .returning ∨ ∃ pv, u = .panicking (pch pv))
    (h : ∀ (x : Value) (u' : FrameMode), (u = .returning ∧ x = .nilIface ∧ u' = u ∨ ∃ pv, u = .panicking (pch pv) ∧ x = pv ∧ u' = .panicking [{ v := pv, recovered := true }]) →
      ∀ a, St w0 M0 [] a w (l2 x) bs fs → Wp P none rest (fun e a' w' => (e = .normal ∨ e = .ret) ∧ a'.defers = [] ∧ ∃ v, (results fn a'.tmps).run P w' = .ok v w' ∧ Rr (.returned v) u' w') a w) :
    CallsDIn (FW none) 0 P f args.toArray u w Rr := by
  have main : ∀ (c₀ : Frame) (cs : List Frame) (x : Value) (u' : FrameMode), c₀.mode = u →
      (u = .returning ∧ x = .nilIface ∧ u' = u ∨ ∃ pv, u = .panicking (pch pv) ∧ x = pv ∧ u' = .panicking [{ v := pv, recovered := true }]) →
      rest.wpSIn (FW none) 0 P (bodyPostS P fn c₀ cs Rr) ⟨(l2 x).toArray, []⟩ ({ c₀ with mode := u' } :: cs) w := by
    intro c₀ cs x u' _ hx
    refine wpSIn_of_wpIn rfl (wpIn_mono (h x u' hx ⟨(l2 x).toArray, []⟩ ⟨rfl, rfl, hw⟩) fun e a' w' hq => ?_)
    obtain ⟨he, hd, v, h1, h2⟩ := hq
    rcases he with rfl | rfl <;> exact ⟨hd, u', rfl, v, h1, h2⟩
  refine callsDIn_of_wpSIn hf hb trivial fun c₀ cs hc₀ => wpSIn_seq (wpSIn_region ?_)
  have hl' : args.toArray ++ Array.replicate (fn.ntmps - args.toArray.size) undef = l.toArray := by rw [← hl]; simp
  rw [hl']
  have step : ∀ x, ((⟨l.toArray, []⟩ : Act).put (some t6) x).put (some t3) (((⟨l.toArray, []⟩ : Act).put (some t6) x).eval (.tmp t6)) = ⟨(l2 x).toArray, []⟩ := fun x => by
    have e1 : (⟨l.toArray, []⟩ : Act).put (some t6) x = ⟨(l1 x).toArray, []⟩ := (puto1 (l := l) (l' := l1 x) (v := x) (n := t6)).eq []
    have e2 : (⟨(l1 x).toArray, []⟩ : Act).eval (.tmp t6) = x := by
      have := (hn1 x).eq
      simp [Act.eval, Array.getD_eq_getD_getElem?, this]
    rw [e1, e2]
    exact (puto1 (l := l1 x) (l' := l2 x) (v := x) (n := t3)).eq []
  have hr0 : ∀ (a : Act), (execOp a.eval ⟨some t6, .call { callee := .builtin .recover, args := #[], argTypes := #[] }, ty0, pos0, af0, none⟩).run P w = .ok .recover w := fun a => by
    simp [execOp, resolve, invoke, builtin]
  have hr1 : ∀ (a : Act), (execOp a.eval ⟨some t3, .assign (.tmp t6), ty1, pos1, af1, none⟩).run P w = .ok (.value (a.eval (.tmp t6))) w := fun a => by
    simp [execOp]
  have hcs : ({ c₀ with mode := u } : Frame) = c₀ := by subst hc₀; rfl
  rw [show List.range (#[(⟨some t6, .call { callee := .builtin .recover, args := #[], argTypes := #[] }, ty0, pos0, af0, none⟩ : Oper), ⟨some t3, .assign (.tmp t6), ty1, pos1, af1, none⟩] : Array Oper).size = [0, 1] from rfl]
  simp only [wpOpsSIn, List.getElem?_toArray, List.getElem?_cons_zero, List.getElem?_cons_succ, hr0, hr1]
  refine ⟨fun _ _ => trivial, ?_⟩
  rw [if_pos (by rfl)]
  rcases hu with rfl | ⟨pv, rfl⟩
  · have : recoverD (c₀ :: cs) = none := by simp [recoverD, hc₀]
    rw [this]
    refine ⟨fun _ _ => trivial, ?_⟩
    rw [if_pos (by rfl)]
    have hm := main c₀ cs .nilIface .returning hc₀ (.inl ⟨rfl, rfl, rfl⟩)
    rw [hcs] at hm
    rw [← step] at hm
    exact hm
  · have : recoverD (c₀ :: cs) = some (pv, { c₀ with mode := .panicking [{ v := pv, recovered := true }] } :: cs) := by simp [recoverD, hc₀, pch]
    rw [this]
    refine ⟨fun _ _ => trivial, ?_⟩
    rw [if_pos (by rfl)]
    have hm := main c₀ cs pv _ hc₀ (.inr ⟨pv, rfl, rfl, rfl⟩)
    rw [← step] at hm
    exact hm
end

/-- such a function's result. -/
theorem resC {P : Program} {fn : Func} {w0 : World} {M0 : Nat → Prop} {a : Act} {w : World} {l : List Value} {bs : List Item} {fs : List (World → Prop)} [hr : FnRes fn []] (S : St w0 M0 [] a w l bs fs) : (results fn a.tmps).run P w = .ok (.tuple #[]) w := by
  rw [S.slots, results_eq (rs := [])]; simp
theorem res3 {P : Program} {fn : Func} {t : Array Value} {w : World} {l : List Value} {bs : List Item} {r1 r2 r3 : ResultVar} {v1 v2 v3 : Value} [hr : FnRes fn [r1, r2, r3]] (hs : t = l.toArray) [h1 : ResV P l bs r1 v1] [h2 : ResV P l bs r2 v2] [h3 : ResV P l bs r3 v3] (hh : ∀ it ∈ bs, it.holds w) : (results fn t).run P w = .ok (.tuple ⟨[v1, v2, v3]⟩) w := by
  rw [hs, results_eq (rs := [r1, r2, r3])]
  simp [run_res (P := P) (l := l) (bs := bs) (rv := r1) (v := v1) w hh, run_res (P := P) (l := l) (bs := bs) (rv := r2) (v := v2) w hh, run_res (P := P) (l := l) (bs := bs) (rv := r3) (v := v3) w hh]

/-! regions that draw their order, and may panic on the way -/
structure XP where
  keep : List (Nat × Value)
  dss : List Deferred
  XW : List PanicEntry → World → Prop
def XP.at (x : XP) : Exit → Act → World → Prop
  | .panic ch, a, w => (∀ p ∈ x.keep, a.tmps[p.1]? = some p.2) ∧ a.defers = x.dss ∧ x.XW ch w
  | _, _, _ => False
/-- what is kept is not written. -/
def XP.off (x : XP) (o : Oper) : Prop := ∀ p ∈ x.keep, o.dst ≠ some p.1
theorem XP.put {x : XP} {o : Oper} (h : x.off o) {ch : List PanicEntry} {a : Act} {v : Value} {w : World} (hp : x.at (.panic ch) (a.put o.dst v) w) : x.at (.panic ch) a w := by
  obtain ⟨h1, h2, h3⟩ := hp
  refine ⟨fun p hpk => ?_, ?_, h3⟩
  · have h1 := h1 p hpk
    have h0 := h p hpk
    cases hd : o.dst with
    | none => rw [hd] at h1; exact h1
    | some n =>
      rw [hd] at h1
      have hne : n ≠ p.1 := fun e => h0 (by rw [hd, e])
      simpa [Act.put, Array.getElem?_setIfInBounds, hne] using h1
  · cases hd : o.dst <;> rw [hd] at h2 <;> exact h2
section
variable {P : Program} {ops : Array Oper} {C : World → Prop} {X : XP}
abbrev WNX (P : Program) (ops : Array Oper) (X : XP) (i : Nat) (K : Act → World → Prop) (a : Act) (w : World) : Prop := wpOpIn (FW none) 0 P ops X.at i K a w
theorem YieldsC.wnx {i : Nat} {o : Oper} {v : Value} {a : Act} (hi : ops[i]? = some o) (hy : YieldsC P ops C o v a)
    {K : Act → World → Prop} {w : World} (hC : C w) (h : K (a.put o.dst v) w) : WNX P ops X i K a w := by
  unfold WNX wpOpIn
  simp only [hi]
  rcases hy with ⟨hw, hv⟩ | ⟨hw, rfl⟩
  · simp only [hw, if_true, Oper.wpIn, Oper.semAt_none, hv w hC, Oper.uponIn]; exact ⟨fun _ _ => trivial, h⟩
  · simp only [hw, Bool.false_eq_true, if_false]; exact ⟨fun _ _ => trivial, h⟩
theorem wnx_put {j : Nat} {oi oj : Oper} {v : Value} (hj : ops[j]? = some oj) (hap : oi.apart ops oj = true) (hoff : X.off oi)
    (hsi : ∀ cs b, oi.op ≠ .select cs b) (hsj : ∀ cs b, oj.op ≠ .select cs b) {K : Act → World → Prop} {a : Act} {w : World}
    (hy : YieldsC P ops C oi v a) (h : WNX P ops X j K (a.put oi.dst v) w) :
    WNX P ops X j (fun a' w' => YieldsC P ops C oi v a' ∧ K (a'.put oi.dst v) w') a w := by
  obtain ⟨h1, h2, h3⟩ := Oper.apart_spec hap
  have keep : ∀ (a : Act), YieldsC P ops C oi v a → ∀ u, YieldsC P ops C oi v (a.put oj.dst u) := fun a hy u =>
    hy.of_same (execOp_put oi hsi a oj.dst u h3) (wanted_put oi a oj.dst u h3)
  have keepD : ∀ d, YieldsC P ops C oi v { a with defers := d :: a.defers } := fun d => hy.of_same rfl rfl
  have lets : LetsOut X.at → LetsOut X.at := id
  unfold WNX wpOpIn at *
  simp only [hj] at *
  rw [wanted_put oj a oi.dst v h1] at h
  split
  · rename_i hw
    simp only [hw, if_true] at h
    unfold Oper.wpIn at *
    refine ⟨fun _ _ => trivial, ?_⟩
    have h := h.2
    rw [Oper.semAt_none, execOp_put oj hsj a oi.dst v h1] at h
    rw [Oper.semAt_none]
    generalize (execOp a.eval oj).run P w = r at *
    cases r with
    | ok x w' =>
      cases x <;> simp only [Oper.uponIn] at h ⊢
      case value u => exact ⟨keep a hy u, by rw [← Act.put_comm a v u h2]; exact h⟩
      case skip => exact ⟨keep a hy _, by rw [← Act.put_comm a v undef h2]; exact h⟩
      case defer d =>
        refine ⟨keep _ (keepD d) _, ?_⟩
        rw [← Act.put_comm _ v undef h2, ← Act.put_defers]
        exact h
      case enter f args =>
        refine ⟨h.1, CallsIn.mono h.2 fun e w'' he => ?_⟩
        cases e with
        | returned u => exact ⟨keep a hy u, by rw [← Act.put_comm a v u h2]; exact he⟩
        | panicked c => exact XP.put hoff he
        | outgrown => exact he
      case row row args => exact ⟨h.1, RowsIn.mono h.2 fun u w'' he => ⟨keep a hy u, by rw [← Act.put_comm a v u h2]; exact he⟩⟩
      case round l f tmps assign body =>
        refine ⟨h.1, RoundIn.mono h.2 fun e w'' he => ?_⟩
        cases e with
        | returned u => exact ⟨keep a hy u, by rw [← Act.put_comm a v u h2]; exact he⟩
        | panicked c => exact XP.put hoff he
        | outgrown => exact he
    | halt x w' =>
      cases x <;> simp only [Oper.uponIn] at h ⊢
      case panic u => exact XP.put hoff h
  · rename_i hw
    simp only [hw] at h
    exact ⟨fun _ _ => trivial, keep a hy _, by rw [← Act.put_comm a v undef h2]; exact h.2⟩
def ACX (P : Program) (ops : Array Oper) (X : XP) (C : World → Prop) (R : Act → World → Prop) : Nat → Array Bool → Act → World → Prop
  | 0, listed, a, w => Region.ready .any ops listed = [] ∧ R a w
  | fuel + 1, listed, a, w =>
    (Region.ready .any ops listed = [] → R a w) ∧
    ∀ i ∈ Region.ready .any ops listed, WNX P ops X i (fun a' w' => C w' ∧ ACX P ops X C R fuel (listed.setIfInBounds i true) a' w') a w
variable {R : Act → World → Prop}
theorem acx_first {i : Nat} {oi : Oper} {v : Value} (hi : ops[i]? = some oi) (hoff : X.off oi) (hsel : ∀ (j : Nat) (o : Oper) cs b, ops[j]? = some o → o.op ≠ .select cs b) :
    ∀ (fuel : Nat) (listed : Array Bool) (a : Act) (w : World),
      (∀ j oj, ops[j]? = some oj → j ≠ i → listed.getD j true = false → (∀ e ∈ oj.after, Region.binds .any e = true → e.on ≠ i) → oi.apart ops oj = true) →
      i ∈ Region.ready .any ops listed → YieldsC P ops C oi v a → C w →
      ACX P ops X C R fuel (listed.setIfInBounds i true) (a.put oi.dst v) w → ACX P ops X C R (fuel + 1) listed a w := by
  intro fuel
  induction fuel with
  | zero =>
    intro listed a w _ hr hy hS H
    refine ⟨fun h => (by rw [h] at hr; cases hr), fun j hj => ?_⟩
    by_cases hji : j = i
    · subst hji; exact hy.wnx hi hS ⟨hS, H⟩
    · have := ready_mono hj hji
      rw [H.1] at this
      cases this
  | succ fuel ih =>
    intro listed a w hfree hr hy hS H
    refine ⟨fun h => (by rw [h] at hr; cases hr), fun j hj => ?_⟩
    by_cases hji : j = i
    · subst hji; exact hy.wnx hi hS ⟨hS, H⟩
    · have h1 := H.2 j (ready_mono hj hji)
      obtain ⟨hjun, oj, hoj, hall⟩ := mem_ready.1 hj
      have hnot : ∀ e ∈ oj.after, Region.binds .any e = true → e.on ≠ i := fun e he hb heq => by
        have h1 := hall e he hb
        have h0 := (mem_ready.1 hr).1
        rw [heq] at h1
        rcases Nat.lt_or_ge i listed.size with h' | h'
        · simp [h'] at h0 h1; rw [h0] at h1; cases h1
        · simp [Array.getElem?_eq_none h'] at h1
      have h2 := wnx_put hoj (hfree j oj hoj hji hjun hnot) hoff (fun cs b => hsel i oi cs b hi) (fun cs b => hsel j oj cs b hoj) hy h1
      have hfree' : ∀ k ok, ops[k]? = some ok → k ≠ i → (listed.setIfInBounds j true).getD k true = false →
          (∀ e ∈ ok.after, Region.binds .any e = true → e.on ≠ i) → oi.apart ops ok = true := fun k ok hk hki hun hno => by
        refine hfree k ok hk hki ?_ hno
        by_cases hjk : j = k
        · subst hjk; exact hjun
        · rw [getD_set_ne true hjk] at hun; exact hun
      refine wpOpIn_mono (fun a' w' h3 => ⟨h3.2.1, ih (listed.setIfInBounds j true) a' w' hfree' (ready_mono hr (Ne.symm hji)) h3.1 h3.2.1 ?_⟩) h2
      rw [Array.setIfInBounds_comm _ _ hji]
      exact h3.2.2
variable {r : Option Nat} {Q : Exit → Act → World → Prop} {w0 : World} {M0 : Nat → Prop} {ds : List Deferred} {a : Act} {w : World} {l l' : List Value} {bs bs' bs0 : List Item} {fs fs0 : List (World → Prop)}
  {d : Option Nat} {op : Op} {ty : TypeId} {pos : String} {af : Array Edge} {rest : List Oper} {v v' G : Value} {j g : Nat} {pol : Bool} {cs : List Bool} {n : Nat} {listed : Array Bool}
def XP.offB (x : XP) (ops : Array Oper) : Bool := ops.toList.all fun o => x.keep.all fun p => match o.dst with | some n => !Nat.beq n p.1 | none => true
theorem XP.offB_spec {x : XP} {ops : Array Oper} (h : x.offB ops = true) {i : Nat} {o : Oper} (hi : ops[i]? = some o) : x.off o := by
  intro p hp e
  have h1 := List.all_eq_true.1 (List.all_eq_true.1 h o (by rw [← Array.getElem?_toList] at hi; exact List.mem_of_getElem? hi)) p hp
  rw [e] at h1
  simp at h1
/-- the region in one order that stands for all. -/
def AQX (P : Program) (ops : Array Oper) (X : XP) (C : World → Prop) (R : Act → World → Prop) (ord : List (Nat × Bool)) (a : Act) (w : World) : Prop :=
  ∀ listed, Region.noSelect ops = true → X.offB ops = true → flowFrom ops ord listed = true → ACX P ops X C R ord.length listed a w
variable {ord : List (Nat × Bool)} {i : Nat}
theorem dqX (S : St w0 M0 ds a w l bs fs) [hb : SubL bs0 bs] [hf : SubL fs0 fs] [ho : OpAt ops i ⟨d, op, ty, pos, af, none⟩] [hq : OpQ P op ty ⟨[], l⟩ bs0 fs0 v] [hp : PutO l d v l']
    (K : ∀ a, St w0 M0 ds a w l' bs fs → AQX P ops X (fun w => Wd w0 M0 w bs0 fs0) R ord a w) :
    AQX P ops X (fun w => Wd w0 M0 w bs0 fs0) R ((i, true) :: ord) a w := by
  intro listed hs hx hflow
  simp only [flowFrom, Bool.and_eq_true] at hflow
  refine acx_first ho.eq (XP.offB_spec hx ho.eq) (Region.noSelect_spec hs) _ listed a w (Region.free_spec ho.eq hflow.1.2) (by simpa using hflow.1.1) (v := v) (.inl ⟨rfl, fun w' hw' => ?_⟩) (S.wd.sub hb.sub hf.sub) (K _ S.put _ hs hx hflow.2)
  rw [execOp_eq]
  exact hq.run a.eval w' S.fr hw'.mem
theorem dqGX (S : St w0 M0 ds a w l bs fs) [hb : SubL bs0 bs] [hf : SubL fs0 fs] [ho : OpAt ops i ⟨d, op, ty, pos, af, some (j, pol)⟩] [hg : GSlot ops j g] [hn : Nth l g G] [hc : Conds G pol cs] [hq : OpQ P op ty ⟨cs, l⟩ bs0 fs0 v] [hv : GifV cs v v'] [hp : PutO l d v' l']
    (K : ∀ a, St w0 M0 ds a w l' bs fs → AQX P ops X (fun w => Wd w0 M0 w bs0 fs0) R ord a w) :
    AQX P ops X (fun w => Wd w0 M0 w bs0 fs0) R ((i, true) :: ord) a w := by
  intro listed hs hx hflow
  simp only [flowFrom, Bool.and_eq_true] at hflow
  have hw := wanted_iff (ops := ops) (d := d) (op := op) (ty := ty) (pos := pos) (af := af) (pol := pol) S hg.eq
  refine acx_first ho.eq (XP.offB_spec hx ho.eq) (Region.noSelect_spec hs) _ listed a w (Region.free_spec ho.eq hflow.1.2) (by simpa using hflow.1.1) (v := v') ?_ (S.wd.sub hb.sub hf.sub) (K _ S.put _ hs hx hflow.2)
  by_cases hall : ∀ c ∈ cs, c = true
  · refine .inl ⟨hw.2 hall, fun w' hw' => ?_⟩
    rw [execOp_eq, hv.eq, if_pos hall]
    exact hq.run a.eval w' (S.frc hall) hw'.mem
  · exact .inr ⟨by
      cases hx : Region.wanted _ (yielded ops a.tmps) with
      | true => exact absurd (hw.1 hx) hall
      | false => rfl, by rw [hv.eq, if_neg hall]⟩
/-- the one operation that may come up; it may panic. -/
theorem dlX {o : Oper} {C : World → Prop} [ho : OpAt ops i o] (h : WL P none ops (fun e a' w' => (e = .normal ∧ C w' ∧ AQX P ops X C R ord a' w') ∨ X.at e a' w') [o] a w) : AQX P ops X C R ((i, false) :: ord) a w := by
  intro listed hs hx hflow
  simp only [flowFrom, Bool.and_eq_true] at hflow
  have hr : Region.ready .any ops listed = [i] := by
    have := hflow.1
    split at this
    · rename_i k hk; rw [hk, Nat.eq_of_beq_eq_true this]
    · cases this
  refine ⟨fun h0 => (by rw [h0] at hr; cases hr), fun k hk => ?_⟩
  rw [hr] at hk
  obtain rfl : k = i := by simpa using hk
  have nor : ∀ {p : Prop} {a' : Act} {w' : World}, ((p ∧ C w' ∧ AQX P ops X C R ord a' w') ∨ X.at .normal a' w') → C w' ∧ ACX P ops X C R ord.length (listed.setIfInBounds k true) a' w' := by
    rintro p a' w' (⟨-, h1, h2⟩ | h)
    · exact ⟨h1, h2 _ hs hx hflow.2⟩
    · exact h.elim
  have pan : ∀ {c : List PanicEntry} {a' : Act} {w' : World}, ((Exit.panic c = Exit.normal ∧ C w' ∧ AQX P ops X C R ord a' w') ∨ X.at (.panic c) a' w') → X.at (.panic c) a' w' := by
    rintro c a' w' (⟨h, -⟩ | h)
    · cases h
    · exact h
  unfold WNX wpOpIn
  simp only [ho.eq]
  simp only [WL, wpListIn] at h
  split
  · rename_i hw
    rw [if_pos hw] at h
    refine ⟨fun _ _ => trivial, ?_⟩
    have h := h.2
    generalize (o.semAt (FW none).round a.eval).run P w = q at *
    cases q with
    | ok x w' =>
      cases x <;> simp only [Oper.uponIn] at h ⊢
      case value u => exact nor h
      case skip => exact nor h
      case defer d => exact nor h
      case enter f args =>
        refine ⟨h.1, CallsIn.mono h.2 fun e w'' he => ?_⟩
        cases e with
        | returned u => simp only [true_and] at he; exact nor (p := True) (by simpa using he)
        | panicked c => exact pan he
        | outgrown => obtain ⟨_, _, he⟩ := he; rcases he with ⟨he, _⟩ | he <;> first | cases he | exact he.elim
      case row row args => exact ⟨h.1, RowsIn.mono h.2 fun u w'' he => nor he⟩
      case round l f tmps assign body =>
        refine ⟨h.1, RoundIn.mono h.2 fun e w'' he => ?_⟩
        cases e with
        | returned u => simp only [true_and] at he; exact nor (p := True) (by simpa using he)
        | panicked c => exact pan he
        | outgrown => obtain ⟨_, _, he⟩ := he; rcases he with ⟨he, _⟩ | he <;> first | cases he | exact he.elim
    | halt x w' =>
      cases x <;> simp only [Oper.uponIn] at h ⊢
      case panic u => exact pan h
  · rename_i hw
    rw [if_neg hw] at h
    exact ⟨fun _ _ => trivial, nor h.2⟩
theorem deX [hb : SubL bs0 bs] [hf : SubL fs0 fs] (S : St w0 M0 ds a w l bs fs) (h : AQX P ops X (fun w => Wd w0 M0 w bs0 fs0) R ord a w) : WL P none ops (fun e a' w' => (e = .normal ∧ Wd w0 M0 w' bs0 fs0 ∧ AQX P ops X (fun w => Wd w0 M0 w bs0 fs0) R ord a' w') ∨ X.at e a' w') [] a w :=
  wl_nil (.inl ⟨rfl, S.wd.sub hb.sub hf.sub, h⟩)
theorem dnX {C : World → Prop} (h : R a w) : AQX P ops X C R [] a w := by
  intro listed hs _ hflow
  have hr : Region.ready .any ops listed = [] := by simpa [flowFrom] using hflow
  exact ⟨hr, h⟩
/-- the panic, as the region's law wants it. -/
theorem XP.of {ch : List PanicEntry} {K : Prop} (S : St w0 M0 ds a w l bs fs) (hk : ∀ p ∈ X.keep, l[p.1]? = some p.2) (hd : ds = X.dss) (h : X.XW ch w) : K ∨ X.at (.panic ch) a w :=
  .inr ⟨fun p hp => by rw [S.slots]; simpa using hk p hp, by rw [S.defers, hd], h⟩
theorem wnx_round {i : Nat} {K : Act → World → Prop} (hQ : ∀ ch a w, X.at (.panic ch) a w → Q (.panic ch) a w) (hd : ∀ (i : Nat) o, ops[i]? = some o → isDefer o.op = false) (h : WNX P ops X i K a w) : wpOpIn (FW r) 0 P ops Q i K a w := by
  unfold WNX wpOpIn at *
  cases ho : ops[i]? with
  | none => simp only [ho] at h ⊢; exact h
  | some o =>
    simp only [ho] at h ⊢
    split
    · rename_i hw
      rw [if_pos hw] at h
      refine ⟨fun _ _ => trivial, ?_⟩
      have h := h.2
      rw [show (FW none).round = none from rfl] at h
      rw [show (FW r).round = r from rfl, semAt_any (hd i o ho)]
      generalize (o.semAt none a.eval).run P w = q at *
      cases q with
      | ok x w' =>
        cases x <;> simp only [Oper.uponIn] at h ⊢ <;> first | exact h | skip
        case enter f args =>
          refine ⟨fun h => (by cases h), trivial, fun cs _ => ?_⟩
          obtain ⟨e, w', fr, hR, hcm, h1, h2⟩ := h.2.2 cs (room_wide _)
          refine ⟨e, w', fr, ?_, hcm, h1, h2⟩
          cases e with
          | returned v => exact hR
          | panicked c => exact hQ _ _ _ hR
          | outgrown => obtain ⟨_, _, hR⟩ := hR; exact hR.elim
        case round l f tmps assign body =>
          refine ⟨fun h => (by cases h), trivial, fun c cs _ => ?_⟩
          obtain ⟨e, w', hR, hcm⟩ := h.2.2 c cs (room_wide _)
          refine ⟨e, w', ?_, hcm⟩
          cases e with
          | returned v => exact hR
          | panicked c => exact hQ _ _ _ hR
          | outgrown => obtain ⟨_, _, hR⟩ := hR; exact hR.elim
      | halt x w' =>
        cases x <;> simp only [Oper.uponIn] at h ⊢
        case panic u => exact hQ _ _ _ h
    · rename_i hw
      rw [if_neg hw] at h
      exact ⟨fun _ _ => trivial, h.2⟩
theorem any_of_acx (hQ : ∀ ch a w, X.at (.panic ch) a w → Q (.panic ch) a w) (hd : ∀ (i : Nat) o, ops[i]? = some o → isDefer o.op = false) : ∀ (fuel : Nat) (listed : Array Bool) (a : Act) (w : World), ACX P ops X C (fun a w => Q .normal a w) fuel listed a w → wpAnyIn (FW r) 0 P .any ops Q fuel listed a w
  | 0, _, _, _, h => h
  | fuel + 1, _, _, _, h => ⟨h.1, fun i hi => wnx_round hQ hd (wpOpIn_mono (fun a' w' h' => any_of_acx hQ hd fuel _ a' w' h'.2) (h.2 i hi))⟩
/-- a region that draws its order, and may panic. -/
theorem c_drawX {id : Nat} {lo : List Oper} (ord : List (Nat × Bool)) (ids : List Nat) [DropBs bs ids bs0] (X : XP) (S : St w0 M0 ds a w l bs fs) (hQ : ∀ ch a w, X.at (.panic ch) a w → Q (.panic ch) a w)
    (h : ∀ w, St w0 M0 ds a w l bs fs → AQX P lo.toArray X (fun w => Wd w0 M0 w bs0 fs) (fun a w => Q .normal a w) ord a w)
    (hm : P.follows .mixedOrders = true := by kernel_rfl) (hx : X.offB lo.toArray = true := by kernel_rfl) (hd : ((lo.all fun o => !isDefer o.op) && (Nat.beq ord.length lo.length && (Region.noSelect lo.toArray && flowFrom lo.toArray ord (Array.replicate lo.length false)))) = true := by kernel_rfl) : Wp P r (.region id lo.toArray true) Q a w := by
  simp only [Bool.and_eq_true] at hd
  refine wpIn_region_any hm (any_of_acx (C := fun w => Wd w0 M0 w bs0 fs) hQ (fun i o ho => ?_) _ _ _ _ ?_)
  · have := List.all_eq_true.1 hd.1 o (by
      rw [List.getElem?_toArray] at ho
      exact List.mem_of_getElem? ho)
    simpa using this
  · have := h { w with drawn := w.drawn + 1 } ⟨S.slots, S.defers, S.wd.step (Agree.drawn _ w _)⟩ _ hd.2.2.1 hx hd.2.2.2
    rw [Nat.eq_of_beq_eq_true hd.2.1] at this
    simpa using this
end
end Go.Wk

namespace Go.Wk
open Go

/-! going over a string -/
theorem decode_lo (s : ByteArray) (i : Nat) (h : (s.get! i).toNat < 128) : Utf8.decode s i = ((s.get! i).toNat, 1) := by
  unfold Utf8.decode
  simp only [Nat.add_zero]
  rw [if_pos h]
theorem decode_hi (s : ByteArray) (i : Nat) (h : ¬ (s.get! i).toNat < 128) : 128 ≤ (Utf8.decode s i).1 ∧ 1 ≤ (Utf8.decode s i).2 := by
  unfold Utf8.decode
  simp only [Nat.add_zero]
  rw [if_neg h]
  repeat' split
  all_goals (try simp only [Bool.and_eq_true, decide_eq_true_eq, ge_iff_le] at *)
  all_goals (constructor <;> first | omega | (simp only [Utf8.runeError]; omega))
/-- a string, and the going over it: where it stands. -/
def sti (r : Nat) (s : List UInt8) (i : Nat) : Item where
  foot := fun k => k = r
  holds := fun w => w.heap[r]? = some (.stringIter ⟨s.toArray⟩ i)
theorem sti_loc (r : Nat) (s : List UInt8) (i : Nat) (w1 w2 : World) (h : ∀ k, (sti r s i).foot k → w2.heap[k]? = w1.heap[k]?) (h1 : (sti r s i).holds w1) : (sti r s i).holds w2 := (h r rfl).trans h1
class HasSti (bs : List Item) (r : Nat) (s : outParam (List UInt8)) (i : outParam Nat) : Prop where mem : sti r s i ∈ bs
instance hsti0 {r : Nat} {s : List UInt8} {i : Nat} {bs : List Item} : HasSti (sti r s i :: bs) r s i := ⟨List.mem_cons_self ..⟩
instance (priority := 900) hsti1 {r : Nat} {s : List UInt8} {i : Nat} {x : Item} {bs : List Item} [h : HasSti bs r s i] : HasSti (x :: bs) r s i := ⟨List.mem_cons_of_mem _ h.mem⟩
section
variable {P : Program} {r0 : Option Nat} {ops : Array Oper} {Q : Exit → Act → World → Prop} {w0 : World} {M0 : Nat → Prop} {ds : List Deferred} {a : Act} {w : World} {l : List Value} {bs : List Item} {fs : List (World → Prop)}
  {d : Option Nat} {op : Op} {ty : TypeId} {pos : String} {af : Array Edge} {rest : List Oper} {t kt et : TypeId} {x : Operand} {b r i : Nat} {s : List UInt8}
/-- a range over a string is begun. -/
theorem sstr0 {l' : Nat → List Value} (S : St w0 M0 ds a w l bs fs) [Ev ⟨[], l⟩ x (str s)] [ht : Und P t .string] [hp : ∀ r, PutO l d (.pointer (some ⟨r, 0, none⟩)) (l' r)]
    (K : ∀ r a w, St w0 M0 ds a w (l' r) (sti r s 0 :: bs) fs → WL P r0 ops Q rest a w) : WL P r0 ops Q (⟨d, .range t x, ty, pos, af, none⟩ :: rest) a w := by
  refine wl_plain rfl ?_
  rw [semAt_nd rfl]
  have e1 : (xop a.eval (.range t x) ty).run P w = .ok (.value (.pointer (some ⟨w.heap.size, 0, none⟩))) (w.alloc (.stringIter ⟨s.toArray⟩ 0)) := by
    have h2 : (Instr.range t (str s)).run P w = .ok (.pointer (some ⟨w.heap.size, 0, none⟩)) (w.alloc (.stringIter ⟨s.toArray⟩ 0)) := by
      simp [Instr.range, str, Sem.run_bind, run_und, newObj, Sem.run]
    simp [xop, execOp, S.fr.ev (x := x) (v := str s), Sem.run_bind, h2]
  simp only [e1, Oper.uponIn]
  have := hp w.heap.size
  have S' := S.put (d := d) (v := .pointer (some ⟨w.heap.size, 0, none⟩))
  refine K _ _ _ ⟨S'.slots, S'.defers, (S.wd.step (Agree.alloc _ w _)).more (y := sti w.heap.size s 0) (heap_alloc_new w _) (fun k hk => by cases hk; exact S.wd.agree.size) (fun k hk => by cases hk; simp) (fun it hi k hk hk' => by cases hk; exact absurd (S.wd.lt it hi _ hk') (Nat.lt_irrefl _)) ?_ (sti_loc _ _ _)⟩
  intro Φ hΦ w' hw'
  refine S.wd.facts Φ hΦ w' ((Agree.alloc _ w _).trans' hw' fun i hi => ?_)
  rintro ⟨it, hm, hf⟩
  rcases List.mem_cons.1 hm with rfl | hm
  · cases hf; omega
  · exact ⟨it, hm, hf⟩
def nxS (more : Bool) (i c : Nat) : Value := bif more then .tuple ⟨[.bool true, .int .i64 (i : Int), .int .i32 (c : Int)]⟩ else .tuple ⟨[.bool false]⟩
instance (priority := 1100) opExtNxS {l : Cx} {more : Bool} {i c : Nat} [Ev l x (nxS more i c)] : OpQ P (.extract x 0) ty l bs fs (.bool more) := ⟨fun ρ w h _ => by
  cases more <;> simp [xop, execOp, h.ev (x := x) (v := nxS _ i c), nxS, Instr.extract]⟩
instance (priority := 1100) opExtNxS2 {l : Cx} {i c : Nat} [Ev l x (nxS true i c)] : OpQ P (.extract x 2) ty l bs fs (.int .i32 (c : Int)) := ⟨fun ρ w h _ => by
  simp [xop, execOp, h.ev (x := x) (v := nxS true i c), nxS, Instr.extract]⟩
/-- the next rune, or none is left. -/
theorem snxs {l' : Bool → Nat → List Value} {bs' : Nat → List Item} (S : St w0 M0 ds a w l bs fs) [Ev ⟨[], l⟩ x (.pointer (some ⟨r, 0, none⟩))] [hm : HasSti bs r s i] [hrep : ∀ j, ReplI bs (sti r s i) (sti r s j) (bs' j)] [hp : ∀ m c, PutO l d (nxS m i c) (l' m c)]
    (K : ∀ (more : Bool) (c wd : Nat) a w, (more = false → s.length ≤ i) → (more = true → i < s.length ∧ ((s.getD i 0).toNat < 128 → c = (s.getD i 0).toNat ∧ wd = 1) ∧ (¬ (s.getD i 0).toNat < 128 → 128 ≤ c)) → St w0 M0 ds a w (l' more c) (bs' (bif more then i + wd else i)) fs → WL P r0 ops Q rest a w) :
    WL P r0 ops Q (⟨d, .next x true, ty, pos, af, none⟩ :: rest) a w := by
  refine wl_plain rfl ?_
  rw [semAt_nd rfl]
  have hold : w.heap[r]? = some (.stringIter ⟨s.toArray⟩ i) := S.wd.held _ hm.mem
  have hx : a.eval x = .pointer (some ⟨r, 0, none⟩) := S.fr.ev
  have hlt : r < w.heap.size := (Array.getElem?_eq_some_iff.1 hold).1
  have hobj : (getObj r).run P w = .ok (.stringIter ⟨s.toArray⟩ i) w := by simp [getObj, Sem.run, hold]
  have hget : (⟨s.toArray⟩ : ByteArray).get! i = s.getD i 0 := by
    show s.toArray[i]! = _
    simp [List.getD_eq_getElem?_getD]
    rfl
  have hsz : (⟨s.toArray⟩ : ByteArray).size = s.length := by simp [ByteArray.size]
  by_cases hi : i < s.length
  · have e1 : (xop a.eval (.next x true) ty).run P w = .ok (.value (nxS true i (Utf8.decode ⟨s.toArray⟩ i).1)) (w.putObj r (.stringIter ⟨s.toArray⟩ (i + (Utf8.decode ⟨s.toArray⟩ i).2))) := by
      simp only [xop, execOp, hx, Instr.next, Sem.run_bind, hobj, Result.andThen, hsz, hi, if_true]
      simp [setObj, Sem.run, hold, World.putObj, nxS, goInt]
    simp only [e1, Oper.uponIn]
    have := hp true (Utf8.decode ⟨s.toArray⟩ i).1
    have S' := S.put (d := d) (v := nxS true i (Utf8.decode ⟨s.toArray⟩ i).1)
    refine K true _ _ _ _ (fun h => by cases h) (fun _ => ⟨hi, fun h => ?_, fun h => ?_⟩) (S.reput (x := sti r s i) (y := sti r s (i + (Utf8.decode ⟨s.toArray⟩ i).2)) S'.slots S'.defers (hr := hrep _) rfl (Agree.putObj w r _ rfl) (World.putObj_heap_same hlt) (fun k hk => .inl hk) (fun k hk => by cases hk; simpa using hlt) (sti_loc _ _ _))
    · rw [← hget] at h ⊢
      rw [decode_lo _ _ h]; exact ⟨rfl, rfl⟩
    · rw [← hget] at h
      exact (decode_hi _ _ h).1
  · have e1 : (xop a.eval (.next x true) ty).run P w = .ok (.value (nxS false i 0)) w := by
      simp only [xop, execOp, hx, Instr.next, Sem.run_bind, hobj, Result.andThen, hsz, hi, if_false]
      simp [nxS]
    simp only [e1, Oper.uponIn]
    have := hp false 0
    have S' := S.put (d := d) (v := nxS false i 0)
    have hr0 := hrep i
    obtain ⟨pre, post, rfl, hb⟩ := hr0.ex
    refine K false 0 0 _ _ (fun _ => by omega) (fun h => by cases h) ?_
    show St _ _ _ _ _ _ (bs' i) _
    rw [hb]
    exact S'
end
/-! values with methods, and none -/
instance opErrN {P : Program} {l : Cx} {bs : List Item} {fs : List (World → Prop)} {x : Operand} {t t' ty : TypeId} {b : Bool} {te : TypeId} {pe : Value} [Ev l x (errV b te pe)] [hi : IfT P t] : OpQ P (.binOp .neq t x (.const .nilIface) t') ty l bs fs (.bool (!b)) := ⟨fun ρ w h _ => by
  have e2 : ρ (.const .nilIface) = .nilIface := h.ev (x := .const .nilIface) (v := .nilIface)
  cases b <;> simp [xop, execOp, h.ev (x := x) (v := errV _ te pe), e2, errV, eqGuard, binOp, Sem.run_bind, run_equal_held_nil w t te pe hi.eq, run_equal_nil_nil w t hi.eq]⟩
instance opNilN {P : Program} {l : Cx} {bs : List Item} {fs : List (World → Prop)} {x : Operand} {t t' ty : TypeId} [Ev l x .nilIface] [hi : IfT P t] : OpQ P (.binOp .neq t x (.const .nilIface) t') ty l bs fs (.bool false) := ⟨fun ρ w h _ => by
  have e2 : ρ (.const .nilIface) = .nilIface := h.ev (x := .const .nilIface) (v := .nilIface)
  simp [xop, execOp, h.ev (x := x) (v := .nilIface), e2, eqGuard, binOp, Sem.run_bind, run_equal_nil_nil w t hi.eq]⟩
instance opIfN {P : Program} {l : Cx} {bs : List Item} {fs : List (World → Prop)} {x : Operand} {t t' ty : TypeId} {te : TypeId} {pe : Value} [Ev l x (.iface te pe)] [hi : IfT P t] : OpQ P (.binOp .neq t x (.const .nilIface) t') ty l bs fs (.bool true) := ⟨fun ρ w h _ => by
  have e2 : ρ (.const .nilIface) = .nilIface := h.ev (x := .const .nilIface) (v := .nilIface)
  simp [xop, execOp, h.ev (x := x) (v := .iface te pe), e2, eqGuard, binOp, Sem.run_bind, run_equal_held_nil w t te pe hi.eq]⟩
/-- a struct type. -/
class StT (P : Program) (t : TypeId) : Prop where ex : ∃ fs, P.underlying t = some (.struct fs)
instance opAssert {P : Program} {l : Cx} {bs : List Item} {fs : List (World → Prop)} {x : Operand} {tx t ty : TypeId} {pe : Value} [Ev l x (.iface t pe)] [hs : StT P t] : OpQ P (.typeAssert x tx t true) ty l bs fs (.tuple ⟨[pe, .bool true]⟩) := ⟨fun ρ w h _ => by
  obtain ⟨fs, hf⟩ := hs.ex
  simp [xop, execOp, h.ev (x := x) (v := .iface t pe), Instr.typeAssert, Sem.run_bind, run_underlying hf w]⟩
instance opMkIf {P : Program} {l : Cx} {bs : List Item} {fs : List (World → Prop)} {x : Operand} {t ty : TypeId} {v : Value} [Ev l x v] [hs : StT P t] : OpQ P (.makeInterface t x) ty l bs fs (.iface t v) := ⟨fun ρ w h _ => by
  obtain ⟨fs, hf⟩ := hs.ex
  simp [xop, execOp, h.ev (x := x) (v := v), Instr.makeInterface, Sem.run_bind, run_underlying hf w]⟩
/-! arrays -/
section
variable {P : Program} {ls : Cx} {bs : List Item} {fs : List (World → Prop)} {x y : Operand} {b off k n sz o o' : Nat} {kk : IntKind} {m : Int} {t ty e : TypeId} {z : Value} {by_ : Nat}
/-- an element of an array that stands in a variable. -/
instance (priority := 860) opIdxArr [Ev ls x (.pointer (some ⟨b, off, none⟩))] [Ev ls y (.int kk m)] [hm : IsNat m k] [ht : Und P t (.array n e)] [TI P e z sz by_] [hk : KLt k n] [ho : MulN k sz o] [ho' : AddN off o o'] :
    OpQ P (.indexAddr t x y) ty ls bs fs (.pointer (some ⟨b, o', none⟩)) := ⟨fun ρ w h mm => by
  have e1 := hm.eq
  subst e1
  have h1 : (k : Int) < n := by have := hk.lt; omega
  have e2 : (⟨b, off, none⟩ : Addr).add (k * sz) = ⟨b, o', none⟩ := by rw [ho.eq, ← ho'.eq]; exact add_lit_off b off o
  simp [xop, execOp, h.ev (x := x) (v := .pointer (some ⟨b, off, none⟩)), h.ev (x := y) (v := .int kk (k : Int)), Instr.indexAt, asIntOf, Sem.run_bind, run_und, Instr.sureAddr, h1, run_size, e2, Int.natCast_nonneg]
  intro hle
  have := hk.lt
  omega⟩
instance kltS0 {n : Nat} : KLt 0 (n + 1) := ⟨by omega⟩
instance kltS {k n : Nat} [h : KLt k n] : KLt (k + 1) (n + 1) := ⟨by have := h.lt; omega⟩
end
end Go.Wk

namespace Go.Wk
open Go Go.Deep Go.ChangeShapes Go.WideShapes Go.ChangeAt Go.RowKit

/-! arrays of three that come in -/
structure A3 (α : Type) where
  a : α
  b : α
  c : α
def A3.l {α : Type} (x : A3 α) : List α := [x.a, x.b, x.c]
instance encA3 {α : Type} [i : Lay α] : Enc (A3 α) := ⟨3 * Enc.sz α, fun x => Enc.cells x.a ++ (Enc.cells x.b ++ Enc.cells x.c), fun x => by simp [Enc.len]; omega, fun x u hu => by
  simp only [List.mem_append] at hu
  rcases hu with h | h | h <;> exact Enc.one _ _ h⟩
instance layA3 {α : Type} [i : Lay α] : Lay (A3 α) := { encA3 with
  dflt := ⟨Lay.dflt, Lay.dflt, Lay.dflt⟩
  inn := fun w x => Lay.inn w x.a ∧ Lay.inn w x.b ∧ Lay.inn w x.c
  mono := fun w w' x h hx => ⟨Lay.mono w w' _ h hx.1, Lay.mono w w' _ h hx.2.1, Lay.mono w w' _ h hx.2.2⟩ }
theorem troA3 {P : Program} {T e : TypeId} {α : Type} [Lay α] [hT : Tro P e α] (hu : P.underlying T = some (.array 3 e)) (hs : P.cellsOf T = 3 * P.cellsOf e) : Tro P T (A3 α) := ⟨fun enc w base spare held fuel cs x h => by
  obtain ⟨xs, m, rfl, rfl, hlen, hxl, hx⟩ := DataW.trod_array hu h
  have key : ∀ i, i < 3 → ∃ a : α, (cs.drop (i * Enc.sz α)).take (Enc.sz α) = Enc.cells a ∧ Lay.inn w a := fun i hi => by
    have h1 := hx i hi
    rw [List.getElem?_eq_getElem (by omega), hT.size] at h1
    exact hT.of _ _ _ _ _ _ _ _ h1
  obtain ⟨a, ha, ia⟩ := key 0 (by omega)
  obtain ⟨b, hb, ib⟩ := key 1 (by omega)
  obtain ⟨c, hc, ic⟩ := key 2 (by omega)
  refine ⟨⟨a, b, c⟩, ?_, ia, ib, ic⟩
  rw [hs, hT.size] at hlen
  show cs = Enc.cells a ++ (Enc.cells b ++ Enc.cells c)
  rw [← ha, ← hb, ← hc]
  rw [show 0 * Enc.sz α = 0 from by omega, List.drop_zero, show 1 * Enc.sz α = Enc.sz α from by omega]
  have e3 : (cs.drop (2 * Enc.sz α)).take (Enc.sz α) = cs.drop (2 * Enc.sz α) := List.take_of_length_le (by rw [List.length_drop]; omega)
  rw [e3, show 2 * Enc.sz α = Enc.sz α + Enc.sz α from by omega, ← List.drop_drop, List.take_append_drop, List.take_append_drop],
  by rw [hs, hT.size]; rfl⟩
theorem arr3_of_Trod {P : Program} {T e : TypeId} {α : Type} [Lay α] [hT : Tro P T (A3 α)] {H : Type} {enc : TypeId × Value → H} {w : World} {base : Nat} {spare : Nat → Bool} {held : Bool} (hu : P.underlying T = some (.array 3 e)) {v : Value} {d : DataW H} {p : List MemPlace} {r : Reach} {W : World} {base' : Nat} (h : DataW.Trod enc P w base spare held T v d p) (hv : Value.okWide P W r base' T v) :
    ∃ a : A3 α, v = .agg ⟨Enc.cells a⟩ ∧ Lay.inn w a := by
  obtain ⟨cs, rfl⟩ : ∃ cs, v = .agg cs := by
    simp only [Value.okWide, hu] at hv
    obtain ⟨cs, h1, _⟩ := hv
    exact ⟨cs, h1⟩
  obtain ⟨fuel, hf⟩ := h
  obtain ⟨a, e, ha⟩ := hT.of _ _ _ _ _ _ _ _ hf
  refine ⟨a, ?_, ha⟩
  have : cs.toList = Enc.cells a := by simpa [Value.cells] using e
  rw [← this]
end Go.Wk

/- Layer 17, packages meta and data: names, numbers, writings. -/
namespace Go.Proofs.YtieeoakdkbackaaDoor
open Go Go.Wk
set_option synthInstance.maxSize 100000
set_option synthInstance.maxHeartbeats 400000
set_option maxRecDepth 100000

theorem large17_c (N : Nat) : ∀ (t : LTerm) (deep left : Int) (b : Nat) (w0 : World), SizeOf.sizeOf t ≤ N → 0 ≤ deep → deep ≤ 81 → 0 ≤ left → left ≤ 2000 → Stable (fun k => k = b) w0 (LtF t) → w0.heap[b]? = some (.cells #[.int .i64 left] 3 (0, 0)) →
    Ret Tryd.prog 37 [vL t, .int .i64 deep, .pointer (some ⟨b, 0, none⟩)] w0 (fun k => k = b) fun v w' => ∃ (r : Bool) (n : Int), v = .bool r ∧ n ≤ left ∧ (r = false → 0 ≤ n) ∧ w'.heap[b]? = some (.cells #[.int .i64 n] 3 (0, 0)) := by
  induction N with
  | zero => intro t _ _ _ _ h; cases t; simp at h
  | succ N ih =>
  intro t deep left b w0 hN hd hd' hl hl' hf hb
  have hlen := LTerm.len_le hf
  refine enter Tryd.func37 rfl rfl (Wd.lent (fs := [LtF t]) hb (by simpa using hf)) (fun a S => ?_)
  simp only [Tryd.ntmps37, List.length_cons, List.length_nil, Nat.reduceAdd, Nat.reduceSub, List.replicate_succ, List.replicate_zero, List.cons_append, List.nil_append] at S
  refine c_seq ?_
  refine c_region ?_
  refine sa S ?_; clear S; intro b3 a w S
  refine sq S ?_; clear S; intro a S
  refine wl_nil ?_
  refine xtn ?_
  iterate 2 (refine c_seq ?_)
  refine c_region ?_
  iterate 4 (refine sq S ?_; clear S; intro a S)
  rw [w64 (left - 1) (by omega) (by omega)] at S
  refine sq S ?_; clear S; intro a S
  refine sw S ?_; clear S; intro a w S
  refine wl_nil ?_
  refine xtn ?_
  refine c_seq ?_
  refine c_region ?_
  iterate 5 (refine sq S ?_; clear S; intro a S)
  iterate 2 (refine gQ S ?_; clear S; intro a S)
  iterate 2 (refine sq S ?_; clear S; intro a S)
  iterate 4 (refine gQ S ?_; clear S; intro a S)
  iterate 2 (refine sq S ?_; clear S; intro a S)
  iterate 4 (refine gQ S ?_; clear S; intro a S)
  refine sq S ?_; clear S; intro a S
  refine wl_nil ?_
  refine xtn ?_
  refine c_cond S (fun h2 => ?_) (fun h2 => ?_)
  · refine c_seq ?_
    refine c_region ?_
    refine sq S ?_; clear S; intro a S
    refine wl_nil ?_
    refine xtn ?_
    refine c_ret ?_
    refine xtr ?_
    have hbx := S.box b
    refine fin1 S (fun _ => ?_)
    exact ⟨true, _, rfl, by omega, nofun, hbx⟩
  · refine c_skip ?_
    refine xtn ?_
    iterate 2 (refine c_seq ?_)
    have h2' : 0 ≤ left - 1 ∧ deep ≤ 80 := by
      simp only [Bool.or_eq_false_iff, decide_eq_false_iff_not] at h2
      omega
    refine c_region ?_
    iterate 4 (refine sq S ?_; clear S; intro a S)
    refine wl_nil ?_
    refine xtn ?_
    refine c_block ?_
    refine c_fore2 S (fun (k : Nat) (lf : Int) uu => [(6, uu 6), (1, uu 8), (28, .int .i64 (k : Nat)), (0, uu 38), (0, uu 39), (0, uu 40), (0, uu 41), (0, uu 42), (0, uu 43), (0, uu 44), (0, uu 45), (0, uu 46)]) (fun (k : Nat) (lf : Int) => [Wk.box b3 24 t.cells, Wk.box b 3 [.int .i64 lf]]) (fun (k : Nat) (lf : Int) => [LtF t]) (fun (k : Nat) (lf : Int) => k ≤ t.kids.length ∧ 0 ≤ lf ∧ lf ≤ left) (fun (k : Nat) (lf : Int) => t.kids.length - k) (0) (left - 1) ?_ S.uu ?_ ?_
    · exact ⟨Nat.zero_le _, by omega, by omega⟩
    · first | exact S | exact S.sub _ _
    · clear S; rintro k lf uu a w ⟨hk, hlf, hlf'⟩ S
      refine c_seq ?_
      refine c_region ?_
      refine sq S ?_; clear S; intro a S
      refine wl_nil ?_
      refine xtn ?_
      refine c_seq ?_
      refine c_cond S (fun h5 => ?_) (fun h5 => ?_)
      · refine c_skip ?_
        refine xtn ?_
        refine c_seq ?_
        refine c_block ?_
        refine c_seq ?_
        have hkl : k < t.kids.length := by simp at h5; omega
        have hK : KLt k t.kids.length := ⟨hkl⟩
        refine c_region ?_
        iterate 2 (refine sq S ?_; clear S; intro a S)
        refine sa S ?_; clear S; intro b8 a w S
        refine sw S ?_; clear S; intro a w S
        refine wl_nil ?_
        refine xtn ?_
        refine c_seq ?_
        refine c_region ?_
        iterate 3 (refine sq S ?_; clear S; intro a S)
        rw [w64 (deep + 1) (by omega) (by omega)] at S
        refine sq S ?_; clear S; intro a S
        have hst : Stable (fun k => k = b) w (LtF (nthL t.kids k)) := (S.t (nthL t.kids k)).less fun j _ hj => ⟨Wk.box b 3 [.int .i64 lf], by simp, by rw [hj]; rfl⟩
        refine sb S (b := b) (ih (nthL t.kids k) (deep + 1) lf b w (by have := LTerm.kid_lt (nth_mem hkl); omega) (by omega) (by omega) hlf (by omega) hst (S.box b)) ?_; clear S
        rintro v a w ⟨r, n, rfl, hn1, hn2, hcb⟩ hS
        have S := hS [.int .i64 _] _ inferInstance hcb
        clear hS
        refine wl_nil ?_
        refine xtn ?_
        refine c_cond S (fun h7 => ?_) (fun h7 => ?_)
        · refine c_seq ?_
          refine c_region ?_
          refine sq S ?_; clear S; intro a S
          refine wl_nil ?_
          refine xtn ?_
          refine c_ret ?_
          refine xbr ?_
          iterate 2 (refine xtr ?_)
          refine xbr ?_
          refine xtr ?_
          have hbx := S.box b
          refine fin1 S (fun _ => ?_)
          exact ⟨true, _, rfl, by omega, nofun, hbx⟩
        · refine c_skip ?_
          refine xbn ?_
          refine xtn ?_
          refine c_region ?_
          iterate 2 (refine sq S ?_; clear S; intro a S)
          refine wl_nil ?_
          refine xtn ?_
          rw [w64 ((k : Int) + 1) (by omega) (by omega)] at S
          exact ⟨k + 1, n, S.uu, ⟨hkl, hn2 h7, by omega⟩, S.sub _ _, by omega⟩
      · refine c_exit ?_
        iterate 2 (refine xte ?_)
        refine xbe ?_
        refine xtn ?_
        refine c_seq ?_
        refine c_region ?_
        refine sq S ?_; clear S; intro a S
        refine wl_nil ?_
        refine xtn ?_
        refine c_ret ?_
        have hbx := S.box b
        refine fin1 S (fun _ => ?_)
        exact ⟨false, _, rfl, by omega, fun _ => hlf, hbx⟩
theorem over17_c (t : LTerm) (w0 : World) (hf : Stable (fun _ => False) w0 (LtF t)) : Ret Tryd.prog 8 [vL t] w0 (fun _ => False) fun v _ => ∃ b, v = .bool b := by
  refine enter Tryd.func8 rfl rfl (Wd.begin (fs := [LtF t]) (by simpa using hf)) (fun a S => ?_)
  simp only [Tryd.ntmps8, List.length_cons, List.length_nil, Nat.reduceAdd, Nat.reduceSub, List.replicate_succ, List.replicate_zero, List.cons_append, List.nil_append] at S
  refine c_seq ?_
  refine c_region ?_
  refine sa S ?_; clear S; intro b1 a w S
  refine sq S ?_; clear S; intro a S
  refine wl_nil ?_
  refine xtn ?_
  refine c_seq ?_
  refine c_region ?_
  refine sa S ?_; clear S; intro b3 a w S
  refine sw S ?_; clear S; intro a w S
  refine wl_nil ?_
  refine xtn ?_
  refine c_seq ?_
  refine c_region ?_
  refine sq S ?_; clear S; intro a S
  have hst : Stable (fun k => k = b3) w (LtF t) := (S.t t).less fun j _ hj => ⟨Wk.box b3 3 [.int .i64 1500], by simp, by rw [hj]; rfl⟩
  refine sb S (b := b3) (large17_c _ t 1 1500 b3 w (Nat.le_refl _) (by omega) (by omega) (by omega) (by omega) hst (S.box b3)) ?_; clear S
  rintro v a w ⟨r, n, rfl, hn1, hn2, hcb⟩ hS
  have S := hS [.int .i64 _] _ inferInstance hcb
  clear hS
  refine sq S ?_; clear S; intro a S
  refine wl_nil ?_
  refine xtn ?_
  refine c_ret ?_
  refine end1 S (fun _ => ⟨r, rfl⟩)
/-! names and numbers -/
def chB (c : UInt8) : Bool := decide (33 ≤ c.toNat) && decide (c.toNat ≤ 126)
def nameB (s : List UInt8) : Bool := s.all chB && decide (1 ≤ s.length) && decide (s.length ≤ 24)
theorem mname_c (s : List UInt8) (hl : s.length ≤ 1000000) (w0 : World) : Ret Tryd.prog 51 [str s] w0 (fun _ => False) fun v _ => v = .bool (nameB s) := by
  refine enter Tryd.func51 rfl rfl (Wd.start w0) (fun a S => ?_)
  simp only [Tryd.ntmps51, List.length_cons, List.length_nil, Nat.reduceAdd, Nat.reduceSub, List.replicate_succ, List.replicate_zero, List.cons_append, List.nil_append] at S
  refine c_seq ?_
  refine c_region ?_
  refine sq S ?_; clear S; intro a S
  refine wl_nil ?_
  refine xtn ?_
  iterate 2 (refine c_seq ?_)
  refine c_region ?_
  refine sq S ?_; clear S; intro a S
  refine sstr0 S ?_; clear S; intro b6 a w S
  refine wl_nil ?_
  refine xtn ?_
  refine c_block ?_
  refine c_forf1 S (fun (i : Nat) uu => [(2, uu 2), (1, uu 4), (2, uu 7), (0, uu 8), (0, uu 9), (0, uu 10), (0, uu 11), (0, uu 12), (0, uu 13), (0, uu 14), (0, uu 15)]) (fun (i : Nat) => [Wk.sti b6 s i]) (fun (i : Nat) => i ≤ s.length ∧ ∀ j, j < i → chB (s.getD j 0) = true) (fun (i : Nat) => s.length - i) (0) ?_ S.uu ?_ ?_
  · exact ⟨Nat.zero_le _, fun j hj => by omega⟩
  · first | exact S | exact S.sub _ _
  · clear S; rintro i uu a w ⟨hi, hrel⟩ S
    refine c_seq ?_
    refine c_region ?_
    refine snxs S ?_; clear S; intro more c wd a w hmf hmt S
    refine sq S ?_; clear S; intro a S
    refine wl_nil ?_
    refine xtn ?_
    refine c_seq ?_
    refine c_cond S (fun h2 => ?_) (fun h2 => ?_)
    · refine c_skip ?_
      refine xtn ?_
      refine c_block ?_
      refine c_seq ?_
      obtain rfl : more = true := h2
      obtain ⟨hil, hlo, hhi⟩ := hmt rfl
      refine c_region ?_
      iterate 2 (refine sq S ?_; clear S; intro a S)
      refine wl_nil ?_
      refine xtn ?_
      refine c_seq ?_
      refine c_region ?_
      iterate 3 (refine sq S ?_; clear S; intro a S)
      iterate 2 (refine gQ S ?_; clear S; intro a S)
      refine sq S ?_; clear S; intro a S
      refine wl_nil ?_
      refine xtn ?_
      refine c_cond S (fun h4 => ?_) (fun h4 => ?_)
      · refine c_seq ?_
        refine c_region ?_
        refine sq S ?_; clear S; intro a S
        refine wl_nil ?_
        refine xtn ?_
        refine c_ret ?_
        refine xbr ?_
        refine xtr ?_
        refine xbr ?_
        refine xtr ?_
        have hbad : chB (s.getD i 0) = false := by
          simp only [Bool.or_eq_true, decide_eq_true_eq] at h4
          by_cases hc : (s.getD i 0).toNat < 128
          · obtain ⟨rfl, -⟩ := hlo hc
            simp only [chB, Bool.and_eq_false_iff, decide_eq_false_iff_not]
            omega
          · simp only [chB, Bool.and_eq_false_iff, decide_eq_false_iff_not]
            omega
        refine end1 S (fun _ => ?_)
        have : nameB s = false := by
          have hall : s.all chB = false := List.all_eq_false.2 ⟨s.getD i 0, by rw [List.getD_eq_getElem?_getD, List.getElem?_eq_getElem hil]; exact List.getElem_mem hil, by rw [hbad]; simp⟩
          rw [nameB, hall]; rfl
        rw [this]
      · refine c_skip ?_
        refine xbn ?_
        refine xtn ?_
        simp only [Bool.or_eq_false_iff, decide_eq_false_iff_not] at h4
        have hc : (s.getD i 0).toNat < 128 := Classical.byContradiction fun hc => by have := hhi hc; omega
        obtain ⟨rfl, rfl⟩ := hlo hc
        rw [show (bif true then i + 1 else i) = i + 1 from rfl] at S
        refine ⟨i + 1, S.uu, ⟨hil, fun j hj => ?_⟩, S.sub _ _, by omega⟩
        rcases Nat.lt_or_ge j i with h | h
        · exact hrel j h
        · obtain rfl : j = i := by omega
          simp only [chB, Bool.and_eq_true, decide_eq_true_eq]
          omega
    · refine c_exit ?_
      iterate 2 (refine xte ?_)
      refine xbe ?_
      refine xtn ?_
      refine c_seq ?_
      refine c_region ?_
      iterate 4 (refine sq S ?_; clear S; intro a S)
      iterate 3 (refine gQ S ?_; clear S; intro a S)
      iterate 2 (refine sq S ?_; clear S; intro a S)
      refine wl_nil ?_
      refine xtn ?_
      refine c_ret ?_
      have hall : s.all chB = true := by
        have hle := hmf h2
        refine List.all_eq_true.2 fun x hx => ?_
        obtain ⟨j, hj, rfl⟩ := List.getElem_of_mem hx
        have := hrel j (by omega)
        rwa [List.getD_eq_getElem?_getD, List.getElem?_eq_getElem hj] at this
      refine end1 S (fun _ => ?_)
      rw [nameB, hall, Bool.true_and]
      congr 1
      rw [Bool.eq_iff_iff]
      simp only [Bool.and_eq_true, decide_eq_true_eq]
      omega
end Go.Proofs.YtieeoakdkbackaaDoor

/- Packages meta and data: numbers, Check, Make. -/
namespace Go.Proofs.YtieeoakdkbackaaDoor
open Go Go.Wk
set_option synthInstance.maxSize 100000
set_option synthInstance.maxHeartbeats 400000
set_option maxRecDepth 100000

theorem itoa64 {n : Int} (h : 0 ≤ n ∧ n ≤ 9223372036854775807) : (Lib.itoa n).length ≤ 64 := Nat.le_trans (Lib.itoa_length_le n (by omega) (by omega)) (by omega)
theorem mdigits_c (n : Int) (hI : -9223372036854775808 ≤ n ∧ n ≤ 9223372036854775807) (w0 : World) (ht : Stable (fun _ => False) w0 TabF) : Ret Tryd.prog 48 [.int .i64 n] w0 (fun _ => False) fun v _ => v = vL (textL (Lib.itoa (max n 0))) := by
  refine enter Tryd.func48 rfl rfl (Wd.begin (fs := [TabF]) (by simpa using ht)) (fun a S => ?_)
  simp only [Tryd.ntmps48, List.length_cons, List.length_nil, Nat.reduceAdd, Nat.reduceSub, List.replicate_succ, List.replicate_zero, List.cons_append, List.nil_append] at S
  refine c_seq ?_
  refine c_region ?_
  refine sa S ?_; clear S; intro b2 a w S
  refine wl_nil ?_
  refine xtn ?_
  refine c_seq ?_
  refine c_region ?_
  iterate 2 (refine sq S ?_; clear S; intro a S)
  refine sr S (itoa_c (max n 0) ⟨by omega, by omega⟩ _ (S.mem.fact0 TabF).now) ?_; clear S; rintro _ a w rfl S
  refine sc S ?_; clear S; intro a w S
  refine sw S ?_; clear S; intro a w S
  refine wl_nil ?_
  refine xtn ?_
  refine c_ret ?_
  refine end1 S (fun _ => rfl)
instance {n : Int} {bs fs} [h : I64 n] [hf : HasFact fs TabF] : CallV Tryd.prog 48 [.int .i64 n] bs fs (vL (textL (Lib.itoa (max n 0)))) := ⟨fun w m => mdigits_c n ⟨h.lo, h.hi⟩ w (m.fact0 TabF)⟩
theorem textL_t (s : List UInt8) : (textL s).t = textT s := rfl
theorem mnumber_c (t : LTerm) (most : Int) (hs : t.text.length ≤ 1000) (hm : most ≤ 65535) (w0 : World) (ht : Stable (fun _ => False) w0 LibF) (hf : Stable (fun _ => False) w0 (LtF t)) :
    Ret Tryd.prog 43 [vL t, .int .i64 most] w0 (fun _ => False) fun v _ => ∃ (n : Int) (b : Bool), v = .tuple ⟨[.int .i64 n, .bool b]⟩ ∧ (b = true → (0 ≤ n ∧ n ≤ most) ∧ t.t = textT (Lib.itoa n)) ∧ (b = false → n = 0 ∧ ∀ m, 0 ≤ m → m ≤ most → t.t ≠ textT (Lib.itoa m)) := by
  refine enter Tryd.func43 rfl rfl (Wd.begin (fs := [TabF, LibF, LtF t]) (by simp; exact ⟨ht.imp fun _ h => h.1, ht, hf⟩)) (fun a S => ?_)
  simp only [Tryd.ntmps43, List.length_cons, List.length_nil, Nat.reduceAdd, Nat.reduceSub, List.replicate_succ, List.replicate_zero, List.cons_append, List.nil_append] at S
  refine c_seq ?_
  refine c_region ?_
  refine sa S ?_; clear S; intro b2 a w S
  iterate 2 (refine sq S ?_; clear S; intro a S)
  refine wl_nil ?_
  refine xtn ?_
  refine c_seq ?_
  refine c_region ?_
  iterate 2 (refine sq S ?_; clear S; intro a S)
  refine sr S (atoi_c t.text hs _ (S.mem.fact0 LibF).now.2.1 (S.mem.fact0 LibF).now.2.2) ?_; clear S; rintro _ a w ⟨n, b1, te, pe, rfl, hn, hbn, hv⟩ S
  have hI : I64 n := ⟨hn.1, hn.2⟩
  replace S := S.add (Φ := LtF (textL (Lib.itoa (max n 0)))) (fun _ _ => by simp [LtIn, textL, LsIn, LtF])
  iterate 5 (refine sq S ?_; clear S; intro a S)
  refine wl_nil ?_
  refine xtn ?_
  iterate 2 (refine c_seq ?_)
  refine c_drawD [(0, true), (1, true), (2, true), (3, true), (4, true), (5, true), (6, true), (7, true), (8, true), (9, true), (10, true), (11, true), (12, true), (13, true), (14, false), (15, false), (16, true), (17, true)] [] S ?_; clear S; intro w S
  iterate 3 (refine dq S ?_; clear S; intro a S)
  iterate 2 (refine dqG S ?_; clear S; intro a S)
  iterate 2 (refine dq S ?_; clear S; intro a S)
  iterate 3 (refine dqG S ?_; clear S; intro a S)
  iterate 2 (refine dq S ?_; clear S; intro a S)
  iterate 2 (refine dqG S ?_; clear S; intro a S)
  refine dl ?_
  refine gC S ?_; clear S; intro a w S
  refine de S ?_
  refine dl ?_
  refine gC S ?_; clear S; intro a w S
  refine de S ?_
  refine dqG S ?_; clear S; intro a S
  refine dq S ?_; clear S; intro a S
  refine dn ?_
  refine xtn ?_
  refine c_cond S (fun h2 => ?_) (fun h2 => ?_)
  · refine c_seq ?_
    refine c_region ?_
    iterate 2 (refine sq S ?_; clear S; intro a S)
    refine wl_nil ?_
    refine xtn ?_
    refine c_ret ?_
    refine xtr ?_
    have hno : ∀ m, 0 ≤ m → m ≤ most → t.t ≠ textT (Lib.itoa m) := by
      intro m h0 h1 he
      have e1 : t.text = Lib.itoa m := by
        rw [t.t_eq] at he
        simp only [textT, Term.mk.injEq] at he
        exact he.2.2.2.1
      have ha := atoi_itoa (n := m) ⟨h0, by omega⟩
      rw [← e1] at ha
      have e2 := hv _ ha
      have e3 := hbn.2 ⟨_, ha⟩
      subst e2
      have e4 : sameF t.t (textL (Lib.itoa (max n 0))).t = true := (sameF_iff _ _).2 (by rw [textL_t, he, show max n 0 = n from by omega])
      rw [e3, e4] at h2
      simp at h2
      omega
    refine end2 S (fun _ => ?_)
    exact ⟨0, false, rfl, nofun, fun _ => ⟨rfl, hno⟩⟩
  · refine c_skip ?_
    refine xtn ?_
    refine c_seq ?_
    refine c_region ?_
    iterate 3 (refine sq S ?_; clear S; intro a S)
    refine wl_nil ?_
    refine xtn ?_
    refine c_ret ?_
    simp only [Bool.or_eq_false_iff, decide_eq_false_iff_not, Bool.not_eq_false'] at h2
    refine end2 S (fun _ => ?_)
    refine ⟨n, true, rfl, fun _ => ⟨⟨by omega, by omega⟩, ?_⟩, nofun⟩
    have := (sameF_iff _ _).1 h2.2
    rw [this, textL_t, show max n 0 = n from by omega]
end Go.Proofs.YtieeoakdkbackaaDoor

/- Package data: Check, Make; need, and who takes what it leaves by. -/
namespace Go.Proofs.YtieeoakdkbackaaDoor
open Go Go.Wk
set_option synthInstance.maxSize 100000
set_option synthInstance.maxHeartbeats 400000
set_option maxRecDepth 100000

structure LDat where
  name : List UInt8
  ver : Int
  epoch : Int
  writer : Int
  locked : LTerm
abbrev cDat (d : LDat) : List Value := [str d.name, .int .i64 d.ver, .int .i64 d.epoch, .int .i64 d.writer, .int .i64 d.locked.kind, .int .i64 d.locked.user, .int .i64 d.locked.num, str d.locked.text, .slice d.locked.p d.locked.kids.length d.locked.cap]
instance encDat : Enc LDat := ⟨9, cDat, fun _ => rfl, fun x u hu => by simp only [List.mem_cons, List.not_mem_nil, or_false] at hu; rcases hu with rfl | rfl | rfl | rfl | rfl | rfl | rfl | rfl | rfl <;> rfl⟩
instance layDat : Lay LDat := { encDat with
  dflt := ⟨[], 0, 0, 0, zeroL⟩
  inn := fun w d => LtIn w d.locked
  mono := fun w w' d h hw => LtIn.mono h d.locked hw }
instance : SzE LDat 9 := ⟨rfl, by decide⟩
instance {d : LDat} : CellsOf d (cDat d) := ⟨rfl⟩
abbrev vDat (d : LDat) : Value := .agg ⟨cDat d⟩
/-- what a writing says, apart from what is locked. -/
structure Dat where
  name : List UInt8
  ver : Int
  epoch : Int
  writer : Int
  locked : Term
def LDat.d (d : LDat) : Dat := ⟨d.name, d.ver, d.epoch, d.writer, d.locked.t⟩
def kindT : Term → Int | .mk k _ _ _ _ => k
theorem kind_t (t : LTerm) : kindT t.t = t.kind := by rw [t.t_eq]; rfl
def datB (d : Dat) : Bool := nameB d.name && decide (1 ≤ d.ver) && decide (d.ver ≤ 9999) && decide (1 ≤ d.epoch) && decide (d.epoch ≤ 8) && decide (1 ≤ d.writer) && decide (d.writer ≤ 6) && decide (checkF d.locked = 0) && decide (kindT d.locked = 6)
theorem datB_iff {d : Dat} : datB d = true ↔ nameB d.name = true ∧ 1 ≤ d.ver ∧ d.ver ≤ 9999 ∧ 1 ≤ d.epoch ∧ d.epoch ≤ 8 ∧ 1 ≤ d.writer ∧ d.writer ≤ 6 ∧ checkF d.locked = 0 ∧ kindT d.locked = 6 := by
  simp only [datB, Bool.and_eq_true, decide_eq_true_eq, and_assoc]
instance {s : List UInt8} {bs fs} [h : LeC s.length 1000000] : CallV Tryd.prog 51 [str s] bs fs (.bool (nameB s)) := ⟨fun w _ => mname_c s h.le w⟩
theorem dcheck_c (d : LDat) (hl : d.name.length ≤ 1000000) (w0 : World) (hf : Stable (fun _ => False) w0 (LtF d.locked)) : Ret Tryd.prog 17 [vDat d] w0 (fun _ => False) fun v _ => v = .int .i64 (if datB d.d then 0 else 270) := by
  have hL : LeC d.name.length 1000000 := ⟨hl⟩
  refine enter Tryd.func17 rfl rfl (Wd.begin (fs := [LtF d.locked]) (by simpa using hf)) (fun a S => ?_)
  simp only [Tryd.ntmps17, List.length_cons, List.length_nil, Nat.reduceAdd, Nat.reduceSub, List.replicate_succ, List.replicate_zero, List.cons_append, List.nil_append] at S
  refine c_seq ?_
  refine c_region ?_
  refine sa S ?_; clear S; intro b1 a w S
  refine sq S ?_; clear S; intro a S
  refine wl_nil ?_
  refine xtn ?_
  refine c_seq ?_
  refine c_region ?_
  iterate 2 (refine sq S ?_; clear S; intro a S)
  refine sc S ?_; clear S; intro a w S
  refine sq S ?_; clear S; intro a S
  iterate 3 (refine gQ S ?_; clear S; intro a S)
  iterate 2 (refine sq S ?_; clear S; intro a S)
  iterate 3 (refine gQ S ?_; clear S; intro a S)
  iterate 2 (refine sq S ?_; clear S; intro a S)
  iterate 3 (refine gQ S ?_; clear S; intro a S)
  iterate 2 (refine sq S ?_; clear S; intro a S)
  iterate 3 (refine gQ S ?_; clear S; intro a S)
  iterate 2 (refine sq S ?_; clear S; intro a S)
  iterate 3 (refine gQ S ?_; clear S; intro a S)
  iterate 2 (refine sq S ?_; clear S; intro a S)
  iterate 3 (refine gQ S ?_; clear S; intro a S)
  iterate 2 (refine sq S ?_; clear S; intro a S)
  refine wl_nil ?_
  refine xtn ?_
  iterate 2 (refine c_seq ?_)
  refine c_region ?_
  iterate 3 (refine sq S ?_; clear S; intro a S)
  iterate 2 (refine gQ S ?_; clear S; intro a S)
  refine gC S ?_; clear S; intro a w S
  refine gQ S ?_; clear S; intro a S
  iterate 2 (refine sq S ?_; clear S; intro a S)
  iterate 4 (refine gQ S ?_; clear S; intro a S)
  refine sq S ?_; clear S; intro a S
  refine wl_nil ?_
  refine xtn ?_
  refine c_cond S (fun h2 => ?_) (fun h2 => ?_)
  · refine c_seq ?_
    refine c_region ?_
    refine sq S ?_; clear S; intro a S
    refine wl_nil ?_
    refine xtn ?_
    refine c_ret ?_
    refine xtr ?_
    refine end1 S (fun _ => ?_)
    have : datB d.d = false := by
      cases hb : datB d.d with
      | false => rfl
      | true =>
        obtain ⟨a1, a2, a3, a4, a5, a6, a7, a8, a9⟩ := datB_iff.1 hb
        simp only [LDat.d, kind_t] at a1 a2 a3 a4 a5 a6 a7 a8 a9
        simp [a1, a2, a3, a4, a5, a6, a7, a8, a9] at h2
    rw [this]; rfl
  · refine c_skip ?_
    refine xtn ?_
    refine c_seq ?_
    refine c_region ?_
    refine sq S ?_; clear S; intro a S
    refine wl_nil ?_
    refine xtn ?_
    refine c_ret ?_
    refine end1 S (fun _ => ?_)
    have : datB d.d = true := by
      simp only [Bool.or_eq_false_iff, Bool.not_eq_false', Bool.and_eq_true, decide_eq_true_eq] at h2
      obtain ⟨⟨⟨⟨⟨⟨⟨⟨a1, a2⟩, a3⟩, a4⟩, a5⟩, a6⟩, a7⟩, a8⟩, a9⟩ := h2
      exact datB_iff.2 ⟨a1, a2, a3, a4, a5, a6, a7, a8, by rw [LDat.d, kind_t]; exact a9⟩
    rw [this]; rfl
def dataS : List UInt8 := [100, 97, 116, 97]
def dataT (d : Dat) (leaf : Int) : Term := signT d.writer leaf (listT [textT dataS, textT d.name, textT (Lib.itoa d.ver), textT (Lib.itoa d.epoch), d.locked])
def DMakeR (M : Nat → Prop) (d : Dat) (leaf : Int) (v : Value) (w : World) : Prop := ∃ (t : LTerm) (e : Int), v = .tuple ⟨[vL t, .int .i64 e]⟩ ∧ Stable M w (LtF t) ∧
  (e = 0 → datB d = true ∧ (0 ≤ leaf ∧ leaf ≤ 65535) ∧ Good (dataT d leaf) ∧ t.t = dataT d leaf) ∧
  (e ≠ 0 → t = zeroL ∧ (e = 270 ∧ datB d = false ∨ e = 2 ∧ datB d = true ∧ ¬ (0 ≤ leaf ∧ leaf ≤ 65535) ∨ e = 150 ∧ datB d = true ∧ (0 ≤ leaf ∧ leaf ≤ 65535) ∧ ¬ Good (dataT d leaf)))
theorem dmake_c (d : LDat) (leaf : Int) (hl : d.name.length ≤ 1000000) (M : Nat → Prop) (w0 : World) (hM : ∀ k, M k → k < w0.heap.size) (ht : Stable M w0 TabF) (hf : Stable M w0 (LtF d.locked)) :
    Ret Tryd.prog 13 [vDat d, .int .i64 leaf] w0 (fun _ => False) fun v w' => DMakeR M d.d leaf v w' := by
  refine enter Tryd.func13 rfl rfl (Wd.beginM (M := M) (fs := [TabF, LtF d.locked]) hM (by simp; exact ⟨ht, hf⟩)) (fun a S => ?_)
  simp only [Tryd.ntmps13, List.length_cons, List.length_nil, Nat.reduceAdd, Nat.reduceSub, List.replicate_succ, List.replicate_zero, List.cons_append, List.nil_append] at S
  refine c_seq ?_
  refine c_region ?_
  refine sa S ?_; clear S; intro b2 a w S
  refine sa S ?_; clear S; intro b4 a w S
  refine sq S ?_; clear S; intro a S
  refine wl_nil ?_
  refine xtn ?_
  refine c_seq ?_
  refine c_block ?_
  refine c_seq ?_
  refine c_region ?_
  refine sq S ?_; clear S; intro a S
  refine sr S (dcheck_c d hl _ (S.t0 d.locked)) ?_; clear S; rintro _ a w rfl S
  refine sq S ?_; clear S; intro a S
  rw [show (!decide ((if datB d.d then (0 : Int) else 270) = 0)) = !datB d.d from by cases datB d.d <;> rfl] at S
  refine sq S ?_; clear S; intro a S
  refine wl_nil ?_
  refine xtn ?_
  refine c_cond S (fun h1 => ?_) (fun h1 => ?_)
  · refine c_seq ?_
    refine c_region ?_
    refine sq S ?_; clear S; intro a S
    refine sw S ?_; clear S; intro a w S
    refine sq S ?_; clear S; intro a S
    refine wl_nil ?_
    refine xtn ?_
    refine c_ret ?_
    refine xbr ?_
    refine xtr ?_
    have hb : datB d.d = false := by simpa using h1
    refine end2 S (fun _ => ?_)
    exact ⟨zeroL, 270, rfl, fun _ _ => zeroL_in _, nofun, fun _ => ⟨rfl, .inl ⟨rfl, hb⟩⟩⟩
  · refine c_seq ?_
    refine c_region ?_
    iterate 3 (refine sq S ?_; clear S; intro a S)
    iterate 2 (refine gQ S ?_; clear S; intro a S)
    iterate 2 (refine sq S ?_; clear S; intro a S)
    refine wl_nil ?_
    refine xtn ?_
    refine c_cond S (fun h3 => ?_) (fun h3 => ?_)
    · refine c_seq ?_
      refine c_region ?_
      refine sq S ?_; clear S; intro a S
      refine sw S ?_; clear S; intro a w S
      refine sq S ?_; clear S; intro a S
      refine wl_nil ?_
      refine xtn ?_
      refine c_ret ?_
      refine xbr ?_
      refine xtr ?_
      have hb : datB d.d = true := by simpa using h1
      have hlf : ¬ (0 ≤ leaf ∧ leaf ≤ 65535) := by
        simp only [Bool.or_eq_true, decide_eq_true_eq] at h3; omega
      refine end2 S (fun _ => ?_)
      exact ⟨zeroL, 2, rfl, fun _ _ => zeroL_in _, nofun, fun _ => ⟨rfl, .inr (.inl ⟨rfl, hb, hlf⟩)⟩⟩
    · refine c_skip ?_
      refine xbn ?_
      refine xtn ?_
      refine c_seq ?_
      have hb : datB d.d = true := by simpa using h1
      have hlf : 0 ≤ leaf ∧ leaf ≤ 65535 := by
        simp only [Bool.or_eq_false_iff, decide_eq_false_iff_not] at h3; omega
      have hd := hb
      obtain ⟨hdn, hd1, hd2, hd3, hd4, hd5, hd6, hd7, hd8⟩ := datB_iff.1 hd
      simp only [LDat.d] at hd1 hd2 hd3 hd4 hd5 hd6
      have hI1 : I64 d.ver := ⟨by omega, by omega⟩
      have hI2 : I64 d.epoch := ⟨by omega, by omega⟩
      have hmv : max d.ver 0 = d.ver := by omega
      have hme : max d.epoch 0 = d.epoch := by omega
      replace S := (((S.add (Φ := LtF (textL dataS)) (fun _ _ => by simp [LtIn, textL, LsIn, LtF])).add (Φ := LtF (textL d.name)) (fun _ _ => by simp [LtIn, textL, LsIn, LtF])).add (Φ := LtF (textL (Lib.itoa d.ver))) (fun _ _ => by simp [LtIn, textL, LsIn, LtF])).add (Φ := LtF (textL (Lib.itoa d.epoch))) (fun _ _ => by simp [LtIn, textL, LsIn, LtF])
      refine c_drwe2 (.q 0 (.q 1 (.q 2 (.q 4 (.q 5 (.q 7 (.q 8 (.q 10 (.q 11 (.q 13 (.q 14 (.b2 3 18 (.b2 6 18 (.b2 9 18 (.b2 12 18 (.b2 15 18 (.b2 16 18 (.b2 17 18 (.l 18 (.l 19 (.e))) (.l 17 (.l 19 (.e)))) (.l 16 (.l 17 (.l 19 (.e))))) (.l 15 (.l 16 (.l 17 (.l 19 (.e)))))) (.l 12 (.l 15 (.l 16 (.l 17 (.l 19 (.e))))))) (.l 9 (.l 12 (.l 15 (.l 16 (.l 17 (.l 19 (.e)))))))) (.l 6 (.l 9 (.l 12 (.l 15 (.l 16 (.l 17 (.l 19 (.e))))))))) (.l 3 (.l 6 (.l 9 (.l 12 (.l 15 (.l 16 (.l 17 (.l 19 (.e))))))))))))))))))))) S (fun (b : Nat) (t : LTerm) uu => [(6, .pointer (some ⟨b, 0, none⟩)), (13, uu 20), (0, uu 21), (0, uu 22), (0, uu 23), (0, uu 24), (0, uu 25), (0, uu 26), (0, uu 27), (0, uu 28), (0, uu 29), (0, uu 30), (0, uu 31), (0, uu 32), (0, uu 33), (0, uu 34), (0, uu 35), (0, uu 36), (0, uu 37)]) [Wk.box b4 24 [.int .i64 0, .int .i64 0, .int .i64 0, .string ⟨#[]⟩, .slice none 0 0], Wk.box b2 28 (cDat d), ext M] (fun (b : Nat) (t : LTerm) => [Wk.box b 24 t.cells, Wk.box b4 24 [.int .i64 0, .int .i64 0, .int .i64 0, .string ⟨#[]⟩, .slice none 0 0], Wk.box b2 28 (cDat d), ext M]) (fun (b : Nat) (t : LTerm) => [LtF t]) (fun (b : Nat) (t : LTerm) => t.t = dataT d.d leaf) ?_ ?_
      · intro w S
        iterate 11 (refine tq S ?_; clear S; intro a S)
        refine tb2 ?_ ?_
        · refine sc S ?_; clear S; intro a w S
          refine te S ?_
          refine tb2 ?_ ?_
          · refine sc S ?_; clear S; intro a w S
            refine te S ?_
            refine tb2 ?_ ?_
            · refine sc S ?_; clear S; intro a w S
              rw [hmv] at S
              refine te S ?_
              refine tb2 ?_ ?_
              · refine sc S ?_; clear S; intro a w S
                rw [hme] at S
                refine te S ?_
                refine tb2 ?_ ?_
                · refine sn S ?_; clear S; intro b35 a w S
                  refine te S ?_
                  refine tb2 ?_ ?_
                  · replace S := S.frontLs b35 [textL dataS, textL d.name, textL (Lib.itoa d.ver), textL (Lib.itoa d.epoch), d.locked] rfl (fun t ht => by simp at ht; rcases ht with rfl | rfl | rfl | rfl | rfl <;> exact S.t _)
                    refine sr S (list_c [textL dataS, textL d.name, textL (Lib.itoa d.ver), textL (Lib.itoa d.epoch), d.locked] (some ⟨b35, 0, none⟩) 5 _ w (by simp) (foots_lt S) (S.mem.fact (LsF (some ⟨b35, 0, none⟩) 0 [textL dataS, textL d.name, textL (Lib.itoa d.ver), textL (Lib.itoa d.epoch), d.locked]))) ?_; clear S; rintro _ a w ⟨q, rfl, hq, hqf⟩ S
                    replace S := S.add hqf
                    refine te S ?_
                    refine tb2 ?_ ?_
                    · refine sr S (sign_c d.writer leaf q _ w (foots_lt S) (S.t q)) ?_; clear S; rintro _ a w ⟨t, rfl, hts, htf⟩ S
                      replace S := S.add htf
                      refine te S ?_
                      refine tl ?_
                      refine sa S ?_; clear S; intro b6 a w S
                      refine te S ?_
                      refine tl ?_
                      refine sw S ?_; clear S; intro a w S
                      refine te S ?_
                      refine tn ?_
                      exact ⟨b6, t, S.uu, by rw [hts, hq]; rfl, S.sub _ _⟩
                    · refine sa S ?_; clear S; intro b6 a w S
                      refine te S ?_
                      refine tl ?_
                      refine sr S (sign_c d.writer leaf q _ w (foots_lt S) (S.t q)) ?_; clear S; rintro _ a w ⟨t, rfl, hts, htf⟩ S
                      replace S := S.add htf
                      refine te S ?_
                      refine tl ?_
                      refine sw S ?_; clear S; intro a w S
                      refine te S ?_
                      refine tn ?_
                      exact ⟨b6, t, S.uu, by rw [hts, hq]; rfl, S.sub _ _⟩
                  · refine sa S ?_; clear S; intro b6 a w S
                    refine te S ?_
                    refine tl ?_
                    replace S := S.frontLs b35 [textL dataS, textL d.name, textL (Lib.itoa d.ver), textL (Lib.itoa d.epoch), d.locked] rfl (fun t ht => by simp at ht; rcases ht with rfl | rfl | rfl | rfl | rfl <;> exact S.t _)
                    refine sr S (list_c [textL dataS, textL d.name, textL (Lib.itoa d.ver), textL (Lib.itoa d.epoch), d.locked] (some ⟨b35, 0, none⟩) 5 _ w (by simp) (foots_lt S) (S.mem.fact (LsF (some ⟨b35, 0, none⟩) 0 [textL dataS, textL d.name, textL (Lib.itoa d.ver), textL (Lib.itoa d.epoch), d.locked]))) ?_; clear S; rintro _ a w ⟨q, rfl, hq, hqf⟩ S
                    replace S := S.add hqf
                    refine te S ?_
                    refine tl ?_
                    refine sr S (sign_c d.writer leaf q _ w (foots_lt S) (S.t q)) ?_; clear S; rintro _ a w ⟨t, rfl, hts, htf⟩ S
                    replace S := S.add htf
                    refine te S ?_
                    refine tl ?_
                    refine sw S ?_; clear S; intro a w S
                    refine te S ?_
                    refine tn ?_
                    exact ⟨b6, t, S.uu, by rw [hts, hq]; rfl, S.sub _ _⟩
                · refine sa S ?_; clear S; intro b6 a w S
                  refine te S ?_
                  refine tl ?_
                  refine sn S ?_; clear S; intro b35 a w S
                  refine te S ?_
                  refine tl ?_
                  replace S := S.frontLs b35 [textL dataS, textL d.name, textL (Lib.itoa d.ver), textL (Lib.itoa d.epoch), d.locked] rfl (fun t ht => by simp at ht; rcases ht with rfl | rfl | rfl | rfl | rfl <;> exact S.t _)
                  refine sr S (list_c [textL dataS, textL d.name, textL (Lib.itoa d.ver), textL (Lib.itoa d.epoch), d.locked] (some ⟨b35, 0, none⟩) 5 _ w (by simp) (foots_lt S) (S.mem.fact (LsF (some ⟨b35, 0, none⟩) 0 [textL dataS, textL d.name, textL (Lib.itoa d.ver), textL (Lib.itoa d.epoch), d.locked]))) ?_; clear S; rintro _ a w ⟨q, rfl, hq, hqf⟩ S
                  replace S := S.add hqf
                  refine te S ?_
                  refine tl ?_
                  refine sr S (sign_c d.writer leaf q _ w (foots_lt S) (S.t q)) ?_; clear S; rintro _ a w ⟨t, rfl, hts, htf⟩ S
                  replace S := S.add htf
                  refine te S ?_
                  refine tl ?_
                  refine sw S ?_; clear S; intro a w S
                  refine te S ?_
                  refine tn ?_
                  exact ⟨b6, t, S.uu, by rw [hts, hq]; rfl, S.sub _ _⟩
              · refine sa S ?_; clear S; intro b6 a w S
                refine te S ?_
                refine tl ?_
                refine sc S ?_; clear S; intro a w S
                rw [hme] at S
                refine te S ?_
                refine tl ?_
                refine sn S ?_; clear S; intro b35 a w S
                refine te S ?_
                refine tl ?_
                replace S := S.frontLs b35 [textL dataS, textL d.name, textL (Lib.itoa d.ver), textL (Lib.itoa d.epoch), d.locked] rfl (fun t ht => by simp at ht; rcases ht with rfl | rfl | rfl | rfl | rfl <;> exact S.t _)
                refine sr S (list_c [textL dataS, textL d.name, textL (Lib.itoa d.ver), textL (Lib.itoa d.epoch), d.locked] (some ⟨b35, 0, none⟩) 5 _ w (by simp) (foots_lt S) (S.mem.fact (LsF (some ⟨b35, 0, none⟩) 0 [textL dataS, textL d.name, textL (Lib.itoa d.ver), textL (Lib.itoa d.epoch), d.locked]))) ?_; clear S; rintro _ a w ⟨q, rfl, hq, hqf⟩ S
                replace S := S.add hqf
                refine te S ?_
                refine tl ?_
                refine sr S (sign_c d.writer leaf q _ w (foots_lt S) (S.t q)) ?_; clear S; rintro _ a w ⟨t, rfl, hts, htf⟩ S
                replace S := S.add htf
                refine te S ?_
                refine tl ?_
                refine sw S ?_; clear S; intro a w S
                refine te S ?_
                refine tn ?_
                exact ⟨b6, t, S.uu, by rw [hts, hq]; rfl, S.sub _ _⟩
            · refine sa S ?_; clear S; intro b6 a w S
              refine te S ?_
              refine tl ?_
              refine sc S ?_; clear S; intro a w S
              rw [hmv] at S
              refine te S ?_
              refine tl ?_
              refine sc S ?_; clear S; intro a w S
              rw [hme] at S
              refine te S ?_
              refine tl ?_
              refine sn S ?_; clear S; intro b35 a w S
              refine te S ?_
              refine tl ?_
              replace S := S.frontLs b35 [textL dataS, textL d.name, textL (Lib.itoa d.ver), textL (Lib.itoa d.epoch), d.locked] rfl (fun t ht => by simp at ht; rcases ht with rfl | rfl | rfl | rfl | rfl <;> exact S.t _)
              refine sr S (list_c [textL dataS, textL d.name, textL (Lib.itoa d.ver), textL (Lib.itoa d.epoch), d.locked] (some ⟨b35, 0, none⟩) 5 _ w (by simp) (foots_lt S) (S.mem.fact (LsF (some ⟨b35, 0, none⟩) 0 [textL dataS, textL d.name, textL (Lib.itoa d.ver), textL (Lib.itoa d.epoch), d.locked]))) ?_; clear S; rintro _ a w ⟨q, rfl, hq, hqf⟩ S
              replace S := S.add hqf
              refine te S ?_
              refine tl ?_
              refine sr S (sign_c d.writer leaf q _ w (foots_lt S) (S.t q)) ?_; clear S; rintro _ a w ⟨t, rfl, hts, htf⟩ S
              replace S := S.add htf
              refine te S ?_
              refine tl ?_
              refine sw S ?_; clear S; intro a w S
              refine te S ?_
              refine tn ?_
              exact ⟨b6, t, S.uu, by rw [hts, hq]; rfl, S.sub _ _⟩
          · refine sa S ?_; clear S; intro b6 a w S
            refine te S ?_
            refine tl ?_
            refine sc S ?_; clear S; intro a w S
            refine te S ?_
            refine tl ?_
            refine sc S ?_; clear S; intro a w S
            rw [hmv] at S
            refine te S ?_
            refine tl ?_
            refine sc S ?_; clear S; intro a w S
            rw [hme] at S
            refine te S ?_
            refine tl ?_
            refine sn S ?_; clear S; intro b35 a w S
            refine te S ?_
            refine tl ?_
            replace S := S.frontLs b35 [textL dataS, textL d.name, textL (Lib.itoa d.ver), textL (Lib.itoa d.epoch), d.locked] rfl (fun t ht => by simp at ht; rcases ht with rfl | rfl | rfl | rfl | rfl <;> exact S.t _)
            refine sr S (list_c [textL dataS, textL d.name, textL (Lib.itoa d.ver), textL (Lib.itoa d.epoch), d.locked] (some ⟨b35, 0, none⟩) 5 _ w (by simp) (foots_lt S) (S.mem.fact (LsF (some ⟨b35, 0, none⟩) 0 [textL dataS, textL d.name, textL (Lib.itoa d.ver), textL (Lib.itoa d.epoch), d.locked]))) ?_; clear S; rintro _ a w ⟨q, rfl, hq, hqf⟩ S
            replace S := S.add hqf
            refine te S ?_
            refine tl ?_
            refine sr S (sign_c d.writer leaf q _ w (foots_lt S) (S.t q)) ?_; clear S; rintro _ a w ⟨t, rfl, hts, htf⟩ S
            replace S := S.add htf
            refine te S ?_
            refine tl ?_
            refine sw S ?_; clear S; intro a w S
            refine te S ?_
            refine tn ?_
            exact ⟨b6, t, S.uu, by rw [hts, hq]; rfl, S.sub _ _⟩
        · refine sa S ?_; clear S; intro b6 a w S
          refine te S ?_
          refine tl ?_
          refine sc S ?_; clear S; intro a w S
          refine te S ?_
          refine tl ?_
          refine sc S ?_; clear S; intro a w S
          refine te S ?_
          refine tl ?_
          refine sc S ?_; clear S; intro a w S
          rw [hmv] at S
          refine te S ?_
          refine tl ?_
          refine sc S ?_; clear S; intro a w S
          rw [hme] at S
          refine te S ?_
          refine tl ?_
          refine sn S ?_; clear S; intro b35 a w S
          refine te S ?_
          refine tl ?_
          replace S := S.frontLs b35 [textL dataS, textL d.name, textL (Lib.itoa d.ver), textL (Lib.itoa d.epoch), d.locked] rfl (fun t ht => by simp at ht; rcases ht with rfl | rfl | rfl | rfl | rfl <;> exact S.t _)
          refine sr S (list_c [textL dataS, textL d.name, textL (Lib.itoa d.ver), textL (Lib.itoa d.epoch), d.locked] (some ⟨b35, 0, none⟩) 5 _ w (by simp) (foots_lt S) (S.mem.fact (LsF (some ⟨b35, 0, none⟩) 0 [textL dataS, textL d.name, textL (Lib.itoa d.ver), textL (Lib.itoa d.epoch), d.locked]))) ?_; clear S; rintro _ a w ⟨q, rfl, hq, hqf⟩ S
          replace S := S.add hqf
          refine te S ?_
          refine tl ?_
          refine sr S (sign_c d.writer leaf q _ w (foots_lt S) (S.t q)) ?_; clear S; rintro _ a w ⟨t, rfl, hts, htf⟩ S
          replace S := S.add htf
          refine te S ?_
          refine tl ?_
          refine sw S ?_; clear S; intro a w S
          refine te S ?_
          refine tn ?_
          exact ⟨b6, t, S.uu, by rw [hts, hq]; rfl, S.sub _ _⟩
      clear S; rintro b t uu a w htd S
      refine xtn ?_
      iterate 2 (refine c_seq ?_)
      refine c_region ?_
      refine sq S ?_; clear S; intro a S
      refine sc S ?_; clear S; intro a w S
      refine sq S ?_; clear S; intro a S
      refine wl_nil ?_
      refine xtn ?_
      refine c_cond S (fun h6 => ?_) (fun h6 => ?_)
      · refine c_seq ?_
        refine c_region ?_
        refine sq S ?_; clear S; intro a S
        refine sw S ?_; clear S; intro a w S
        refine sq S ?_; clear S; intro a S
        refine wl_nil ?_
        refine xtn ?_
        refine c_ret ?_
        refine xtr ?_
        have hg : ¬ Good (dataT d.d leaf) := fun hg => by
          rw [← htd] at hg
          rw [good_check.2 hg] at h6; simp at h6
        refine end2 S (fun _ => ?_)
        exact ⟨zeroL, 150, rfl, fun _ _ => zeroL_in _, nofun, fun _ => ⟨rfl, .inr (.inr ⟨rfl, hb, hlf, hg⟩)⟩⟩
      · refine c_skip ?_
        refine xtn ?_
        refine c_seq ?_
        refine c_region ?_
        refine sq S ?_; clear S; intro a S
        refine sw S ?_; clear S; intro a w S
        refine sq S ?_; clear S; intro a S
        refine wl_nil ?_
        refine xtn ?_
        refine c_ret ?_
        have hg : Good (dataT d.d leaf) := by
          rw [← htd]
          exact good_check.1 (by simpa using h6)
        have hlat := S.laterT (M := M) t
        refine end2 S (fun _ => ?_)
        exact ⟨t, 0, rfl, hlat, fun _ => ⟨hb, hlf, hg, htd⟩, fun h => absurd rfl h⟩
end Go.Proofs.YtieeoakdkbackaaDoor

/- Package data: what a reader leaves by, and who takes it; Read. -/
namespace Go.Proofs.YtieeoakdkbackaaDoor
open Go Go.Wk
set_option synthInstance.maxSize 100000
set_option synthInstance.maxHeartbeats 400000
set_option maxRecDepth 100000

instance : StT Tryd.prog 68 := ⟨⟨_, Tryd.underlying68⟩⟩
instance : IfT Tryd.prog 20 := ⟨by kernel_rfl⟩
abbrev wrongV : Value := .iface 68 (.agg ⟨[]⟩)
theorem need_c (b : Bool) (w : World) : RetP Tryd.prog 39 [.bool b] w (fun _ => False) (fun v _ => b = true) (fun ch _ => b = false ∧ ch = pch wrongV) := by
  refine enter Tryd.func39 rfl rfl (Wd.start w) (fun a S => ?_)
  simp only [Tryd.ntmps39, List.length_cons, List.length_nil, Nat.reduceAdd, Nat.reduceSub, List.replicate_succ, List.replicate_zero, List.cons_append, List.nil_append] at S
  refine c_seq ?_
  refine c_region ?_
  iterate 2 (refine sq S ?_; clear S; intro a S)
  refine wl_nil ?_
  refine xtn ?_
  refine c_cond S (fun h0 => ?_) (fun h0 => ?_)
  · refine c_region ?_
    iterate 2 (refine sq S ?_; clear S; intro a S)
    refine sPan S (fun S => ?_)
    exact endX S ⟨by simpa using h0, rfl⟩
  · refine c_skip ?_
    refine endP (end0 S (fun _ => ?_))
    simpa using h0
/-- behind an end that is none of a panic nothing is done. -/
theorem catch_ret (p2 p3 p4 : Value) (w : World) : CallsDIn (FW none) 0 Tryd.prog 38 #[p2, p3, p4] .returning w fun e u' w' => (∃ v, e = .returned v) ∧ u' = .returning ∧ Agree (fun _ => False) w w' := by
  refine callsD_catch Tryd.func38 rfl (l := [p2, p3, p4, undef, undef, undef, undef, undef, undef, undef, undef, undef, undef, undef, undef, undef, undef, undef]) (args := [p2, p3, p4]) rfl (Wd.start w) (.inl rfl) ?_
  rintro x u' (⟨-, rfl, rfl⟩ | ⟨pv, h, -⟩) a S
  · refine c_seq ?_
    refine c_region ?_
    iterate 2 (refine sq S ?_; clear S; intro a S)
    refine wl_nil ?_
    refine xtn ?_
    refine c_condF S ?_
    refine c_skip ?_
    exact ⟨.inl rfl, S.defers, .tuple #[], resC S, ⟨_, rfl⟩, rfl, S.wd.agree⟩
  · cases h
/-- a panic of need's is taken: the results are none. -/
theorem catch_pan (b2 b3 b4 : Nat) (x0 x1 x2 x3 x4 x5 x6 x7 x8 y z : Value) (w0 w : World) (M0 : Nat → Prop) (hw : Wd w0 M0 w [Wk.box b4 29 [z], Wk.box b3 3 [y], Wk.box b2 28 [x0, x1, x2, x3, x4, x5, x6, x7, x8]] []) :
    CallsDIn (FW none) 0 Tryd.prog 38 #[.pointer (some ⟨b2, 0, none⟩), .pointer (some ⟨b3, 0, none⟩), .pointer (some ⟨b4, 0, none⟩)] (.panicking (pch wrongV)) w fun e u' w' => (∃ v, e = .returned v) ∧ u' = .panicking [{ v := wrongV, recovered := true }] ∧
      Wd w0 M0 w' [Wk.box b4 29 [.int .i64 251], Wk.box b3 3 [.int .i64 0], Wk.box b2 28 [str [], .int .i64 0, .int .i64 0, .int .i64 0, .int .i64 0, .int .i64 0, .int .i64 0, str [], .slice none 0 0]] [] := by
  refine callsD_catch Tryd.func38 rfl (l := [.pointer (some ⟨b2, 0, none⟩), .pointer (some ⟨b3, 0, none⟩), .pointer (some ⟨b4, 0, none⟩), undef, undef, undef, undef, undef, undef, undef, undef, undef, undef, undef, undef, undef, undef, undef]) (args := [.pointer (some ⟨b2, 0, none⟩), .pointer (some ⟨b3, 0, none⟩), .pointer (some ⟨b4, 0, none⟩)]) rfl hw (.inr ⟨_, rfl⟩) ?_
  rintro x u' (⟨h, -⟩ | ⟨pv, h, rfl, rfl⟩) a S
  · cases h
  · obtain rfl : x = wrongV := by injection h with h; injection h with h _; injection h with h; exact h.symm
    refine c_seq ?_
    refine c_region ?_
    iterate 2 (refine sq S ?_; clear S; intro a S)
    refine wl_nil ?_
    refine xtn ?_
    refine c_condT S ?_
    iterate 2 (refine c_seq ?_)
    refine c_region ?_
    iterate 5 (refine sq S ?_; clear S; intro a S)
    refine sa S ?_; clear S; intro b4 a w S
    refine sw S ?_; clear S; intro a w S
    refine sq S ?_; clear S; intro a S
    refine wl_nil ?_
    refine xtn ?_
    refine c_seq ?_
    refine c_region ?_
    iterate 2 (refine sq S ?_; clear S; intro a S)
    rw [show (!true) = false from rfl] at S
    refine wl_nil ?_
    refine xtn ?_
    refine c_condF S ?_
    refine c_skip ?_
    refine xtn ?_
    refine c_region ?_
    refine sq S ?_; clear S; intro a S
    iterate 3 (refine sw S ?_; clear S; intro a w S)
    refine wl_nil ?_
    refine ⟨.inl rfl, S.defers, .tuple #[], resC S, ⟨_, rfl⟩, rfl, ?_⟩
    exact (S.sub _ _).wd
end Go.Proofs.YtieeoakdkbackaaDoor

/- Package data: Read. -/
namespace Go.Proofs.YtieeoakdkbackaaDoor
open Go Go.Wk
set_option synthInstance.maxSize 100000
set_option synthInstance.maxHeartbeats 400000
set_option maxRecDepth 100000

theorem ls_mem17 {M : Nat → Prop} {w : World} {p : Option Addr} {xs : List LTerm} (h : Stable M w (LsF p 0 xs)) {x : LTerm} (hx : x ∈ xs) : Stable M w (LtF x) := by
  obtain ⟨k, hk⟩ := List.getElem?_of_mem hx
  exact h.imp fun w' hw' => (LsIn.get hw' hk).2
theorem good_len {x : LTerm} (h : Good x.t) : x.text.length ≤ 64 := by
  rw [x.t_eq] at h
  have hp := plain_shape (goodP h)
  by_cases hn : x.text = []
  · rw [hn]; simp
  · rcases hp with q | q | q | q | q | q | q
    · exact q.2.2.2.1
    all_goals exact absurd (by first | exact q.2.2.2.1 | exact q.2.2.2.2.1 | exact q.2.2.2.2.2.1) hn
theorem itoa_eq {n m : Int} (hn : 0 ≤ n ∧ n ≤ 65535) (hm : 0 ≤ m ∧ m ≤ 65535) (h : textT (Lib.itoa n) = textT (Lib.itoa m)) : n = m := by
  simp only [textT, Term.mk.injEq] at h
  have h1 := atoi_itoa hn
  rw [h.2.2.2.1, atoi_itoa hm] at h1
  injection h1 with h1
  exact h1.symm
abbrev ptr (b : Nat) : Value := .pointer (some ⟨b, 0, none⟩)
abbrev defR (b2 b3 b4 : Nat) : Deferred := { target := .fn (.func 38) ⟨[ptr b2, ptr b3, ptr b4]⟩, args := #[] }
abbrev zDat : List Value := [str [], .int .i64 0, .int .i64 0, .int .i64 0, .int .i64 0, .int .i64 0, .int .i64 0, str [], .slice none 0 0]
abbrev zDat0 : List Value := [.string ⟨#[]⟩, .int .i64 0, .int .i64 0, .int .i64 0, .int .i64 0, .int .i64 0, .int .i64 0, .string ⟨#[]⟩, .slice none 0 0]
abbrev bxs (b2 b3 b4 : Nat) (cs : List Value) : List Wk.Item := [Wk.box b4 29 [.int .i64 0], Wk.box b3 3 [.int .i64 0], Wk.box b2 28 cs]
theorem read_pan {a : Act} {w0 w : World} {M0 : Nat → Prop} {Rr : Ending → World → Prop} (b2 b3 b4 : Nat) (x0 x1 x2 x3 x4 x5 x6 x7 x8 y z : Value) (hd : a.defers = [defR b2 b3 b4]) (h2 : a.tmps[2]? = some (ptr b2)) (h3 : a.tmps[3]? = some (ptr b3)) (h4 : a.tmps[4]? = some (ptr b4))
    (hw : Wd w0 M0 w [Wk.box b4 29 [z], Wk.box b3 3 [y], Wk.box b2 28 [x0, x1, x2, x3, x4, x5, x6, x7, x8]] [])
    (hR : ∀ w', Agree M0 w0 w' → Rr (.returned (.tuple ⟨[.agg ⟨zDat⟩, .int .i64 0, .int .i64 251]⟩)) w') : bodyPostDIn (FW none) 0 Tryd.prog Tryd.f9 Rr (.panic (pch wrongV)) a w := by
  refine leavePan (ca := [ptr b2, ptr b3, ptr b4]) hd (catch_pan b2 b3 b4 x0 x1 x2 x3 x4 x5 x6 x7 x8 y z w0 w M0 hw) fun w' hK => ⟨_, ?_, hR w' hK.agree⟩
  have n2 : Nth a.tmps.toList 2 (ptr b2) := ⟨by simpa using h2⟩
  have n3 : Nth a.tmps.toList 3 (ptr b3) := ⟨by simpa using h3⟩
  have n4 : Nth a.tmps.toList 4 (ptr b4) := ⟨by simpa using h4⟩
  exact res3 (l := a.tmps.toList) rfl hK.held
def DReadR (M : Nat → Prop) (T : Term) (v : Value) (w : World) : Prop := ∃ (d : LDat) (leaf e : Int), v = .tuple ⟨[vDat d, .int .i64 leaf, .int .i64 e]⟩ ∧ Stable M w (LtF d.locked) ∧ d.name.length ≤ 64 ∧
  (e = 0 → datB d.d = true ∧ T = dataT d.d leaf ∧ Good T) ∧ (e ≠ 0 → e = 251 ∧ leaf = 0 ∧ d = ⟨[], 0, 0, 0, zeroL⟩ ∧ ∀ d leaf, datB d = true → T = dataT d leaf → ¬ Good T)
theorem dread_c (t : LTerm) (M : Nat → Prop) (w0 : World) (hM : ∀ k, M k → k < w0.heap.size) (ht : Stable M w0 LibF) (hf : Stable M w0 (LtF t)) : Ret Tryd.prog 9 [vL t] w0 (fun _ => False) fun v w' => DReadR M t.t v w' := by
  have hbad : ∀ (w' : World), (∀ d leaf, datB d = true → t.t = dataT d leaf → ¬ Good t.t) → DReadR M t.t (.tuple ⟨[.agg ⟨zDat⟩, .int .i64 0, .int .i64 251]⟩) w' := fun w' h => ⟨⟨[], 0, 0, 0, zeroL⟩, 0, 251, rfl, fun _ _ => zeroL_in _, by simp, nofun, fun _ => ⟨rfl, rfl, rfl, h⟩⟩
  refine enterD Tryd.func9 rfl rfl (Wd.beginM (M := M) (fs := [TabF, LibF, LtF t]) hM (by simp; exact ⟨ht.imp fun _ h => h.1, ht, hf⟩)) (fun a S => ?_)
  simp only [Tryd.ntmps9, List.length_cons, List.length_nil, Nat.reduceAdd, Nat.reduceSub, List.replicate_succ, List.replicate_zero, List.cons_append, List.nil_append] at S
  refine c_seq ?_
  refine c_region ?_
  refine sa S ?_; clear S; intro b1 a w S
  refine sa S ?_; clear S; intro b2 a w S
  refine sa S ?_; clear S; intro b3 a w S
  refine sa S ?_; clear S; intro b4 a w S
  refine wl_nil ?_
  refine xtn ?_
  refine c_seq ?_
  refine c_region ?_
  refine sq S ?_; clear S; intro a S
  refine sdef S ?_; clear S; intro a S
  refine wl_nil ?_
  refine xtn ?_
  refine c_seq ?_
  refine c_region ?_
  refine sq S ?_; clear S; intro a S
  refine sc S ?_; clear S; intro a w S
  iterate 2 (refine sq S ?_; clear S; intro a S)
  iterate 3 (refine gQ S ?_; clear S; intro a S)
  refine sq S ?_; clear S; intro a S
  refine srP S (need_c _ _) (fun ch w' hx S => ?_) ?_
  · obtain ⟨hb, rfl⟩ := hx
    refine read_pan b2 b3 b4 _ _ _ _ _ _ _ _ _ _ _ S.defers (by rw [S.slots]; rfl) (by rw [S.slots]; rfl) (by rw [S.slots]; rfl) (S.sub (bxs b2 b3 b4 zDat0) []).wd (fun w' ha => ⟨_, rfl, ha, hbad w' fun d leaf _ he hg => ?_⟩)
    have e1 : t.kind = 8 := by rw [← kind_t, he]; rfl
    rw [good_check.2 hg, e1] at hb; simp at hb
  clear S; rintro _ a w hb S
  have hg : Good t.t ∧ t.kind = 8 := by
    have : checkF t.t = 0 ∧ t.kind = 8 := by simpa using hb
    exact ⟨good_check.1 this.1, this.2⟩
  obtain ⟨hl1, hst, hu1, hn1⟩ := good_signK hg.1 hg.2
  have hK0 : KLt 0 t.kids.length := ⟨by omega⟩
  clear hb
  refine wl_nil ?_
  refine xtn ?_
  refine c_seq ?_
  refine c_region ?_
  iterate 4 (refine sq S ?_; clear S; intro a S)
  refine sr S (unlist2_c (nthL t.kids 0) _ w (foots_lt S) (S.t (nthL t.kids 0))) ?_; clear S; rintro _ a w ⟨pu, cu, us, b0, rfl, huf, hul, hb1, hb2⟩ S
  replace S := S.add (Φ := GlF pu us) (huf.imp fun _ h => ls_gl h)
  have hb0 : ∀ d leaf, t.t = dataT d leaf → b0 = true ∧ us.map LTerm.t = [textT dataS, textT d.name, textT (Lib.itoa d.ver), textT (Lib.itoa d.epoch), d.locked] ∧ d.writer = t.user ∧ leaf = t.num := fun d leaf he => by
    rw [hst] at he
    simp only [dataT, signT, Term.mk.injEq, List.cons.injEq, and_true] at he
    have he2 := he.2.2.2.2
    cases hb : b0 with
    | false =>
      refine absurd ?_ ((hb2 hb).2 _ he2)
      have hg' := hg.1
      rw [hst] at hg'
      exact good_kid hg' (by simp)
    | true => exact ⟨rfl, listT_inj (by rw [← (hb1 hb).2, he2]), he.2.1.symm, he.2.2.1.symm⟩
  have hin : ∀ k, Stable (foots (bxs b2 b3 b4 zDat0 ++ [Wk.box b1 24 t.cells, ext M])) w (LtF (nthG us k)) := fun k => by
    rcases Nat.lt_or_ge k us.length with h | h
    · exact ls_mem17 huf (nth_mem h)
    · have e : nthG us k = zeroL := by simp [nthG, List.getD_eq_getElem?_getD, List.getElem?_eq_none h]; rfl
      rw [e]; exact fun _ _ => zeroL_in _
  replace S := ((((S.add (hin 0)).add (hin 1)).add (hin 2)).add (hin 3)).add (hin 4)
  replace S := S.add (Φ := LtF (textL dataS)) (fun _ _ => by simp [LtIn, textL, LsIn, LtF])
  iterate 5 (refine sq S ?_; clear S; intro a S)
  refine wl_nil ?_
  refine xtn ?_
  refine c_seq ?_
  have hC0 : CLt [b0 && decide ((us.length : Int) = 5)] 0 us.length := ⟨fun h => by have := h _ (List.mem_singleton_self _); simp at this; omega⟩
  refine c_drawX [(0, true), (1, true), (2, true), (3, true), (4, true), (5, true), (6, true), (7, true), (8, true), (9, true), (10, false), (11, false), (12, true), (13, true), (14, true), (15, true), (16, true), (17, true), (18, true), (19, true), (20, false)] [] (⟨[(2, ptr b2), (3, ptr b3), (4, ptr b4)], [defR b2 b3 b4], fun ch w => ch = pch wrongV ∧ Wd w0 (fun _ => False) w (bxs b2 b3 b4 zDat0) [] ∧ ∀ d leaf, datB d = true → t.t = dataT d leaf → ¬ Good t.t⟩) S (fun ch a w ⟨hk, hd, hch, hw, hx⟩ => by subst hch; exact read_pan b2 b3 b4 _ _ _ _ _ _ _ _ _ _ _ hd (hk (2, ptr b2) (by simp)) (hk (3, ptr b3) (by simp)) (hk (4, ptr b4) (by simp)) hw (fun w' ha => ⟨_, rfl, ha, hbad w' hx⟩)) ?_; clear S; intro w S
  iterate 2 (refine dqX S ?_; clear S; intro a S)
  iterate 3 (refine dqGX S ?_; clear S; intro a S)
  iterate 2 (refine dqX S ?_; clear S; intro a S)
  iterate 3 (refine dqGX S ?_; clear S; intro a S)
  refine dlX ?_
  refine gC S ?_; clear S; intro a w S
  refine deX S ?_
  refine dlX ?_
  refine gC S ?_; clear S; intro a w S
  refine deX S ?_
  have hC1 : CLt [b0 && decide ((us.length : Int) = 5) && sameF (nthG us 0).t (textL [100, 97, 116, 97]).t] 1 us.length := ⟨fun h => by have := h _ (List.mem_singleton_self _); simp at this; omega⟩
  iterate 2 (refine dqX S ?_; clear S; intro a S)
  iterate 5 (refine dqGX S ?_; clear S; intro a S)
  refine dqX S ?_; clear S; intro a S
  refine dlX ?_
  have hfive : ∀ d leaf, t.t = dataT d leaf → us.length = 5 ∧ (nthG us 0).t = textT dataS ∧ (nthG us 1).t = textT d.name ∧ (nthG us 2).t = textT (Lib.itoa d.ver) ∧ (nthG us 3).t = textT (Lib.itoa d.epoch) ∧ (nthG us 4).t = d.locked := fun d leaf he => by
    have e1 := (hb0 d leaf he).2.1
    have e2 : us.length = 5 := by have := congrArg List.length e1; simpa using this
    have e3 : us.map LTerm.t = [(nthG us 0).t, (nthG us 1).t, (nthG us 2).t, (nthG us 3).t, (nthG us 4).t] := by
      match us, e2 with
      | [_, _, _, _, _], _ => rfl
    rw [e3] at e1
    simp only [List.cons.injEq, and_true] at e1
    exact ⟨e2, e1⟩
  refine srP S (need_c _ _) (fun ch w' hx S => ?_) ?_
  · obtain ⟨hb, rfl⟩ := hx
    refine XP.of S (fun p hp => by simp at hp; rcases hp with rfl | rfl | rfl <;> rfl) rfl ⟨rfl, (S.sub (bxs b2 b3 b4 zDat0) []).wd, fun d leaf _ he _ => ?_⟩
    obtain ⟨f1, f2, f3, -⟩ := hfive d leaf he
    have f4 : sameF (nthG us 0).t (textL [100, 97, 116, 97]).t = true := (sameF_iff _ _).2 f2
    have f5 : (nthG us 1).kind = 1 := by rw [← kind_t, f3]; rfl
    rw [(hb0 d leaf he).1, f1, f4, f5] at hb
    simp at hb
  clear S; rintro _ a w hb S
  refine deX S ?_
  refine dnX ?_
  refine xtn ?_
  refine c_seq ?_
  have hb' : b0 = true ∧ us.length = 5 ∧ (nthG us 0).t = textT dataS ∧ (nthG us 1).kind = 1 := by
    simp only [Bool.and_eq_true, decide_eq_true_eq] at hb
    exact ⟨hb.1.1.1, by omega, (sameF_iff _ _).1 hb.1.2, hb.2⟩
  obtain ⟨hb0t, hu5, hu0, hu1k⟩ := hb'
  have hmap : us.map LTerm.t = [(nthG us 0).t, (nthG us 1).t, (nthG us 2).t, (nthG us 3).t, (nthG us 4).t] := by
    match us, hu5 with
    | [_, _, _, _, _], _ => rfl
  have hgl := hb1 hb0t
  rw [hmap] at hgl
  have g0 := hgl.1
  rw [hgl.2] at g0
  have g1 : Good (listT [(nthG us 1).t, (nthG us 2).t, (nthG us 3).t, (nthG us 4).t]) := good_kid g0 (by simp)
  have g2 : Good (listT [(nthG us 2).t, (nthG us 3).t, (nthG us 4).t]) := good_kid g1 (by simp)
  have g3 : Good (listT [(nthG us 3).t, (nthG us 4).t]) := good_kid g2 (by simp)
  have g4 : Good (listT [(nthG us 4).t]) := good_kid g3 (by simp)
  have q1 : Good (nthG us 1).t := good_kid g1 (by simp)
  have q2 : Good (nthG us 2).t := good_kid g2 (by simp)
  have q3 : Good (nthG us 3).t := good_kid g3 (by simp)
  have q4 : Good (nthG us 4).t := good_kid g4 (by simp)
  have t1 := good_textK q1 hu1k
  have hN1 : KLt 1 us.length := ⟨by omega⟩
  have hN2 : KLt 2 us.length := ⟨by omega⟩
  have hN3 : KLt 3 us.length := ⟨by omega⟩
  have hN4 : KLt 4 us.length := ⟨by omega⟩
  refine c_region ?_
  iterate 3 (refine sq S ?_; clear S; intro a S)
  refine sr S (mnumber_c (nthG us 2) 9999 (by have := good_len q2; omega) (by omega) _ (S.mem.fact0 LibF) (S.mem.fact0 (LtF (nthG us 2)))) ?_; clear S; rintro _ a w ⟨n1, k1, rfl, n1a, n1b⟩ S
  iterate 5 (refine sq S ?_; clear S; intro a S)
  refine wl_nil ?_
  refine xtn ?_
  refine c_seq ?_
  refine c_region ?_
  iterate 3 (refine sq S ?_; clear S; intro a S)
  refine sr S (mnumber_c (nthG us 3) 8 (by have := good_len q3; omega) (by omega) _ (S.mem.fact0 LibF) (S.mem.fact0 (LtF (nthG us 3)))) ?_; clear S; rintro _ a w ⟨n2, k2, rfl, n2a, n2b⟩ S
  iterate 5 (refine sq S ?_; clear S; intro a S)
  refine wl_nil ?_
  refine xtn ?_
  refine c_seq ?_
  refine c_region ?_
  iterate 2 (refine sq S ?_; clear S; intro a S)
  refine gQ S ?_; clear S; intro a S
  refine sq S ?_; clear S; intro a S
  refine srP S (need_c _ _) (fun ch w' hx S => ?_) ?_
  · obtain ⟨hb, rfl⟩ := hx
    refine read_pan b2 b3 b4 _ _ _ _ _ _ _ _ _ _ _ S.defers (by rw [S.slots]; rfl) (by rw [S.slots]; rfl) (by rw [S.slots]; rfl) (S.sub (bxs b2 b3 b4 zDat0) []).wd (fun w' ha => ⟨_, rfl, ha, hbad w' fun d leaf hd he _ => ?_⟩)
    obtain ⟨-, a2, a3, a4, a5, -, -, -, -⟩ := datB_iff.1 hd
    obtain ⟨-, -, -, f4, f5, -⟩ := hfive d leaf he
    cases hk1 : k1 with
    | false => exact (n1b hk1).2 d.ver (by omega) a3 f4
    | true =>
      cases hk2 : k2 with
      | false => exact (n2b hk2).2 d.epoch (by omega) a5 f5
      | true => rw [hk1, hk2] at hb; cases hb
  clear S; rintro _ a w hb2 S
  have hk12 : k1 = true ∧ k2 = true := by simpa using hb2
  obtain ⟨v1, v2⟩ := n1a hk12.1
  obtain ⟨e1, e2⟩ := n2a hk12.2
  refine wl_nil ?_
  refine xtn ?_
  refine c_seq ?_
  refine c_drawD [(0, true), (1, true), (2, true), (3, true), (4, true), (5, true), (6, true), (7, true), (8, true), (9, true), (10, true), (11, true), (12, false)] [b2] S ?_; clear S; intro w S
  iterate 12 (refine dq S ?_; clear S; intro a S)
  refine dl ?_
  refine sw S ?_; clear S; intro a w S
  refine de S ?_
  refine dn ?_
  refine xtn ?_
  refine c_seq ?_
  rw [show nthL us 4 = nthG us 4 from (nthG_L us 4).symm] at S
  refine c_region ?_
  refine sq S ?_; clear S; intro a S
  refine sr S (dcheck_c ⟨(nthG us 1).text, n1, n2, t.user, nthG us 4⟩ (by have := t1.2; show (nthG us 1).text.length ≤ _; omega) _ (S.mem.fact0 (LtF (nthG us 4)))) ?_; clear S; rintro _ a w rfl S
  obtain ⟨dd, hdd⟩ : ∃ dd : LDat, dd = ⟨(nthG us 1).text, n1, n2, t.user, nthG us 4⟩ := ⟨_, rfl⟩
  rw [← hdd] at S
  refine sq S ?_; clear S; intro a S
  rw [show decide ((if datB dd.d then (0 : Int) else 270) = 0) = datB dd.d from by cases datB dd.d <;> rfl] at S
  refine srP S (need_c _ _) (fun ch w' hx S => ?_) ?_
  · obtain ⟨hb, rfl⟩ := hx
    refine read_pan b2 b3 b4 _ _ _ _ _ _ _ _ _ _ _ S.defers (by rw [S.slots]; rfl) (by rw [S.slots]; rfl) (by rw [S.slots]; rfl) (S.sub (bxs b2 b3 b4 (cDat ⟨(nthG us 1).text, n1, n2, t.user, nthG us 4⟩)) []).wd (fun w' ha => ⟨_, rfl, ha, hbad w' fun d leaf hd he _ => ?_⟩)
    obtain ⟨-, a2, a3, a4, a5, -, -, -, -⟩ := datB_iff.1 hd
    obtain ⟨-, -, f3, f4, f5, f6⟩ := hfive d leaf he
    obtain ⟨-, -, f7, -⟩ := hb0 d leaf he
    have c1 : d.name = (nthG us 1).text := by
      have := t1.1.symm.trans f3
      simp only [textT, Term.mk.injEq] at this
      exact this.2.2.2.1.symm
    have c2 : d.ver = n1 := itoa_eq ⟨by omega, by omega⟩ ⟨by omega, by omega⟩ (f4.symm.trans v2)
    have c3 : d.epoch = n2 := itoa_eq ⟨by omega, by omega⟩ ⟨by omega, by omega⟩ (f5.symm.trans e2)
    have : dd.d = d := by rw [hdd]; obtain ⟨x1, x2, x3, x4, x5⟩ := d; simp only at c1 c2 c3 f6 f7; subst c1 c2 c3 f7; rw [← f6]; rfl
    rw [this, hd] at hb; cases hb
  clear S; rintro _ a w hb3 S
  refine wl_nil ?_
  refine xtn ?_
  refine c_seq ?_
  refine' c_drawT0 (.q 1 (.q 2 (.l 0 (.l 3 (.l 4 (.l 5 (.e))))))) [b2, b3, b4] S ?_ ?_
  rotate_left 3
  · intro w S
    iterate 2 (refine tq S ?_; clear S; intro a S)
    refine tl ?_
    refine sq S ?_; clear S; intro a S
    refine te S ?_
    refine tl ?_
    refine sw S ?_; clear S; intro a w S
    refine te S ?_
    refine tl ?_
    refine sw S ?_; clear S; intro a w S
    refine te S ?_
    refine tl ?_
    refine sw S ?_; clear S; intro a w S
    refine te S ?_
    refine tn ?_
    exact S
  intro  a w S
  refine xtn ?_
  refine c_ret ?_
  have hlat := S.laterT (M := M) (nthG us 4)
  refine leaveRet S.defers (catch_ret _ _ _ w) (fun w' hw' => ⟨_, res3 S.slots (S.wd.step hw').held, _, rfl, (S.wd.step hw').agree, dd, t.num, 0, by rw [hdd], ?_, ?_, fun _ => ⟨hb3, ?_, hg.1⟩, fun h => absurd rfl h⟩)
  · rw [hdd]; exact hlat.later (hw'.mono fun _ _ h => h.elim)
  · rw [hdd]; exact t1.2
  · rw [hst, hgl.2, hu0, t1.1, v2, e2, hdd]; rfl
end Go.Proofs.YtieeoakdkbackaaDoor

/- Package data: Same, Lock, Open. -/
namespace Go.Proofs.YtieeoakdkbackaaDoor
open Go Go.Wk
set_option synthInstance.maxSize 100000
set_option synthInstance.maxHeartbeats 400000
set_option maxRecDepth 100000

structure LRest where
  name : List UInt8
  ver : Int
  epoch : Int
  writer : Int
deriving DecidableEq
abbrev vRest (r : LRest) : Value := .agg ⟨[str r.name, .int .i64 r.ver, .int .i64 r.epoch, .int .i64 r.writer]⟩
theorem eq_rest (m n : LRest) (w : World) : (Go.Op.equalIn 10000 81 (vRest m) (vRest n)).run Tryd.prog w = .ok (decide (m = n)) w := by
  have u3 := Tryd.underlying3
  have a3 := Tryd.isAgg3
  have z3 := Tryd.sizeOf3
  have u9 := Tryd.underlying9
  have a9 := Tryd.isAgg9
  have z9 := Tryd.sizeOf9
  have hS : Tryd.prog.underlying 81 = some (.struct (Tryd.prog.fieldsOf 81)) := by kernel_rfl
  have hp : Tryd.prog.stoodInHeld 81 = false := by kernel_rfl
  obtain ⟨a, x, x2, x3⟩ := m
  obtain ⟨b, y, y2, y3⟩ := n
  rw [show (10000 : Nat) = 9999 + 1 from rfl, run_equalIn_agg w 9999 81 _ _ hS hp]
  simp only [Program.fieldsOf, Tryd.underlying81]
  go_simp
  by_cases h1 : a = b <;> by_cases h2 : x = y <;> by_cases h3 : x2 = y2 <;> by_cases h4 : x3 = y3 <;> simp [h1, h2, h3, h4]
theorem guard_rest : Tryd.prog.eqGuardType Tryd.prog.depth 81 = false := by kernel_rfl
section
variable {l : Cx} {bs : List Wk.Item} {fs : List (World → Prop)} {x y : Operand} {a b : List UInt8} {x1 x2 x3 y1 y2 y3 : Int} {t' ty : TypeId}
instance opEqRest [Ev l x (.agg ⟨[str a, .int .i64 x1, .int .i64 x2, .int .i64 x3]⟩)] [Ev l y (.agg ⟨[str b, .int .i64 y1, .int .i64 y2, .int .i64 y3]⟩)] : OpQ Tryd.prog (.binOp .eql 81 x y t') ty l bs fs (.bool (decide ((⟨a, x1, x2, x3⟩ : LRest) = ⟨b, y1, y2, y3⟩))) := ⟨fun ρ w h _ => by
  have e := eq_rest ⟨a, x1, x2, x3⟩ ⟨b, y1, y2, y3⟩ w
  simp only [vRest] at e
  simp [xop, execOp, h.ev (x := x) (v := .agg ⟨[str a, .int .i64 x1, .int .i64 x2, .int .i64 x3]⟩), h.ev (x := y) (v := .agg ⟨[str b, .int .i64 y1, .int .i64 y2, .int .i64 y3]⟩), Sem.run_bind, run_eqGuard_agg w .eql 81 x y _ _ guard_rest, run_eql_struct, e]⟩
end
theorem dsame1_c (d : LDat) (w0 : World) : Ret Tryd.prog 49 [vDat d] w0 (fun _ => False) fun v _ => v = .agg ⟨[str d.name, .int .i64 d.ver, .int .i64 d.epoch, .int .i64 d.writer]⟩ := by
  refine enter Tryd.func49 rfl rfl (Wd.start w0) (fun a S => ?_)
  simp only [Tryd.ntmps49, List.length_cons, List.length_nil, Nat.reduceAdd, Nat.reduceSub, List.replicate_succ, List.replicate_zero, List.cons_append, List.nil_append] at S
  refine c_seq ?_
  refine c_region ?_
  refine sa S ?_; clear S; intro b1 a w S
  refine sa S ?_; clear S; intro b2 a w S
  refine wl_nil ?_
  refine xtn ?_
  refine c_seq ?_
  refine c_region ?_
  iterate 9 (refine sq S ?_; clear S; intro a S)
  refine sw S ?_; clear S; intro a w S
  refine wl_nil ?_
  refine xtn ?_
  refine c_ret ?_
  refine end1 S (fun _ => rfl)
instance {d : LDat} {bs fs} : CallV Tryd.prog 49 [vDat d] bs fs (.agg ⟨[str d.name, .int .i64 d.ver, .int .i64 d.epoch, .int .i64 d.writer]⟩) := ⟨fun w _ => dsame1_c d w⟩
def dsameB (d e : Dat) : Bool := decide ((⟨d.name, d.ver, d.epoch, d.writer⟩ : LRest) = ⟨e.name, e.ver, e.epoch, e.writer⟩) && sameF d.locked e.locked
theorem dsameB_iff {d e : Dat} : dsameB d e = true ↔ d = e := by
  obtain ⟨a, x, x2, x3, t⟩ := d
  obtain ⟨b, y, y2, y3, u⟩ := e
  simp only [dsameB, Bool.and_eq_true, decide_eq_true_eq, LRest.mk.injEq, Dat.mk.injEq, sameF_iff, and_assoc]
theorem dsame_c (d e : LDat) (w0 : World) (hd : Stable (fun _ => False) w0 (LtF d.locked)) (he : Stable (fun _ => False) w0 (LtF e.locked)) : Ret Tryd.prog 14 [vDat d, vDat e] w0 (fun _ => False) fun v _ => v = .bool (dsameB d.d e.d) := by
  refine enter Tryd.func14 rfl rfl (Wd.begin (fs := [LtF d.locked, LtF e.locked]) (by simp; exact ⟨hd, he⟩)) (fun a S => ?_)
  simp only [Tryd.ntmps14, List.length_cons, List.length_nil, Nat.reduceAdd, Nat.reduceSub, List.replicate_succ, List.replicate_zero, List.cons_append, List.nil_append] at S
  refine c_seq ?_
  refine c_region ?_
  refine sa S ?_; clear S; intro b2 a w S
  refine sa S ?_; clear S; intro b3 a w S
  refine sq S ?_; clear S; intro a S
  refine wl_nil ?_
  refine xtn ?_
  refine c_seq ?_
  refine c_region ?_
  refine sq S ?_; clear S; intro a S
  refine wl_nil ?_
  refine xtn ?_
  refine c_seq ?_
  refine c_drawD [(0, true), (1, true), (3, true), (4, true), (2, false), (5, false), (6, true), (7, true), (8, true), (9, true), (10, true), (11, true), (12, false), (13, true), (14, true)] [] S ?_; clear S; intro w S
  iterate 4 (refine dq S ?_; clear S; intro a S)
  refine dl ?_
  refine sr S (dsame1_c d _) ?_; clear S; rintro _ a w rfl S
  refine de S ?_
  refine dl ?_
  refine sr S (dsame1_c e _) ?_; clear S; rintro _ a w rfl S
  refine de S ?_
  iterate 2 (refine dq S ?_; clear S; intro a S)
  iterate 4 (refine dqG S ?_; clear S; intro a S)
  refine dl ?_
  refine gC S ?_; clear S; intro a w S
  refine de S ?_
  iterate 2 (refine dq S ?_; clear S; intro a S)
  refine dn ?_
  refine xtn ?_
  refine c_ret ?_
  refine end1 S (fun _ => rfl)
def lockF (s b : Term) : Term × Int := if (keyF s).2 ≠ 0 then (zeroT, (keyF s).2) else if checkF (.mk 6 0 0 [] [(keyF s).1, b]) ≠ 0 then (zeroT, 150) else (.mk 6 0 0 [] [(keyF s).1, b], 0)
theorem dlock_c (s b : LTerm) (M : Nat → Prop) (w0 : World) (hM : ∀ k, M k → k < w0.heap.size) (hs : Stable M w0 (LtF s)) (hb : Stable M w0 (LtF b)) : Ret Tryd.prog 34 [vL s, vL b] w0 (fun _ => False) fun v w' => TE M w' v (lockF s.t b.t).1 (lockF s.t b.t).2 := by
  refine enter Tryd.func34 rfl rfl (Wd.beginM (M := M) (fs := [LtF s, LtF b]) hM (by simp; exact ⟨hs, hb⟩)) (fun a S => ?_)
  simp only [Tryd.ntmps34, List.length_cons, List.length_nil, Nat.reduceAdd, Nat.reduceSub, List.replicate_succ, List.replicate_zero, List.cons_append, List.nil_append] at S
  refine c_seq ?_
  refine c_region ?_
  refine sa S ?_; clear S; intro b2 a w S
  refine sa S ?_; clear S; intro b3 a w S
  refine sa S ?_; clear S; intro b4 a w S
  refine sq S ?_; clear S; intro a S
  refine wl_nil ?_
  refine xtn ?_
  refine c_seq ?_
  refine c_region ?_
  refine sq S ?_; clear S; intro a S
  refine sr S (key_c s _ w (foots_lt S) (S.t s)) ?_; clear S; rintro _ a w ⟨k, rfl, hk, hkf⟩ S
  replace S := S.add hkf
  iterate 3 (refine sq S ?_; clear S; intro a S)
  refine sa S ?_; clear S; intro b6 a w S
  refine sw S ?_; clear S; intro a w S
  refine sq S ?_; clear S; intro a S
  refine wl_nil ?_
  refine xtn ?_
  iterate 2 (refine c_seq ?_)
  refine c_region ?_
  iterate 2 (refine sq S ?_; clear S; intro a S)
  refine wl_nil ?_
  refine xtn ?_
  refine c_cond S (fun h2 => ?_) (fun h2 => ?_)
  · refine c_seq ?_
    refine c_region ?_
    iterate 2 (refine sq S ?_; clear S; intro a S)
    refine sw S ?_; clear S; intro a w S
    refine sq S ?_; clear S; intro a S
    refine wl_nil ?_
    refine xtn ?_
    refine c_ret ?_
    refine xtr ?_
    have h3 : (keyF s.t).2 ≠ 0 := by simpa using h2
    have e : lockF s.t b.t = (zeroT, (keyF s.t).2) := by unfold lockF; rw [if_pos h3]
    refine end2 S (fun _ => ?_)
    exact ⟨zeroL, by rw [e] <;> rfl, by rw [e] <;> rfl, fun w _ => zeroL_in w⟩
  · refine c_skip ?_
    refine xtn ?_
    refine c_seq ?_
    refine c_region ?_
    iterate 2 (refine sq S ?_; clear S; intro a S)
    have h3 : ¬ (keyF s.t).2 ≠ 0 := by simpa using h2
    refine sr S (lock_c k b _ w (foots_lt S) (S.t k) (S.t b)) ?_; clear S; rintro _ a w ⟨q, rfl, hq, hqf⟩ S
    replace S := S.add hqf
    refine sa S ?_; clear S; intro b8 a w S
    refine sw S ?_; clear S; intro a w S
    refine wl_nil ?_
    refine xtn ?_
    iterate 2 (refine c_seq ?_)
    refine c_region ?_
    refine sq S ?_; clear S; intro a S
    refine sc S ?_; clear S; intro a w S
    refine sq S ?_; clear S; intro a S
    refine wl_nil ?_
    refine xtn ?_
    refine c_cond S (fun h5 => ?_) (fun h5 => ?_)
    · refine c_seq ?_
      refine c_region ?_
      refine sq S ?_; clear S; intro a S
      refine sw S ?_; clear S; intro a w S
      refine sq S ?_; clear S; intro a S
      refine wl_nil ?_
      refine xtn ?_
      refine c_ret ?_
      refine xtr ?_
      have h6 : checkF (.mk 6 0 0 [] [(keyF s.t).1, b.t]) ≠ 0 := by
        have : checkF q.t ≠ 0 := by simpa using h5
        rw [hq, hk] at this; exact this
      have e : lockF s.t b.t = (zeroT, 150) := by unfold lockF; rw [if_neg h3, if_pos h6]
      refine end2 S (fun _ => ?_)
      exact ⟨zeroL, by rw [e] <;> rfl, by rw [e] <;> rfl, fun w _ => zeroL_in w⟩
    · refine c_skip ?_
      refine xtn ?_
      refine c_seq ?_
      refine c_region ?_
      refine sq S ?_; clear S; intro a S
      refine sw S ?_; clear S; intro a w S
      refine sq S ?_; clear S; intro a S
      refine wl_nil ?_
      refine xtn ?_
      refine c_ret ?_
      have h6 : ¬ checkF (.mk 6 0 0 [] [(keyF s.t).1, b.t]) ≠ 0 := by
        have : ¬ checkF q.t ≠ 0 := by simpa using h5
        rw [hq, hk] at this; exact this
      have e : lockF s.t b.t = (.mk 6 0 0 [] [(keyF s.t).1, b.t], 0) := by unfold lockF; rw [if_neg h3, if_neg h6]
      have hlat := S.laterT (M := M) q
      refine end2 S (fun _ => ?_)
      exact ⟨q, by rw [e] <;> rfl, by rw [e, hq, hk]; rfl, hlat⟩
def kid (t : Term) (k : Nat) : Term := match t with | .mk _ _ _ _ ks => ks.getD k zeroT
theorem kid_t (t : LTerm) (k : Nat) (h : k < t.kids.length) : kid t.t k = (nthL t.kids k).t := by
  rw [t.t_eq, kid, List.getD_eq_getElem?_getD, List.getElem?_map, nth_get h]; rfl
def openF (d : Dat) (s : Term) (m : Int) : Term × Int :=
  if datB d = false then (zeroT, 270) else if (backF s m d.epoch).2 ≠ 0 then (zeroT, (backF s m d.epoch).2)
  else if (keyF (backF s m d.epoch).1).2 = 0 ∧ sameF (keyF (backF s m d.epoch).1).1 (kid d.locked 0) = true then (kid d.locked 1, 0) else (zeroT, 271)
theorem dopen_c (d : LDat) (s : LTerm) (m : Int) (hl : d.name.length ≤ 1000000) (M : Nat → Prop) (w0 : World) (hM : ∀ k, M k → k < w0.heap.size) (hd : Stable M w0 (LtF d.locked)) (hs : Stable M w0 (LtF s)) :
    Ret Tryd.prog 35 [vDat d, vL s, .int .i64 m] w0 (fun _ => False) fun v w' => TE M w' v (openF d.d s.t m).1 (openF d.d s.t m).2 := by
  refine enter Tryd.func35 rfl rfl (Wd.beginM (M := M) (fs := [LtF d.locked, LtF s]) hM (by simp; exact ⟨hd, hs⟩)) (fun a S => ?_)
  simp only [Tryd.ntmps35, List.length_cons, List.length_nil, Nat.reduceAdd, Nat.reduceSub, List.replicate_succ, List.replicate_zero, List.cons_append, List.nil_append] at S
  refine c_seq ?_
  refine c_region ?_
  refine sa S ?_; clear S; intro b3 a w S
  refine sa S ?_; clear S; intro b4 a w S
  refine sa S ?_; clear S; intro b6 a w S
  refine sq S ?_; clear S; intro a S
  refine wl_nil ?_
  refine xtn ?_
  iterate 2 (refine c_seq ?_)
  refine c_region ?_
  refine sq S ?_; clear S; intro a S
  refine sr S (dcheck_c d hl _ (S.t0 d.locked)) ?_; clear S; rintro _ a w rfl S
  refine sq S ?_; clear S; intro a S
  rw [show (!decide ((if datB d.d then (0 : Int) else 270) = 0)) = !datB d.d from by cases datB d.d <;> rfl] at S
  refine wl_nil ?_
  refine xtn ?_
  refine c_cond S (fun h1 => ?_) (fun h1 => ?_)
  · refine c_seq ?_
    refine c_region ?_
    refine sq S ?_; clear S; intro a S
    refine sw S ?_; clear S; intro a w S
    refine sq S ?_; clear S; intro a S
    refine wl_nil ?_
    refine xtn ?_
    refine c_ret ?_
    refine xtr ?_
    have hb : datB d.d = false := by simpa using h1
    have e : openF d.d s.t m = (zeroT, 270) := by unfold openF; rw [if_pos hb]
    refine end2 S (fun _ => ?_)
    exact ⟨zeroL, by rw [e] <;> rfl, by rw [e] <;> rfl, fun w _ => zeroL_in w⟩
  · refine c_skip ?_
    refine xtn ?_
    refine c_seq ?_
    refine c_region ?_
    iterate 4 (refine sq S ?_; clear S; intro a S)
    have hb : datB d.d = true := by simpa using h1
    have hb' : ¬ datB d.d = false := by rw [hb]; simp
    have hl2 : d.locked.kids.length = 2 := by
      obtain ⟨-, -, -, -, -, -, -, a8, a9⟩ := datB_iff.1 hb
      have hg : Good d.locked.t := good_check.1 a8
      have hk : d.locked.kind = 6 := by rw [← kind_t]; exact a9
      rw [d.locked.t_eq] at hg
      have hp := plain_shape (goodP hg)
      rw [hk] at hp
      rcases hp with q | q | q | q | q | q | q
      all_goals first | (obtain ⟨-, q⟩ := q; simp at q; omega) | omega
    have hK0 : KLt 0 d.locked.kids.length := ⟨by omega⟩
    have hK1 : KLt 1 d.locked.kids.length := ⟨by omega⟩
    refine sr S (back_c s m d.epoch _ w (foots_lt S) (S.t s)) ?_; clear S; rintro _ a w ⟨r, rfl, hr, hrf⟩ S
    replace S := S.add hrf
    iterate 3 (refine sq S ?_; clear S; intro a S)
    refine sa S ?_; clear S; intro b8 a w S
    refine sw S ?_; clear S; intro a w S
    refine sq S ?_; clear S; intro a S
    refine wl_nil ?_
    refine xtn ?_
    iterate 2 (refine c_seq ?_)
    refine c_region ?_
    iterate 2 (refine sq S ?_; clear S; intro a S)
    refine wl_nil ?_
    refine xtn ?_
    refine c_cond S (fun h4 => ?_) (fun h4 => ?_)
    · refine c_seq ?_
      refine c_region ?_
      iterate 2 (refine sq S ?_; clear S; intro a S)
      refine sw S ?_; clear S; intro a w S
      refine sq S ?_; clear S; intro a S
      refine wl_nil ?_
      refine xtn ?_
      refine c_ret ?_
      refine xtr ?_
      have h5 : (backF s.t m d.epoch).2 ≠ 0 := by simpa using h4
      have e : openF d.d s.t m = (zeroT, (backF s.t m d.epoch).2) := by unfold openF; rw [if_neg hb', if_pos (show (backF s.t m d.d.epoch).2 ≠ 0 from h5)]; rfl
      refine end2 S (fun _ => ?_)
      exact ⟨zeroL, by rw [e] <;> rfl, by rw [e] <;> rfl, fun w _ => zeroL_in w⟩
    · refine c_skip ?_
      refine xtn ?_
      refine c_seq ?_
      refine c_region ?_
      refine sq S ?_; clear S; intro a S
      have h5 : ¬ (backF s.t m d.epoch).2 ≠ 0 := by simpa using h4
      refine sr S (key_c r _ w (foots_lt S) (S.t r)) ?_; clear S; rintro _ a w ⟨k, rfl, hk, hkf⟩ S
      replace S := S.add hkf
      iterate 3 (refine sq S ?_; clear S; intro a S)
      refine sa S ?_; clear S; intro b10 a w S
      refine sw S ?_; clear S; intro a w S
      refine sq S ?_; clear S; intro a S
      refine wl_nil ?_
      refine xtn ?_
      iterate 2 (refine c_seq ?_)
      refine c_drawD [(0, true), (1, true), (2, true), (3, true), (4, true), (5, true), (6, true), (7, true), (8, true), (9, false), (10, true), (11, true)] [] S ?_; clear S; intro w S
      iterate 3 (refine dq S ?_; clear S; intro a S)
      iterate 6 (refine dqG S ?_; clear S; intro a S)
      refine dl ?_
      refine gC S ?_; clear S; intro a w S
      refine de S ?_
      refine dqG S ?_; clear S; intro a S
      refine dq S ?_; clear S; intro a S
      refine dn ?_
      refine xtn ?_
      refine c_cond S (fun h7 => ?_) (fun h7 => ?_)
      · refine c_seq ?_
        refine c_region ?_
        refine sq S ?_; clear S; intro a S
        refine sw S ?_; clear S; intro a w S
        refine sq S ?_; clear S; intro a S
        refine wl_nil ?_
        refine xtn ?_
        refine c_ret ?_
        refine xtr ?_
        have h8 : ¬ ((keyF (backF s.t m d.epoch).1).2 = 0 ∧ sameF (keyF (backF s.t m d.epoch).1).1 (kid d.locked.t 0) = true) := by
          rintro ⟨q1, q2⟩
          have : sameF k.t (nthL d.locked.kids 0).t = true := by rw [hk, hr, ← kid_t _ _ (by omega)]; exact q2
          rw [hr, q1, this] at h7
          simp at h7
        have e : openF d.d s.t m = (zeroT, 271) := by unfold openF; rw [if_neg hb', if_neg (show ¬ (backF s.t m d.d.epoch).2 ≠ 0 from h5), if_neg (show ¬ ((keyF (backF s.t m d.d.epoch).1).2 = 0 ∧ sameF (keyF (backF s.t m d.d.epoch).1).1 (kid d.d.locked 0) = true) from h8)]
        refine end2 S (fun _ => ?_)
        exact ⟨zeroL, by rw [e] <;> rfl, by rw [e] <;> rfl, fun w _ => zeroL_in w⟩
      · refine c_skip ?_
        refine xtn ?_
        refine c_seq ?_
        refine c_region ?_
        iterate 5 (refine sq S ?_; clear S; intro a S)
        refine sw S ?_; clear S; intro a w S
        refine sq S ?_; clear S; intro a S
        refine wl_nil ?_
        refine xtn ?_
        refine c_ret ?_
        have h8 : (keyF (backF s.t m d.epoch).1).2 = 0 ∧ sameF (keyF (backF s.t m d.epoch).1).1 (kid d.locked.t 0) = true := by
          simp only [Bool.or_eq_false_iff, Bool.not_eq_false', decide_eq_true_eq] at h7
          rw [hr] at h7
          exact ⟨h7.1, by rw [← hr, ← hk, kid_t _ _ (by omega)]; exact h7.2⟩
        have e : openF d.d s.t m = (kid d.locked.t 1, 0) := by unfold openF; rw [if_neg hb', if_neg (show ¬ (backF s.t m d.d.epoch).2 ≠ 0 from h5), if_pos (show (keyF (backF s.t m d.d.epoch).1).2 = 0 ∧ sameF (keyF (backF s.t m d.d.epoch).1).1 (kid d.d.locked 0) = true from h8)]; rfl
        have hlat := S.laterT (M := M) (nthL d.locked.kids 1)
        refine end2 S (fun _ => ?_)
        exact ⟨nthL d.locked.kids 1, by rw [e] <;> rfl, by rw [e, kid_t _ _ (by omega)], hlat⟩
end Go.Proofs.YtieeoakdkbackaaDoor

/- Layer 17: what is locked and signed, plain; the layer does something. -/
namespace Go.Proofs.YtieeoakdkbackaaDoor
open Go Go.Wk
set_option synthInstance.maxSize 100000
set_option synthInstance.maxHeartbeats 400000
set_option maxRecDepth 100000

theorem dataT_inj {d e : Dat} {l m : Int} (hd : datB d = true) (he : datB e = true) (h : dataT d l = dataT e m) : d = e ∧ l = m := by
  obtain ⟨-, a2, a3, a4, a5, -, -, -, -⟩ := datB_iff.1 hd
  obtain ⟨-, c2, c3, c4, c5, -, -, -, -⟩ := datB_iff.1 he
  simp only [dataT, signT, Term.mk.injEq, List.cons.injEq, and_true] at h
  have h5 := listT_inj h.2.2.2.2
  simp only [List.cons.injEq, and_true] at h5
  obtain ⟨-, f1, f2, f3, f4⟩ := h5
  have g1 : d.name = e.name := by simp only [textT, Term.mk.injEq] at f1; exact f1.2.2.2.1
  have g2 := itoa_eq (n := d.ver) (m := e.ver) ⟨by omega, by omega⟩ ⟨by omega, by omega⟩ f2
  have g3 := itoa_eq (n := d.epoch) (m := e.epoch) ⟨by omega, by omega⟩ ⟨by omega, by omega⟩ f3
  have g4 := h.2.1
  obtain ⟨x1, x2, x3, x4, x5⟩ := d
  obtain ⟨y1, y2, y3, y4, y5⟩ := e
  simp only at g1 g2 g3 g4 f4
  subst g1 g2 g3 g4 f4
  exact ⟨rfl, h.2.2.1⟩
theorem DReadR.yes {M : Nat → Prop} {d : Dat} {l : Int} {v : Value} {w : World} (h : DReadR M (dataT d l) v w) (hd : datB d = true) (hg : Good (dataT d l)) : ∃ x : LDat, v = .tuple ⟨[vDat x, .int .i64 l, .int .i64 0]⟩ ∧ Stable M w (LtF x.locked) ∧ x.name.length ≤ 64 ∧ x.d = d := by
  obtain ⟨x, leaf, e, rfl, h1, h2, h3, h4⟩ := h
  have he : e = 0 := Classical.byContradiction fun he => (h4 he).2.2.2 d l hd rfl hg
  obtain ⟨k1, k2, -⟩ := h3 he
  obtain ⟨k3, rfl⟩ := dataT_inj hd k1 k2
  subst he
  exact ⟨x, rfl, h1, h2, k3.symm⟩
theorem cnt_iter (a c : Int) (j : Nat) : cnt (iter stepF j (freshT a c)) = 1 + 3 * j ∧ dpt (iter stepF j (freshT a c)) = 1 + 2 * j := by
  induction j with
  | zero => exact ⟨rfl, rfl⟩
  | succ j ih =>
    have e1 : ∀ t, cnt (stepF t) = cnt t + 3 := fun t => by simp [stepF, Term.hash, Term.pair, Term.text, cnt, cntL]; omega
    have e2 : ∀ t, 1 ≤ dpt t → dpt (stepF t) = dpt t + 2 := fun t h => by simp [stepF, Term.hash, Term.pair, Term.text, dpt, dptL]; omega
    rw [iter, e1, e2 _ (by omega)]
    omega
def lkT (a c : Int) (j : Nat) (b : Term) : Term := .mk 6 0 0 [] [lastF (iter stepF j (freshT a c)), b]
theorem cnt_lk (a c b m : Int) {j : Nat} : cnt (lkT a c j (freshT b m)) = 6 + 3 * j ∧ dpt (lkT a c j (freshT b m)) = 4 + 2 * j := by
  obtain ⟨h1, h2⟩ := cnt_iter a c j
  have e1 : ∀ t, cnt (lastF t) = cnt t + 3 := fun t => by simp [lastF, Term.hash, Term.pair, Term.text, cnt, cntL]; omega
  have e2 : ∀ t, 1 ≤ dpt t → dpt (lastF t) = dpt t + 2 := fun t h => by simp [lastF, Term.hash, Term.pair, Term.text, dpt, dptL]; omega
  have e3 := e2 (iter stepF j (freshT a c)) (by omega)
  have c1 : cnt (freshT b m) = 1 ∧ dpt (freshT b m) = 1 := ⟨rfl, rfl⟩
  simp only [lkT, cnt, cntL, dpt, dptL, e1, e3, c1.1, c1.2]
  omega
theorem good_lk {a c b m : Int} (ha : 1 ≤ a ∧ a ≤ 6) (hc : 0 ≤ c ∧ c ≤ 65535) (hb : 1 ≤ b ∧ b ≤ 6) (hm : 0 ≤ m ∧ m ≤ 65535) {j : Nat} (hj : j ≤ 8) : Good (lkT a c j (freshT b m)) := by
  obtain ⟨h1, h2⟩ := cnt_lk a c b m (j := j)
  have e : cnt (lkT a c j (freshT b m)) = 1 + (cnt (lastF (iter stepF j (freshT a c))) + cnt (freshT b m)) := by simp [lkT, cnt, cntL]
  have e2 : dpt (lkT a c j (freshT b m)) = 1 + max (dpt (lastF (iter stepF j (freshT a c)))) (dpt (freshT b m)) := by simp [lkT, dpt, dptL]
  exact good_lock (good_last ha hc hj) (good_fresh hb hm) (by omega) (by omega) (by omega)
theorem lock_fresh {a c b m : Int} (ha : 1 ≤ a ∧ a ≤ 6) (hc : 0 ≤ c ∧ c ≤ 65535) (hb : 1 ≤ b ∧ b ≤ 6) (hm : 0 ≤ m ∧ m ≤ 65535) {j : Nat} (hj : j ≤ 8) : lockF (iter stepF j (freshT a c)) (freshT b m) = (lkT a c j (freshT b m), 0) := by
  unfold lockF
  rw [key_fresh ha hc hj, if_neg (by simp), if_neg (by
    have := good_check.2 (good_lk ha hc hb hm hj)
    intro h
    exact h this)]
  rfl
theorem dat_f {v n r : Int} (hv : 1 ≤ v ∧ v ≤ 9999) (hn : 1 ≤ n ∧ n ≤ 8) (hr : 1 ≤ r ∧ r ≤ 6) {a c b m : Int} (ha : 1 ≤ a ∧ a ≤ 6) (hc : 0 ≤ c ∧ c ≤ 65535) (hb : 1 ≤ b ∧ b ≤ 6) (hm : 0 ≤ m ∧ m ≤ 65535) {j : Nat} (hj : j ≤ 8) : datB ⟨[102], v, n, r, lkT a c j (freshT b m)⟩ = true :=
  datB_iff.2 ⟨(by decide : nameB [102] = true), hv.1, hv.2, hn.1, hn.2, hr.1, hr.2, good_check.2 (good_lk ha hc hb hm hj), rfl⟩
theorem good_data {d : Dat} {leaf : Int} (hd : datB d = true) (hl : 0 ≤ leaf ∧ leaf ≤ 65535) (hc : cnt d.locked ≤ 100) (hp : dpt d.locked ≤ 40) : Good (dataT d leaf) := by
  obtain ⟨a1, a2, a3, a4, a5, a6, a7, a8, a9⟩ := datB_iff.1 hd
  have et : ∀ x, cnt (textT x) = 1 := fun x => by simp [textT, cnt, cntL]
  have ed : ∀ x, dpt (textT x) = 1 := fun x => by simp [textT, dpt, dptL]
  have hnm : d.name.length ≤ 64 := by
    simp only [nameB, Bool.and_eq_true, decide_eq_true_eq] at a1; omega
  have p1 : Good (.pair d.locked (textT [])) := good_pair (good_check.1 a8) (good_text (by simp)) (by rw [et]; omega) (by omega) (by rw [ed]; omega)
  have c1 : cnt (.pair d.locked (textT [])) ≤ 102 ∧ dpt (.pair d.locked (textT [])) ≤ 41 := by rw [cnt_pair, dpt_pair, et, ed]; omega
  have st : ∀ (s : List UInt8) (t : Term), s.length ≤ 64 → Good t → cnt t ≤ 200 → dpt t ≤ 50 → Good (.pair (textT s) t) ∧ cnt (.pair (textT s) t) ≤ cnt t + 2 ∧ dpt (.pair (textT s) t) ≤ dpt t + 1 ∨ dpt t = 0 := fun s t hs hg h1 h2 => by
    by_cases h0 : dpt t = 0
    · exact .inr h0
    · refine .inl ⟨good_pair (good_text hs) hg (by rw [et]; omega) (by rw [ed]; omega) (by omega), ?_, ?_⟩
      · rw [cnt_pair, et]; omega
      · rw [dpt_pair, ed]; omega
  have np : ∀ x y, dpt (.pair x y) ≠ 0 := fun x y => by rw [dpt_pair]; omega
  obtain ⟨p2, c2⟩ := (st (Lib.itoa d.epoch) _ (itoa_len ⟨by omega, by omega⟩) p1 (by omega) (by omega)).resolve_right (np _ _)
  obtain ⟨p3, c3⟩ := (st (Lib.itoa d.ver) _ (itoa_len ⟨by omega, by omega⟩) p2 (by omega) (by omega)).resolve_right (np _ _)
  obtain ⟨p4, c4⟩ := (st d.name _ hnm p3 (by omega) (by omega)).resolve_right (np _ _)
  obtain ⟨p5, c5⟩ := (st dataS _ (by decide) p4 (by omega) (by omega)).resolve_right (np _ _)
  exact good_sign (a := .pair (textT dataS) (.pair (textT d.name) (.pair (textT (Lib.itoa d.ver)) (.pair (textT (Lib.itoa d.epoch)) (.pair d.locked (textT [])))))) ⟨a6, a7⟩ hl p5 (by omega) (by omega)
theorem good_dataF {v n r leaf : Int} (hv : 1 ≤ v ∧ v ≤ 9999) (hn : 1 ≤ n ∧ n ≤ 8) (hr : 1 ≤ r ∧ r ≤ 6) (hl : 0 ≤ leaf ∧ leaf ≤ 65535) {a c b m : Int} (ha : 1 ≤ a ∧ a ≤ 6) (hc : 0 ≤ c ∧ c ≤ 65535) (hb : 1 ≤ b ∧ b ≤ 6) (hm : 0 ≤ m ∧ m ≤ 65535) {j : Nat} (hj : j ≤ 8) : Good (dataT ⟨[102], v, n, r, lkT a c j (freshT b m)⟩ leaf) := by
  obtain ⟨h1, h2⟩ := cnt_lk a c b m (j := j)
  exact good_data (dat_f hv hn hr ha hc hb hm hj) hl (by show cnt (lkT a c j (freshT b m)) ≤ 100; omega) (by show dpt (lkT a c j (freshT b m)) ≤ 40; omega)
theorem kid_lk (a c : Int) (j : Nat) (b : Term) : kid (lkT a c j b) 0 = lastF (iter stepF j (freshT a c)) ∧ kid (lkT a c j b) 1 = b := ⟨rfl, rfl⟩
/-- who has the state of an epoch opens what was locked in it, and ahead. -/
theorem open_fresh {v n r k : Int} (hv : 1 ≤ v ∧ v ≤ 9999) (hn : 1 ≤ n ∧ n ≤ 8) (hr : 1 ≤ r ∧ r ≤ 6) (hk : 1 ≤ k ∧ k ≤ 8) {a c b m : Int} (ha : 1 ≤ a ∧ a ≤ 6) (hc : 0 ≤ c ∧ c ≤ 65535) (hb : 1 ≤ b ∧ b ≤ 6) (hm : 0 ≤ m ∧ m ≤ 65535) :
    openF ⟨[102], v, n, r, lkT a c (8 - n).toNat (freshT b m)⟩ (iter stepF (8 - k).toNat (freshT a c)) k = if n ≤ k then (freshT b m, 0) else (zeroT, 2) := by
  have hd := dat_f (v := v) (n := n) (r := r) hv hn hr ha hc hb hm (j := (8 - n).toNat) (by omega)
  have hg : checkF (iter stepF (8 - k).toNat (freshT a c)) = 0 := good_check.2 (good_iter ha hc (by omega))
  unfold openF
  rw [if_neg (by rw [hd]; simp)]
  by_cases h : n ≤ k
  · have e : backF (iter stepF (8 - k).toNat (freshT a c)) k n = (iter stepF (8 - n).toNat (freshT a c), 0) := by
      rw [back_val hg hn.1 h hk.2, iter_add, show (k - n).toNat + (8 - k).toNat = (8 - n).toNat from by omega, if_pos (good_check.2 (good_iter ha hc (by omega)))]
    rw [if_pos h]
    show (if (backF (iter stepF (8 - k).toNat (freshT a c)) k n).2 ≠ 0 then (zeroT, (backF (iter stepF (8 - k).toNat (freshT a c)) k n).2) else if (keyF (backF (iter stepF (8 - k).toNat (freshT a c)) k n).1).2 = 0 ∧ sameF (keyF (backF (iter stepF (8 - k).toNat (freshT a c)) k n).1).1 (kid (lkT a c (8 - n).toNat (freshT b m)) 0) = true then (kid (lkT a c (8 - n).toNat (freshT b m)) 1, 0) else (zeroT, 271)) = _
    rw [e, if_neg (by simp), key_fresh ha hc (by omega), if_pos ⟨rfl, (sameF_iff _ _).2 rfl⟩]
    rfl
  · have e : backF (iter stepF (8 - k).toNat (freshT a c)) k n = (zeroT, 2) := by
      unfold backF
      rw [if_neg (by rw [hg]; simp), if_pos (.inr (.inr (by omega)))]
    rw [if_neg h]
    show (if (backF (iter stepF (8 - k).toNat (freshT a c)) k n).2 ≠ 0 then (zeroT, (backF (iter stepF (8 - k).toNat (freshT a c)) k n).2) else _) = _
    rw [e, if_pos (by simp)]
end Go.Proofs.YtieeoakdkbackaaDoor
