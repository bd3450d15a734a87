/- Layer 14: few, Same; marks compared. -/
import Derived.Test.YtgielmldblopeaaDoorPlainTreeB
import Derived.Laws.StructEq
namespace Go.Proofs.YtgielmldblopeaaDoor
open Go Go.Wk
set_option synthInstance.maxSize 100000
set_option synthInstance.maxHeartbeats 400000
set_option maxRecDepth 100000

deriving instance DecidableEq for LMark
theorem eq_mark (m n : LMark) (w : World) : (Go.Op.equalIn 10000 57 (.agg ⟨[str m.key, .int .i64 m.ver]⟩) (.agg ⟨[str n.key, .int .i64 n.ver]⟩)).run Tryd.prog w = .ok (decide (m = n)) w := by
  have u3 := Tryd.underlying3
  have a3 := Tryd.isAgg3
  have z3 := Tryd.sizeOf3
  have u9 := Tryd.underlying9
  have a9 := Tryd.isAgg9
  have z9 := Tryd.sizeOf9
  have hS : Tryd.prog.underlying 57 = some (.struct (Tryd.prog.fieldsOf 57)) := by kernel_rfl
  have hp : Tryd.prog.stoodInHeld 57 = false := by kernel_rfl
  obtain ⟨a, x⟩ := m
  obtain ⟨b, y⟩ := n
  rw [show (10000 : Nat) = 9999 + 1 from rfl, run_equalIn_agg w 9999 57 _ _ hS hp]
  simp only [Program.fieldsOf, Tryd.underlying57]
  go_simp
  by_cases h1 : a = b <;> by_cases h2 : x = y <;> simp [h1, h2]
theorem guard_mark : Tryd.prog.eqGuardType Tryd.prog.depth 57 = false := by kernel_rfl
section
variable {l : Cx} {bs : List Wk.Item} {fs : List (World → Prop)} {x y : Operand} {m n : LMark} {t' ty : TypeId}
instance opEqMark [Ev l x (.agg ⟨[str m.key, .int .i64 m.ver]⟩)] [Ev l y (.agg ⟨[str n.key, .int .i64 n.ver]⟩)] : OpQ Tryd.prog (.binOp .eql 57 x y t') ty l bs fs (.bool (decide (m = n))) := ⟨fun ρ w h _ => by
  simp [xop, execOp, h.ev (x := x) (v := .agg ⟨[str m.key, .int .i64 m.ver]⟩), h.ev (x := y) (v := .agg ⟨[str n.key, .int .i64 n.ver]⟩), Sem.run_bind, run_eqGuard_agg w .eql 57 x y _ _ guard_mark, run_eql_struct, eq_mark]⟩
instance opNeMark [Ev l x (.agg ⟨[str m.key, .int .i64 m.ver]⟩)] [Ev l y (.agg ⟨[str n.key, .int .i64 n.ver]⟩)] : OpQ Tryd.prog (.binOp .neq 57 x y t') ty l bs fs (.bool (!decide (m = n))) := ⟨fun ρ w h _ => by
  simp [xop, execOp, h.ev (x := x) (v := .agg ⟨[str m.key, .int .i64 m.ver]⟩), h.ev (x := y) (v := .agg ⟨[str n.key, .int .i64 n.ver]⟩), Sem.run_bind, run_eqGuard_agg w .neq 57 x y _ _ guard_mark, run_neq_struct, eq_mark]⟩
end
theorem equalm_c (xs ys : List LMark) (p q : Option Addr) (c e : Nat) (w0 : World) (hl : xs.length ≤ 1000000000) (hx : Stable (fun _ => False) w0 (GlF p xs)) (hy : Stable (fun _ => False) w0 (GlF q ys)) :
    Ret Tryd.prog 42 [.slice p xs.length c, .slice q ys.length e] w0 (fun _ => False) fun v _ => v = .bool (decide (xs = ys)) := by
  refine enter Tryd.func42 rfl rfl (Wd.begin (fs := [GlF p xs, GlF q ys]) (by simp; exact ⟨hx, hy⟩)) (fun a S => ?_)
  simp only [Tryd.ntmps42, List.length_cons, List.length_nil, Nat.reduceAdd, Nat.reduceSub, List.replicate_succ, List.replicate_zero, List.cons_append, List.nil_append] at S
  refine c_seq ?_
  refine c_region ?_
  refine sq S ?_; clear S; intro a S
  refine wl_nil ?_
  refine xtn ?_
  iterate 2 (refine c_seq ?_)
  refine c_region ?_
  iterate 5 (refine sq S ?_; clear S; intro a S)
  refine wl_nil ?_
  refine xtn ?_
  refine c_cond S (fun h1 => ?_) (fun h1 => ?_)
  · refine c_seq ?_
    refine c_region ?_
    refine sq S ?_; clear S; intro a S
    refine wl_nil ?_
    refine xtn ?_
    refine c_ret ?_
    refine xtr ?_
    have hne : xs ≠ ys := fun h => by rw [h] at h1; simp at h1
    refine end1 S (fun _ => ?_)
    rw [decide_eq_false hne]
  · refine c_skip ?_
    refine xtn ?_
    iterate 2 (refine c_seq ?_)
    refine c_region ?_
    iterate 3 (refine sq S ?_; clear S; intro a S)
    refine wl_nil ?_
    refine xtn ?_
    refine c_block ?_
    have hle : xs.length = ys.length := by simp at h1; omega
    refine c_forb1 S (fun (k : Nat) uu => [(4, uu 4), (0, uu 5), (7, .int .i64 (k : Nat)), (0, uu 14), (0, uu 15), (0, uu 16), (0, uu 17), (0, uu 18), (0, uu 19), (0, uu 20), (0, uu 21), (0, uu 22), (0, uu 23), (0, uu 24), (0, uu 25)]) (fun (k : Nat) => k ≤ xs.length ∧ xs.take k = ys.take k) (fun (k : Nat) => xs.length - k) (0) ?_ S.uu ?_ ?_
    · exact ⟨Nat.zero_le _, rfl⟩
    · first | exact S | exact S.sub _ _
    · clear S; rintro k uu a w ⟨hk, hrel⟩ S
      refine c_seq ?_
      refine c_region ?_
      refine sq S ?_; clear S; intro a S
      refine wl_nil ?_
      refine xtn ?_
      refine c_seq ?_
      refine c_cond S (fun h4 => ?_) (fun h4 => ?_)
      · refine c_skip ?_
        refine xtn ?_
        refine c_seq ?_
        refine c_block ?_
        refine c_seq ?_
        have hkl : k < xs.length := by simpa using h4
        have hK1 : KLt k xs.length := ⟨hkl⟩
        have hK2 : KLt k ys.length := ⟨by omega⟩
        refine c_region ?_
        iterate 2 (refine sq S ?_; clear S; intro a S)
        refine wl_nil ?_
        refine xtn ?_
        refine c_seq ?_
        refine c_drawD [(0, true), (1, true), (2, true), (3, true), (4, true), (5, true), (6, true), (7, true), (8, true)] [] S ?_; clear S; intro w S
        iterate 9 (refine dq S ?_; clear S; intro a S)
        refine dn ?_
        refine xtn ?_
        refine c_cond S (fun h6 => ?_) (fun h6 => ?_)
        · refine c_seq ?_
          refine c_region ?_
          refine sq S ?_; clear S; intro a S
          refine wl_nil ?_
          refine xtn ?_
          refine c_ret ?_
          refine xbr ?_
          iterate 2 (refine xtr ?_)
          refine xbr ?_
          refine xtr ?_
          have h9 : nthG xs k ≠ nthG ys k := by simpa using h6
          have hne : xs ≠ ys := fun h => h9 (by rw [h])
          refine end1 S (fun _ => ?_)
          rw [decide_eq_false hne]
        · refine c_skip ?_
          refine xbn ?_
          refine xtn ?_
          refine c_region ?_
          iterate 2 (refine sq S ?_; clear S; intro a S)
          refine wl_nil ?_
          refine xtn ?_
          have h9 : nthG xs k = nthG ys k := by simpa using h6
          rw [w64 ((k : Int) + 1) (by omega) (by omega)] at S
          exact ⟨k + 1, S.uu, ⟨hkl, by rw [nthG_take hkl, nthG_take (show k < ys.length by omega), hrel, h9]⟩, S.sub _ _, by omega⟩
      · refine c_exit ?_
        iterate 2 (refine xte ?_)
        refine xbe ?_
        refine xtn ?_
        refine c_seq ?_
        refine c_region ?_
        refine sq S ?_; clear S; intro a S
        refine wl_nil ?_
        refine xtn ?_
        refine c_ret ?_
        have h9 : xs.length ≤ k := by simpa using h4
        rw [List.take_of_length_le h9, List.take_of_length_le (by omega)] at hrel
        refine end1 S (fun _ => ?_)
        rw [decide_eq_true hrel]
theorem same14_c (xs ys : List LMark) (p q : Option Addr) (c e : Nat) (w0 : World) (hl : xs.length ≤ 1000000000) (hx : Stable (fun _ => False) w0 (GlF p xs)) (hy : Stable (fun _ => False) w0 (GlF q ys)) :
    Ret Tryd.prog 36 [.slice p xs.length c, .slice q ys.length e] w0 (fun _ => False) fun v _ => v = .bool (decide (xs = ys)) := by
  refine enter Tryd.func36 rfl rfl (Wd.begin (fs := [GlF p xs, GlF q ys]) (by simp; exact ⟨hx, hy⟩)) (fun a S => ?_)
  simp only [Tryd.ntmps36, List.length_cons, List.length_nil, Nat.reduceAdd, Nat.reduceSub, List.replicate_succ, List.replicate_zero, List.cons_append, List.nil_append] at S
  refine c_seq ?_
  refine c_region ?_
  refine sq S ?_; clear S; intro a S
  refine wl_nil ?_
  refine xtn ?_
  iterate 2 (refine c_seq ?_)
  refine c_region ?_
  iterate 5 (refine sq S ?_; clear S; intro a S)
  refine wl_nil ?_
  refine xtn ?_
  refine c_cond S (fun h1 => ?_) (fun h1 => ?_)
  · refine c_seq ?_
    refine c_region ?_
    refine sq S ?_; clear S; intro a S
    refine wl_nil ?_
    refine xtn ?_
    refine c_ret ?_
    refine xtr ?_
    have hne : xs ≠ ys := fun h => by rw [h] at h1; simp at h1
    refine end1 S (fun _ => ?_)
    rw [decide_eq_false hne]
  · refine c_skip ?_
    refine xtn ?_
    iterate 2 (refine c_seq ?_)
    refine c_region ?_
    iterate 3 (refine sq S ?_; clear S; intro a S)
    refine wl_nil ?_
    refine xtn ?_
    refine c_block ?_
    have hle : xs.length = ys.length := by simp at h1; omega
    refine c_forb1 S (fun (k : Nat) uu => [(4, uu 4), (0, uu 5), (7, .int .i64 (k : Nat)), (0, uu 14), (0, uu 15), (0, uu 16), (0, uu 17), (0, uu 18), (0, uu 19), (0, uu 20), (0, uu 21), (0, uu 22), (0, uu 23), (0, uu 24), (0, uu 25)]) (fun (k : Nat) => k ≤ xs.length ∧ xs.take k = ys.take k) (fun (k : Nat) => xs.length - k) (0) ?_ S.uu ?_ ?_
    · exact ⟨Nat.zero_le _, rfl⟩
    · first | exact S | exact S.sub _ _
    · clear S; rintro k uu a w ⟨hk, hrel⟩ S
      refine c_seq ?_
      refine c_region ?_
      refine sq S ?_; clear S; intro a S
      refine wl_nil ?_
      refine xtn ?_
      refine c_seq ?_
      refine c_cond S (fun h4 => ?_) (fun h4 => ?_)
      · refine c_skip ?_
        refine xtn ?_
        refine c_seq ?_
        refine c_block ?_
        refine c_seq ?_
        have hkl : k < xs.length := by simp at h4; omega
        have hK1 : KLt k xs.length := ⟨hkl⟩
        have hK2 : KLt k ys.length := ⟨by omega⟩
        refine c_region ?_
        iterate 2 (refine sq S ?_; clear S; intro a S)
        refine wl_nil ?_
        refine xtn ?_
        refine c_seq ?_
        refine c_drawD [(0, true), (1, true), (2, true), (3, true), (4, true), (5, true), (6, true), (7, true), (8, true)] [] S ?_; clear S; intro w S
        iterate 9 (refine dq S ?_; clear S; intro a S)
        refine dn ?_
        refine xtn ?_
        refine c_cond S (fun h6 => ?_) (fun h6 => ?_)
        · refine c_seq ?_
          refine c_region ?_
          refine sq S ?_; clear S; intro a S
          refine wl_nil ?_
          refine xtn ?_
          refine c_ret ?_
          refine xbr ?_
          iterate 2 (refine xtr ?_)
          refine xbr ?_
          refine xtr ?_
          have h9 : nthG xs k ≠ nthG ys k := by simpa using h6
          have hne : xs ≠ ys := fun h => h9 (by rw [h])
          refine end1 S (fun _ => ?_)
          rw [decide_eq_false hne]
        · refine c_skip ?_
          refine xbn ?_
          refine xtn ?_
          refine c_region ?_
          iterate 2 (refine sq S ?_; clear S; intro a S)
          refine wl_nil ?_
          refine xtn ?_
          have h9 : nthG xs k = nthG ys k := by simpa using h6
          rw [w64 ((k : Int) + 1) (by omega) (by omega)] at S
          exact ⟨k + 1, S.uu, ⟨hkl, by rw [nthG_take hkl, nthG_take (show k < ys.length by omega), hrel, h9]⟩, S.sub _ _, by omega⟩
      · refine c_exit ?_
        iterate 2 (refine xte ?_)
        refine xbe ?_
        refine xtn ?_
        refine c_seq ?_
        refine c_region ?_
        refine sq S ?_; clear S; intro a S
        refine wl_nil ?_
        refine xtn ?_
        refine c_ret ?_
        have h9 : xs.length ≤ k := by simp at h4; omega
        rw [List.take_of_length_le h9, List.take_of_length_le (by omega)] at hrel
        refine end1 S (fun _ => ?_)
        rw [decide_eq_true hrel]
def fewL : List LMark := [⟨[97], 1⟩, ⟨[98], 2⟩, ⟨[99], 3⟩]
theorem few_c (M : Nat → Prop) (w0 : World) (hM : ∀ k, M k → k < w0.heap.size) : Ret Tryd.prog 71 [] w0 (fun _ => False) fun v w' => ∃ p c, v = .slice p 3 c ∧ 3 ≤ c ∧ Stable M w' (GlF p fewL) := by
  refine enter Tryd.func71 rfl rfl (Wd.beginM (M := M) (fs := []) hM nofun) (fun a S => ?_)
  simp only [Tryd.ntmps71, List.length_cons, List.length_nil, Nat.reduceAdd, Nat.reduceSub, List.replicate_succ, List.replicate_zero, List.cons_append, List.nil_append] at S
  refine c_seq ?_
  refine c_region ?_
  refine sq S ?_; clear S; intro a S
  refine wl_nil ?_
  refine xtn ?_
  refine c_seq ?_
  refine c_region ?_
  iterate 3 (refine sq S ?_; clear S; intro a S)
  refine sn S ?_; clear S; intro b4 a w S
  refine sq S ?_; clear S; intro a S
  refine wl_nil ?_
  refine xtn ?_
  refine c_ret ?_
  replace S := S.boxRow b4 2 3 rfl (by simp [maxLen])
  rw [show ([str [97], .int .i64 1, str [98], .int .i64 2, str [99], .int .i64 3] : List Value) = encL fewL from rfl] at S
  have hrow := S.row (some ⟨b4, 0, none⟩) 3
  have hnew := S.rowNew (some ⟨b4, 0, none⟩) 3
  refine end1 S (fun _ => ?_)
  exact ⟨_, 3, rfl, Nat.le_refl _, gl_own hrow (fun _ _ _ _ => trivial) (fun ad h hm => (hnew ad h).elim (fun h => h.elim) (fun h2 => by have := hM _ hm; omega))⟩
def shortM (m : LMark) : LMark := ⟨m.key.take 65, m.ver⟩
def shortL (l : List LMark) : List LMark := (l.take 17).map shortM
theorem short_c (l : List LMark) (p : Option Addr) (c : Nat) (M : Nat → Prop) (w0 : World) (hl : l.length ≤ 9223372036854775807) (hM : ∀ k, M k → k < w0.heap.size) (hx : Stable M w0 (GlF p l)) :
    Ret Tryd.prog 31 [.slice p l.length c] w0 (fun _ => False) fun v w' => ∃ p' c', v = .slice p' (shortL l).length c' ∧ (shortL l).length ≤ c' ∧ Stable M w' (GlF p' (shortL l)) := by
  refine enter Tryd.func31 rfl rfl (Wd.beginM (M := M) (fs := [GlF p l]) hM (by simpa using hx)) (fun a S => ?_)
  simp only [Tryd.ntmps31, List.length_cons, List.length_nil, Nat.reduceAdd, Nat.reduceSub, List.replicate_succ, List.replicate_zero, List.cons_append, List.nil_append] at S
  refine c_seq ?_
  refine c_region ?_
  refine sq S ?_; clear S; intro a S
  refine wl_nil ?_
  refine xtn ?_
  refine c_seq ?_
  refine c_region ?_
  refine sq S ?_; clear S; intro a S
  refine wl_nil ?_
  refine xtn ?_
  iterate 2 (refine c_seq ?_)
  refine c_region ?_
  iterate 3 (refine sq S ?_; clear S; intro a S)
  refine wl_nil ?_
  refine xtn ?_
  refine c_block ?_
  replace S := S.addNil 57 2
  refine c_fore3 S (fun (k : Nat) (po : Option Addr) (co : Nat) uu => [(3, .slice po k co), (0, uu 4), (0, uu 5), (2, .int .i64 (k : Nat)), (0, uu 9), (0, uu 10), (0, uu 11), (0, uu 12), (0, uu 13), (0, uu 14), (0, uu 15), (0, uu 16), (0, uu 17), (0, uu 18), (0, uu 19), (0, uu 20), (0, uu 21), (0, uu 22), (0, uu 23), (0, uu 24), (0, uu 25), (0, uu 26), (0, uu 27)]) (fun (k : Nat) (po : Option Addr) (co : Nat) => [Wk.row 57 2 po k co (encL ((l.take k).map shortM)), ext M]) (fun (k : Nat) (po : Option Addr) (co : Nat) => [GlF p l]) (fun (k : Nat) (po : Option Addr) (co : Nat) => k ≤ l.length ∧ k ≤ 17) (fun (k : Nat) (po : Option Addr) (co : Nat) => l.length - k) (0) (none) (0) ?_ S.uu ?_ ?_
  · exact ⟨Nat.zero_le _, Nat.zero_le _⟩
  · first | exact S | exact S.sub _ _
  · clear S; rintro k po co uu a w ⟨hk, hk17⟩ S
    refine c_seq ?_
    refine c_region ?_
    refine sq S ?_; clear S; intro a S
    refine wl_nil ?_
    refine xtn ?_
    refine c_seq ?_
    refine c_cond S (fun h3 => ?_) (fun h3 => ?_)
    · refine c_skip ?_
      refine xtn ?_
      refine c_seq ?_
      refine c_block ?_
      refine c_seq ?_
      have hkl2 : k < l.length := by simp at h3; omega
      have hK : KLt k l.length := ⟨hkl2⟩
      refine c_region ?_
      iterate 3 (refine sq S ?_; clear S; intro a S)
      refine sa S ?_; clear S; intro b5 a w S
      refine sq S ?_; clear S; intro a S
      refine sw S ?_; clear S; intro a w S
      refine wl_nil ?_
      refine xtn ?_
      iterate 2 (refine c_seq ?_)
      refine c_region ?_
      iterate 2 (refine sq S ?_; clear S; intro a S)
      refine wl_nil ?_
      refine xtn ?_
      refine c_cond S (fun h5 => ?_) (fun h5 => ?_)
      · refine c_exit ?_
        refine xte ?_
        refine xbx ?_
        iterate 2 (refine xte ?_)
        refine xbe ?_
        refine xtn ?_
        refine c_seq ?_
        refine c_region ?_
        iterate 2 (refine sq S ?_; clear S; intro a S)
        refine wl_nil ?_
        refine xtn ?_
        refine c_ret ?_
        have hk17' : k = 17 := by simp at h5; omega
        have hlen : (shortL l).length = k := by simp [shortL]; omega
        have hrow := S.row po k
        have hnew := S.rowNew po k
        rw [hk17', show (l.take 17).map shortM = shortL l from rfl, ← hk17'] at hrow
        refine end1 S (fun _ => ?_)
        refine ⟨po, co, by rw [hlen], by rw [hlen]; exact own_le hrow, ?_⟩
        exact gl_own hrow (fun _ _ _ _ => trivial) (fun ad h hm => (hnew ad h).elim (fun h => h.elim) (fun h2 => by have := hM _ hm; omega))
      · refine c_skip ?_
        refine xtn ?_
        refine c_seq ?_
        refine c_region ?_
        iterate 7 (refine sq S ?_; clear S; intro a S)
        rw [show ((nthG l k).key.take (min (nthG l k).key.length 65)).drop 0 = (shortM (nthG l k)).key from by rw [List.drop_zero, shortM]; rw [Nat.min_def]; split <;> simp_all [List.take_of_length_le]] at S
        refine sq S ?_; clear S; intro a S
        refine sw S ?_; clear S; intro a w S
        refine wl_nil ?_
        refine xtn ?_
        refine c_region ?_
        iterate 2 (refine sq S ?_; clear S; intro a S)
        refine sn S ?_; clear S; intro b25 a w S
        refine sap S (by simp [maxLen]; omega) (by omega) ?_; clear S; rintro p7 c7 a w - S
        rw [show encL ((l.take k).map shortM) ++ [str (shortM (nthG l k)).key, .int .i64 (nthG l k).ver] = encL ((l.take (k + 1)).map shortM) from by rw [nthG_take hkl2, List.map_append, encL_append]; rfl] at S
        refine sq S ?_; clear S; intro a S
        refine wl_nil ?_
        refine xbn ?_
        refine xtn ?_
        refine c_region ?_
        iterate 2 (refine sq S ?_; clear S; intro a S)
        refine wl_nil ?_
        refine xtn ?_
        rw [w64 ((k : Int) + 1) (by omega) (by omega)] at S
        exact ⟨k + 1, p7, c7, S.uu, ⟨hkl2, by simp at h5; omega⟩, S.sub _ _, by omega⟩
    · refine c_exit ?_
      iterate 2 (refine xte ?_)
      refine xbe ?_
      refine xtn ?_
      refine c_seq ?_
      refine c_region ?_
      iterate 2 (refine sq S ?_; clear S; intro a S)
      refine wl_nil ?_
      refine xtn ?_
      refine c_ret ?_
      have hke : k = l.length := by simp at h3; omega
      have hlen : (shortL l).length = k := by simp [shortL]; omega
      have hrow := S.row po k
      have hnew := S.rowNew po k
      rw [show (l.take k).map shortM = shortL l from by rw [shortL, List.take_of_length_le (by omega), List.take_of_length_le (by omega)]] at hrow
      refine end1 S (fun _ => ?_)
      refine ⟨po, co, by rw [hlen], by rw [hlen]; exact own_le hrow, ?_⟩
      exact gl_own hrow (fun _ _ _ _ => trivial) (fun ad h hm => (hnew ad h).elim (fun h => h.elim) (fun h2 => by have := hM _ hm; omega))
end Go.Proofs.YtgielmldblopeaaDoor
