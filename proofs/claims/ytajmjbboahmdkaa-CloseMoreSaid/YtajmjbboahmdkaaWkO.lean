import Derived.Test.YtajmjbboahmdkaaWkN
namespace Go.Wk
open Go

/-! places of a row -/
def rAddr (p : Option Addr) (o : Nat) : Addr := (p.getD ⟨0, 0, none⟩).add o
theorem own_cells {w : World} {e : TypeId} {sz : Nat} {p : Option Addr} {n c : Nat} {xs : List Value} (h : w.ownsRow 0 e sz (.slice p n c) n xs) (hn : 0 < n) : ∃ g cur, p = some ⟨g, 0, none⟩ ∧ w.heap[g]? = some (.cells cur e (0, 0)) ∧ n ≤ c ∧ cur.size = c * sz ∧ cur.toList.take (n * sz) = xs ∧ c ≤ maxLen := by
  rcases h.2 with ⟨_, h0⟩ | ⟨g, cap, cur, hv, _, hg, hnc, hcm, hcs, ht⟩
  · omega
  · cases hv; exact ⟨g, cur, rfl, hg, hnc, hcs, ht, hcm⟩
theorem add_lit (g j : Nat) : (⟨g, 0, none⟩ : Addr).add j = ⟨g, j, none⟩ := by unfold Addr.add; split <;> simp_all
theorem own_cell {w : World} {e : TypeId} {sz : Nat} {p : Option Addr} {n c : Nat} {xs : List Value} (h : w.ownsRow 0 e sz (.slice p n c) n xs) {o j : Nat} {u : Value} (hj : xs[o + j]? = some u) : w.cell? ((rAddr p o).add j) = some u := by
  have hlt : o + j < n * sz := by rw [← h.1]; exact (List.getElem?_eq_some_iff.1 hj).1
  have hn : 0 < n := by rcases Nat.eq_zero_or_pos n with h0 | h0; · subst h0; simp at hlt
                        · exact h0
  obtain ⟨g, cur, rfl, hg, _, _, ht, _⟩ := own_cells h hn
  simp only [rAddr, Option.getD_some]
  rw [add_add, add_lit, cell_of_row w g (o + j) cur e (0, 0) hg, ← Array.getElem?_toList]
  rw [← ht, List.getElem?_take] at hj
  rw [if_pos hlt] at hj
  exact hj
theorem take_set (l vs : List Value) (N o : Nat) (h : o + vs.length ≤ N) (hN : N ≤ l.length) : (l.take o ++ vs ++ l.drop (o + vs.length)).take N = (l.take N).take o ++ vs ++ (l.take N).drop (o + vs.length) := by
  have e1 : (l.take o ++ vs).length = o + vs.length := by simp; omega
  rw [List.take_append, e1, List.take_of_length_le (by omega), List.take_take, Nat.min_eq_left (by omega), List.drop_take]
section
variable {P : Program} {r : Option Nat} {ops : Array Oper} {Q : Exit → Act → World → Prop} {w0 : World} {M0 : Nat → Prop} {ds : List Deferred} {a : Act} {w : World} {l l' : List Value} {bs bs' : List Item} {fs : List (World → Prop)}
  {d : Option Nat} {op : Op} {t ty : TypeId} {pos : String} {af : Array Edge} {rest : List Oper} {v z : Value} {e : TypeId} {sz by_ : Nat} {p : Option Addr} {n c k : Nat} {xs : List Value} {x y : Operand} {kk : IntKind} {m : Int} {lc : Cx}
instance (priority := 950) opIdxR [Ev lc x (.slice p n c)] [Ev lc y (.int kk m)] [Und P t (.slice e)] [TI P e z sz by_] [hm : IsNat m k] {e' : TypeId} {sz' : Nat} [hr : HasRow bs p n e' sz' c xs] [hk : KLt k n] {o : Nat} [hmul : MulN k sz o] :
    OpQ P (.indexAddr t x y) ty lc bs fs (.pointer (some (rAddr p o))) := ⟨fun ρ w h mm => by
  have hrow : w.ownsRow 0 e' sz' (.slice p n c) n xs := mm.held _ hr.mem
  have hlt := hk.lt
  obtain ⟨g, cur, rfl, _⟩ := own_cells hrow (by omega)
  have h2 := hm.eq
  subst h2
  simp [xop, execOp, h.ev (x := x) (v := .slice (some ⟨g, 0, none⟩) n c), h.ev (x := y) (v := .int kk (k : Int))]
  simp [run_indexAt (P := P) (t := t) (e := e) (z := z) (sz := sz) (by_ := by_) (Int.natCast_nonneg k) (Int.ofNat_lt.2 hlt), rAddr, hmul.eq]⟩
/-- a load out of a row: a struct. -/
theorem slrA {o : Nat} (vs : List Value) (S : St w0 M0 ds a w l bs fs) [Ev ⟨[], l⟩ x (.pointer (some (rAddr p o)))] [ha : AggT P t true] [TI P t z sz by_] [hl : LenIs vs sz] [hp : PutO l d (.agg ⟨vs⟩) l']
    (n : Nat) {e' : TypeId} {sz' c : Nat} {xs : List Value} [hr : HasRow bs p n e' sz' c xs] (h : ∀ j v, vs[j]? = some v → xs[o + j]? = some v) (K : ∀ a, St w0 M0 ds a w l' bs fs → WL P r ops Q rest a w) : WL P r ops Q (⟨d, .load t x, ty, pos, af, none⟩ :: rest) a w :=
  slA vs S (fun j v hj => own_cell (S.row p n) (h j v hj)) K
/-- a load out of a row: one cell. -/
theorem slr1 {o : Nat} (v : Value) (S : St w0 M0 ds a w l bs fs) [Ev ⟨[], l⟩ x (.pointer (some (rAddr p o)))] [ha : AggT P t false] [hp : PutO l d v l']
    (n : Nat) {e' : TypeId} {sz' c : Nat} {xs : List Value} [hr : HasRow bs p n e' sz' c xs] (h : xs[o]? = some v) (K : ∀ a, St w0 M0 ds a w l' bs fs → WL P r ops Q rest a w) : WL P r ops Q (⟨d, .load t x, ty, pos, af, none⟩ :: rest) a w :=
  sl1 v S (by have := own_cell (S.row p n) (o := o) (j := 0) (by simpa using h); simpa [Addr.add] using this) K
theorem St.reput {bs' : List Item} {w' : World} {x y : Item} (S : St w0 M0 ds a w l bs fs) {a' : Act} {l' : List Value} (hs : a'.tmps = l'.toArray) (hd : a'.defers = ds) [hr : ReplI bs x y bs'] (hxo : x.own = true) (ha : Agree x.foot w w') (hy : y.holds w')
    (hf : ∀ k, y.foot k → x.foot k ∨ w.heap.size ≤ k) (hlt : ∀ k, y.foot k → k < w'.heap.size) (hloc : ∀ w1 w2 : World, (∀ k, y.foot k → w2.heap[k]? = w1.heap[k]?) → y.holds w1 → y.holds w2) : St w0 M0 ds a' w' l' bs' fs := by
  obtain ⟨pre, post, q1, q2⟩ := hr.ex
  have hwd := S.wd
  rw [q1] at hwd
  exact ⟨hs, hd, by rw [q2]; exact hwd.swap hxo ha hy hf hlt hloc⟩
/-- cells of a row are written over. -/
theorem own_set {w : World} (h : w.ownsRow 0 e sz (.slice p n c) n xs) {g o : Nat} {vs : List Value} (hp : p = some ⟨g, 0, none⟩) (ho : o + vs.length ≤ n * sz) (hv : ∀ u ∈ vs, u.oneCell' = true) :
    ∃ w', (storeCells ⟨g, o, none⟩ vs).run P w = .ok () w' ∧ Agree (fun k => ∃ ad, p = some ad ∧ k = ad.block) w w' ∧ w'.ownsRow 0 e sz (.slice p n c) n (xs.take o ++ vs ++ xs.drop (o + vs.length)) := by
  subst hp
  rcases h.2 with ⟨hv, _⟩ | ⟨g', cap, cur, hv', hb, hg, hnc, hcm, hcs, ht⟩
  · cases hv
  · cases hv'
    have hle : o + vs.length ≤ cur.size := by
      have := Nat.mul_le_mul_right sz hnc
      rw [hcs]; omega
    have hrun := run_storeCells_at (P := P) g o e vs 0 cur w hg (by simpa using hle) hv
    simp only [Nat.add_zero] at hrun
    refine ⟨_, hrun, Agree.setRow w g _ ⟨_, rfl, rfl⟩, ?_, .inr ⟨g, c, _, rfl, hb, setRow_heap w g cur _ e _ hg, hnc, hcm, ?_, ?_⟩⟩
    · have h1 := h.1
      simp only [List.length_append, List.length_take, List.length_drop]
      omega
    · simp only [List.size_toArray, List.length_append, List.length_take, List.length_drop, Array.length_toList]
      omega
    · have hcl : n * sz ≤ cur.toList.length := by rw [Array.length_toList, hcs]; exact Nat.mul_le_mul_right sz hnc
      rw [← ht]
      exact take_set _ _ _ _ ho hcl
/-- a store into a row. -/
theorem sws {o sz0 : Nat} {vs : List Value} (S : St w0 M0 ds a w l bs fs) [Ev ⟨[], l⟩ x (.pointer (some (rAddr p o)))] [Ev ⟨[], l⟩ y v] [hc : Cells v vs] [TI P t z sz0 by_] [hl : LenIs vs sz0] [hf : Flat vs]
    (n : Nat) {e : TypeId} {sz c : Nat} {xs : List Value} [hr : HasRow bs p n e sz c xs] [hrep : ReplI bs (row e sz p n c xs) (row e sz p n c (xs.take o ++ vs ++ xs.drop (o + vs.length))) bs'] [hp : PutO l d undef l'] (hn : 0 < n) (ho : o + sz0 ≤ n * sz)
    (K : ∀ a w, St w0 M0 ds a w l' bs' fs → WL P r ops Q rest a w) : WL P r ops Q (⟨d, .store t x y, ty, pos, af, none⟩ :: rest) a w := by
  refine wl_plain rfl ?_
  rw [semAt_nd rfl]
  have hrow := S.row p n
  obtain ⟨g, cur, hpp, _⟩ := own_cells hrow hn
  obtain ⟨w', hrun, hag, hown⟩ := own_set (P := P) hrow (vs := vs) hpp (by rw [hl.eq]; exact ho) hf.all
  have hcs : v.cells = vs.toArray := by rw [← hc.eq]
  have e1 : (xop a.eval (.store t x y) ty).run P w = .ok .skip w' := by
    have : rAddr p o = ⟨g, o, none⟩ := by rw [hpp]; simp [rAddr, add_lit]
    have hx := S.fr.ev (x := x) (v := .pointer (some (rAddr p o)))
    rw [this] at hx
    simp [xop, execOp, Instr.storeAt, hx, S.fr.ev (x := y) (v := v), Instr.sureAddr, storeVar, run_size, Sem.run_bind, hcs, hl.eq, hrun]
  simp only [e1, Oper.uponIn]
  have S' := S.put (d := d) (v := undef) (l' := l')
  exact K _ _ (S.reput (x := row e sz p n c xs) (y := row e sz p n c (xs.take o ++ vs ++ xs.drop (o + vs.length))) S'.slots S'.defers rfl hag hown (fun k h => .inl h) (row_foot_lt hown) (row_loc _ _ _ _ _ _))
/-- a row is cut. -/
theorem scut {m : Nat} {mi : Int} (S : St w0 M0 ds a w l bs fs) [Ev ⟨[], l⟩ x (.slice p n c)] [Ev ⟨[], l⟩ y (.int kk mi)] [hm : IsNat mi m] [Und P t (.slice e)] {e' : TypeId} [TI P e z sz by_] {sz' : Nat} [hr : HasRow bs p n e' sz' c xs] [hrep : ReplI bs (row e' sz' p n c xs) (row e' sz' p m c (xs.take (m * sz'))) bs'] [hp : PutO l d (.slice p m c) l']
    (hle : m ≤ n) (K : ∀ a, St w0 M0 ds a w l' bs' fs → WL P r ops Q rest a w) : WL P r ops Q (⟨d, .slice t x none (some y) none, ty, pos, af, none⟩ :: rest) a w := by
  refine wl_plain rfl ?_
  rw [semAt_nd rfl]
  have hrow := S.row p n
  have hown : w.ownsRow 0 e' sz' (.slice p m c) m (xs.take (m * sz')) := by
    refine ⟨by rw [List.length_take, hrow.1, Nat.min_eq_left (Nat.mul_le_mul_right _ hle)], ?_⟩
    rcases hrow.2 with ⟨hv, rfl⟩ | ⟨g, cap, cur, hv, hb, hg, hnc, hcm, hcs, ht⟩
    · cases hv
      exact .inl ⟨by rw [show m = 0 from by omega], by omega⟩
    · cases hv
      exact .inr ⟨g, c, cur, rfl, hb, hg, by omega, hcm, hcs, by rw [← ht, List.take_take, Nat.min_eq_left (Nat.mul_le_mul_right _ hle)]⟩
  have hnc : n ≤ c := by
    rcases hrow.2 with ⟨hv, rfl⟩ | ⟨g, cap, cur, hv, _, _, hnc, _⟩
    · omega
    · cases hv; exact hnc
  have h2 := hm.eq
  subst h2
  have e1 : (xop a.eval (.slice t x none (some y) none) ty).run P w = .ok (.value (.slice p m c)) w := by
    have hsz := run_size (P := P) (t := e) (z := z) (s := sz) (b := by_) w
    have hle' : m ≤ c := by omega
    simp [xop, execOp, Instr.sliceAt, Instr.slice, Instr.sliceBounds, Instr.sliceBound, asIntOf, S.fr.ev (x := x) (v := .slice p n c), S.fr.ev (x := y) (v := .int kk (m : Int)), Sem.run_bind, run_und, hsz, hle']
    cases p <;> simp [Addr.add]
  simp only [e1, Oper.uponIn]
  have S' := S.put (d := d) (v := .slice p m c) (l' := l')
  exact K _ (S.reput (x := row e' sz' p n c xs) (y := row e' sz' p m c (xs.take (m * sz'))) S'.slots S'.defers rfl (Agree.refl _ _) hown (fun k h => .inl h) (row_foot_lt hown) (row_loc _ _ _ _ _ _))
end
end Go.Wk
