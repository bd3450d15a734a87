import Derived.Test.YtajmjbboahmdkaaWkU
import Derived.Lib.AppendZeros
namespace Go.Wk
open Go
section
variable {P : Program} {ty : TypeId} {l : Cx} {bs : List Item} {fs : List (World → Prop)} {x y : Operand} {t e : TypeId}
instance opCapSl {p : Option Addr} {a c : Nat} [Ev l x (.slice p a c)] [Und P t (.slice e)] : OpQ P (.call { callee := .builtin .cap, args := #[x], argTypes := #[t] }) ty l bs fs (.int .i64 c) := ⟨fun ρ w h _ => by
  simp [xop, execOp, resolve, invoke, builtin, Builtin.cap_, h.ev (x := x) (v := .slice p a c), Sem.run_bind, run_und, goInt]⟩
instance (priority := 960) opIdxB {lc : Cx} {b n c k o : Nat} {kk : IntKind} {m : Int} {z : Value} {sz by_ : Nat} [Ev lc x (.slice (some ⟨b, 0, none⟩) n c)] [Ev lc y (.int kk m)] [Und P t (.slice e)] [TI P e z sz by_] [hm : IsNat m k] [hk : KLt k n] [hmul : MulN k sz o] :
    OpQ P (.indexAddr t x y) ty lc bs fs (.pointer (some ⟨b, o, none⟩)) := ⟨fun ρ w h mm => by
  have hlt := hk.lt
  have h2 := hm.eq
  subst h2
  have he : (⟨b, 0, none⟩ : Addr).add (k * sz) = ⟨b, o, none⟩ := by rw [hmul.eq, add_lit]
  simp [xop, execOp, h.ev (x := x) (v := .slice (some ⟨b, 0, none⟩) n c), h.ev (x := y) (v := .int kk (k : Int))]
  simp [run_indexAt (P := P) (t := t) (e := e) (z := z) (sz := sz) (by_ := by_) (Int.natCast_nonneg k) (Int.ofNat_lt.2 hlt), he]⟩
class LeC (a b : Nat) : Prop where le : a ≤ b
instance (priority := 1100) lec0 {a : Nat} : LeC a a := ⟨Nat.le_refl _⟩
class HiOk (om oh : Option Operand) : Prop where ok : om.isSome = true → oh.isSome = true
instance hiok0 {oh : Option Operand} : HiOk none oh := ⟨fun h => by cases h⟩
instance hiok1 {om : Option Operand} {x : Operand} : HiOk om (some x) := ⟨fun _ => rfl⟩
end
section
variable {P : Program} {r : Option Nat} {ops : Array Oper} {Q : Exit → Act → World → Prop} {w0 : World} {M0 : Nat → Prop} {ds : List Deferred} {a : Act} {w : World} {l : List Value} {bs bs' : List Item} {fs : List (World → Prop)}
  {d : Option Nat} {op : Op} {ty : TypeId} {pos : String} {af : Array Edge} {rest : List Oper} {v : Value} {t e : TypeId} {sz by_ n c : Nat} {z : Value} {p : Option Addr} {xs : List Value} {x y : Operand}
theorem add_lit_off (g o j : Nat) : (⟨g, o, none⟩ : Addr).add j = ⟨g, o + j, none⟩ := by unfold Addr.add; split <;> simp_all
theorem run_cut {ρ : Operand → Value} {lc : Cx} {ol oh om : Option Operand} {lo hi mx : Nat} [Ev lc x (.slice p n c)] [hl : EvB lc ol 0 lo] [hh : EvB lc oh n hi] [hx : EvB lc om c mx] [Und P t (.slice e)] [TI P e z sz by_] (hf : Fr ρ lc)
    (h1 : mx ≤ c) (h2 : hi ≤ mx) (h3 : lo ≤ hi) (hxh : om.isSome = true → oh.isSome = true) (w : World) :
    (xop ρ (.slice t x ol oh om) ty).run P w = .ok (.value (.slice (if mx = lo then p else p.map (·.add (lo * sz))) (hi - lo) (mx - lo))) w := by
  have hsz := run_size (P := P) (t := e) (z := z) (s := sz) (b := by_) w
  have eX : ρ x = .slice p n c := hf.ev
  have hb : (Instr.sliceBounds true n c (ol.map ρ) (oh.map ρ) (om.map ρ)).run P w = .ok (lo, hi, mx) w := by
    rcases hx.eq with ⟨rfl, rfl⟩ | ⟨o, kk, rfl, h⟩
    · rcases hh.eq with ⟨rfl, rfl⟩ | ⟨o2, kk2, rfl, h'⟩
      · rcases hl.eq with ⟨rfl, rfl⟩ | ⟨o3, kk3, rfl, h''⟩
        · simp [Instr.sliceBounds]
        · have e3 := hf.ev (x := o3) (v := .int kk3 (lo : Int))
          simp [Instr.sliceBounds, Sem.run_bind, e3, run_sliceBound h3]
      · have e2 := hf.ev (x := o2) (v := .int kk2 (hi : Int))
        have h2' : hi ≤ mx := h2
        rcases hl.eq with ⟨rfl, rfl⟩ | ⟨o3, kk3, rfl, h''⟩
        · simp [Instr.sliceBounds, Sem.run_bind, e2, run_sliceBound h2']
        · have e3 := hf.ev (x := o3) (v := .int kk3 (lo : Int))
          simp [Instr.sliceBounds, Sem.run_bind, e2, e3, run_sliceBound h2', run_sliceBound h3]
    · have e1 := hf.ev (x := o) (v := .int kk (mx : Int))
      rcases hh.eq with ⟨rfl, rfl⟩ | ⟨o2, kk2, rfl, h'⟩
      · exact absurd (hxh rfl) (by simp)
      · have e2 := hf.ev (x := o2) (v := .int kk2 (hi : Int))
        rcases hl.eq with ⟨rfl, rfl⟩ | ⟨o3, kk3, rfl, h''⟩
        · simp [Instr.sliceBounds, Sem.run_bind, e1, e2, run_sliceBound h1, run_sliceBound h2]
        · have e3 := hf.ev (x := o3) (v := .int kk3 (lo : Int))
          simp [Instr.sliceBounds, Sem.run_bind, e1, e2, e3, run_sliceBound h1, run_sliceBound h2, run_sliceBound h3]
  have key : (Instr.slice t (.slice p n c) (ol.map ρ) (oh.map ρ) (om.map ρ)).run P w = .ok (.slice (if mx = lo then p else p.map (·.add (lo * sz))) (hi - lo) (mx - lo)) w := by
    simp only [Instr.slice, Sem.run_bind, run_und, Result.andThen_ok, hb, hsz, Sem.run_pure]
  simp only [xop, execOp, Instr.sliceAt, eX, Sem.run_bind, run_und, Result.andThen_ok, Sem.run_pure]
  simp [key]
instance (priority := 700) opSliceQ {lc : Cx} {ol oh om : Option Operand} {lo hi mx : Nat} [Ev lc x (.slice p n c)] [EvB lc ol 0 lo] [EvB lc oh n hi] [EvB lc om c mx] [Und P t (.slice e)] [TI P e z sz by_] [h1 : LeC mx c] [h2 : LeC hi mx] [h3 : LeC lo hi] [h4 : HiOk om oh] :
    OpQ P (.slice t x ol oh om) ty lc bs fs (.slice (if mx = lo then p else p.map (·.add (lo * sz))) (hi - lo) (mx - lo)) := ⟨fun ρ w h _ => run_cut h h1.le h2.le h3.le h4.ok w⟩
/-- append(nil, make([]T, n)...): a new row of noughts. -/
theorem sapz {tn : TypeId} {kn k : IntKind} {m : Nat} {mi : Int} {l' : Nat → Nat → List Value} (S : St w0 M0 ds a w l bs fs) [Ev ⟨[], l⟩ x (.slice none 0 0)] [Ev ⟨[], l⟩ y (.int k mi)] [hm : IsNat mi m] [ht : Und P t (.slice e)] [htn : Und P tn (.int kn)] [hti : TI P e z sz by_] {zc : List Value} [hzc : Cells z zc] [hzl : LenIs zc sz]
    [hp : ∀ b c, PutO l d (.slice (some ⟨b, 0, none⟩) m c) (l' b c)] (h0 : 0 < m) (hs : 0 < sz) (h63 : m ≤ maxLen) (h48 : m * by_ ≤ 140737488355328)
    (K : ∀ b c zs a w, St w0 M0 ds a w (l' b c) (row e sz (some ⟨b, 0, none⟩) m c zs :: bs) fs → WL P r ops Q rest a w) :
    WL P r ops Q (⟨d, .call { callee := .builtin .append, args := #[x, y], argTypes := #[t, tn] }, ty, pos, af, none⟩ :: rest) a w := by
  refine wl_plain rfl ?_
  rw [semAt_nd rfl]
  obtain ⟨i, hi, hz', hsize, hby⟩ := hti.ex
  subst hsize hby
  have hmm := hm.eq
  subst hmm
  have h63' := h63
  have hzs : z.cells.size = i.size := by rw [← Array.length_toList, hzc.eq, hzl.eq]
  have hrun := Lib.run_append_nil_zeros (P := P) w t tn ty e i z k kn ht.eq htn.eq hi hz' m h0 hs (by unfold maxLen at h63; omega) (by omega)
  have e1 : (xop a.eval (.call { callee := .builtin .append, args := #[x, y], argTypes := #[t, tn] }) ty).run P w = .ok (.value (.slice (some ⟨w.heap.size, 0, none⟩) m (grownCap w m 0 e))) (w.drew.alloc (.cells (Builtin.zeroCells z.cells m ++ Builtin.zeroCells z.cells (grownCap w m 0 e - m)) e)) := by
    simp [xop, execOp, resolve, invoke, builtin, S.fr.ev (x := x) (v := .slice none 0 0), S.fr.ev (x := y) (v := .int k (m : Int)), Sem.run_bind, hrun]
  simp only [e1, Oper.uponIn]
  have := hp w.heap.size (grownCap w m 0 e)
  have S' := S.put (d := d) (v := .slice (some ⟨w.heap.size, 0, none⟩) m (grownCap w m 0 e))
  have hge := grownCap_ge w m 0 e
  have hgrow : Grow w (w.drew.alloc (.cells (Builtin.zeroCells z.cells m ++ Builtin.zeroCells z.cells (grownCap w m 0 e - m)) e)) := (Agree.drawn _ w _).trans (Agree.alloc _ w.drew _)
  refine K _ _ ((Builtin.zeroCells z.cells m).toList) _ _ ⟨S'.slots, S'.defers, S'.wd.addRow hgrow (e := e) (sz := i.size) ⟨?_, .inr ⟨w.heap.size, _, _, rfl, Nat.zero_le _, heap_alloc_new w.drew _, hge, grownCap_le_maxLen w m 0 e h63', ?_, ?_⟩⟩ (fun ad h => by cases h; exact Nat.le_refl _)⟩
  · rw [Array.length_toList, size_zeroCells, hzs]
  · rw [Array.size_append, size_zeroCells, size_zeroCells, hzs, ← Nat.add_mul]; congr 1; omega
  · rw [Array.toList_append]
    have : (Builtin.zeroCells z.cells m).toList.length = m * i.size := by rw [Array.length_toList, size_zeroCells, hzs]
    rw [← this]; exact List.take_left
/-- append(s[:i], s[j:]...) in a row of one's own: what lies between falls out. -/
theorem sapr {i j m cy : Nat} {q : Option Addr} {tx e' : TypeId} {l' : List Value} (p : Option Addr) (n : Nat) (S : St w0 M0 ds a w l bs fs) {c : Nat} {xs : List Value} [hr : HasRow bs p n e sz c xs] [Ev ⟨[], l⟩ x (.slice p i c)] [Ev ⟨[], l⟩ y (.slice q m cy)] [ht : Und P t (.slice e)] [htx : Und P tx (.slice e')] [hti : TI P e z sz by_] [hfl : FlatR xs]
    [hp : PutO l d (.slice p (i + m) c) l'] [hrep : ReplI bs (row e sz p n c xs) (row e sz p (i + m) c (xs.take (i * sz) ++ xs.drop (j * sz))) bs'] (hq : q = if c = j then p else p.map (·.add (j * sz))) (hm : m = n - j) (hij : i ≤ j) (hj : j ≤ n) (hn : 0 < n)
    (K : ∀ a w, St w0 M0 ds a w l' bs' fs → WL P r ops Q rest a w) :
    WL P r ops Q (⟨d, .call { callee := .builtin .append, args := #[x, y], argTypes := #[t, tx] }, ty, pos, af, none⟩ :: rest) a w := by
  refine wl_plain rfl ?_
  rw [semAt_nd rfl]
  obtain ⟨ii, hi, hz', hsize, hby⟩ := hti.ex
  subst hsize hby
  have hrow := S.row p n
  obtain ⟨g, cur, hpp, hg, hnc, hcs, htk, hcm⟩ := own_cells hrow hn
  have hxl := hrow.1
  have hnl : (xs.drop (j * ii.size)).length = m * ii.size := by rw [List.length_drop, hxl, hm, Nat.sub_mul]
  have hjn := Nat.mul_le_mul_right ii.size hj
  have hijn := Nat.mul_le_mul_right ii.size hij
  have hncn := Nat.mul_le_mul_right ii.size hnc
  have hxc : ∀ k u, xs[k]? = some u → cur[k]? = some u := fun k u hk => by
    rw [← htk, List.getElem?_take] at hk
    split at hk
    · simpa using hk
    · cases hk
  have hs : Src P ii.size tx (.slice q m cy) m (xs.drop (j * ii.size)) w := by
    by_cases hcj : c = j
    · rw [if_pos hcj, hpp] at hq
      subst hq
      have h0 : xs.drop (j * ii.size) = [] := by
        have h00 : n - j = 0 := by omega
        refine List.eq_nil_of_length_eq_zero ?_
        rw [hnl, hm, h00, Nat.zero_mul]
      exact Src.ofSlice w htx.eq _ _ _ _ hnl (fun k u hk => by rw [h0] at hk; simp at hk) (fun u hu => hfl.all u (List.mem_of_mem_drop hu))
    · rw [if_neg hcj, hpp] at hq
      subst hq
      refine Src.ofSlice w htx.eq _ _ _ _ hnl (fun k u hk => ?_) (fun u hu => hfl.all u (List.mem_of_mem_drop hu))
      show w.cell? (((⟨g, 0, none⟩ : Addr).add (j * ii.size)).add k) = some u
      rw [add_lit, add_lit_off, cell_of_row w g _ cur e (0, 0) hg]
      rw [List.getElem?_drop] at hk
      exact hxc _ _ hk
  have hroom : i + m ≤ c := by omega
  have him : (i + m) * ii.size ≤ c * ii.size := Nat.mul_le_mul_right _ hroom
  have hcell : ∀ k, w.cell? ⟨g, k, none⟩ = cur[k]? := fun k => cell_of_row w g k cur e (0, 0) hg
  have hb0 : ∀ k, k < (xs.drop (j * ii.size)).length → i * ii.size + k < cur.size := fun k hk => by
    rw [hnl] at hk
    rw [hcs]
    rw [Nat.add_mul] at him
    omega
  have hrun := run_append_room_src (P := P) w t tx ty e ii ht.eq hi g 0 i c (.slice q m cy) m _ hs hroom
    (fun k hk => by simp only [Nat.zero_add]; rw [hcell]; simpa using hb0 k hk) (fun k hk => by simp [World.frozen?, hg])
  simp only [Nat.zero_add] at hrun
  have hfit2 : i * ii.size + (xs.drop (j * ii.size)).length ≤ cur.size := by rw [hnl, hcs, ← Nat.add_mul]; exact him
  have hsc : w.setCells g (i * ii.size) (xs.drop (j * ii.size)) = w.setRow g ((cur.toList.take (i * ii.size) ++ xs.drop (j * ii.size) ++ cur.toList.drop (i * ii.size + (xs.drop (j * ii.size)).length)).toArray) := by
    have h1 := run_storeCells_cells (P := P) g (i * ii.size) (xs.drop (j * ii.size)) 0 w (fun k hk => by rw [hcell]; simpa using hb0 k hk) (fun k hk => by simp [World.frozen?, hg]) hs.one
    have h2 := run_storeCells_at (P := P) g (i * ii.size) e (xs.drop (j * ii.size)) 0 cur w hg (by simpa using hfit2) hs.one
    rw [h1] at h2
    simp only [Nat.add_zero] at h2
    injection h2
  rw [hsc] at hrun
  have e1 : (xop a.eval (.call { callee := .builtin .append, args := #[x, y], argTypes := #[t, tx] }) ty).run P w = .ok (.value (.slice p (i + m) c)) (w.setRow g ((cur.toList.take (i * ii.size) ++ xs.drop (j * ii.size) ++ cur.toList.drop (i * ii.size + (xs.drop (j * ii.size)).length)).toArray)) := by
    have ex := S.fr.ev (x := x) (v := .slice p i c)
    rw [hpp] at ex
    simp [xop, execOp, resolve, invoke, builtin, ex, S.fr.ev (x := y) (v := .slice q m cy), Sem.run_bind, hrun, hpp]
  simp only [e1, Oper.uponIn]
  have S' := S.put (d := d) (v := .slice p (i + m) c) (l' := l')
  have hti' : cur.toList.take (i * ii.size) = xs.take (i * ii.size) := by
    rw [← htk, List.take_take, Nat.min_eq_left (by omega)]
  have hlen : (xs.take (i * ii.size) ++ xs.drop (j * ii.size)).length = (i + m) * ii.size := by
    rw [List.length_append, List.length_take, hnl, hxl, Nat.min_eq_left (by omega), Nat.add_mul]
  have hown : (w.setRow g ((cur.toList.take (i * ii.size) ++ xs.drop (j * ii.size) ++ cur.toList.drop (i * ii.size + (xs.drop (j * ii.size)).length)).toArray)).ownsRow 0 e ii.size (.slice p (i + m) c) (i + m) (xs.take (i * ii.size) ++ xs.drop (j * ii.size)) := by
    subst hpp
    refine ⟨hlen, .inr ⟨g, c, _, rfl, Nat.zero_le _, setRow_heap w g cur _ e _ hg, hroom, hcm, ?_, ?_⟩⟩
    · simp only [List.size_toArray, List.length_append, List.length_take, List.length_drop, Array.length_toList]
      rw [List.length_drop] at hfit2
      omega
    · simp only
      rw [hti', ← hlen]
      exact List.take_left
  refine K _ _ (S.reput S'.slots S'.defers (hr := hrep) rfl (Agree.setRow w g _ ⟨_, hpp, rfl⟩) hown (fun k h => .inl h) (row_foot_lt hown) (row_loc _ _ _ _ _ _))
/-- what lies behind a row's end is cleared. -/
theorem sclr {k m cy : Nat} {q : Option Addr} {l' : List Value} (p : Option Addr) (m' : Nat) (S : St w0 M0 ds a w l bs fs) {c : Nat} {xs : List Value} [hr : HasRow bs p m' e sz c xs] [Ev ⟨[], l⟩ y (.slice q k cy)] [ht : Und P t (.slice e)] [hti : TI P e z sz by_] {zc : List Value} [hzc : Cells z zc] [hfl : Flat zc] [hzl : LenIs zc sz]
    [hp : PutO l d (.tuple #[]) l'] (hm : m = m') (hq : q = if c = m then p else p.map (·.add (m * sz))) (hk : m + k ≤ c)
    (K : ∀ a w, St w0 M0 ds a w l' bs fs → WL P r ops Q rest a w) :
    WL P r ops Q (⟨d, .call { callee := .builtin .clear, args := #[y], argTypes := #[t] }, ty, pos, af, none⟩ :: rest) a w := by
  subst hm
  refine wl_plain rfl ?_
  rw [semAt_nd rfl]
  obtain ⟨ii, hi, hz', hsize, hby⟩ := hti.ex
  subst hsize hby
  have hrow := S.row p m
  have S' := S.put (d := d) (v := .tuple #[]) (l' := l')
  have hey := S.fr.ev (x := y) (v := .slice q k cy)
  by_cases hk0 : k = 0
  · subst hk0
    have e1 : (xop a.eval (.call { callee := .builtin .clear, args := #[y], argTypes := #[t] }) ty).run P w = .ok (.value (.tuple #[])) w := by
      cases q <;> simp [xop, execOp, resolve, invoke, builtin, Builtin.clear_, hey, Sem.run_bind, run_und]
    simp only [e1, Oper.uponIn]
    exact K _ _ S'
  · have hcm : c ≠ m := by omega
    rw [if_neg hcm] at hq
    rcases hrow.2 with ⟨hv, h0⟩ | ⟨g, cap, cur, hv, hb, hg, hnc, hcmx, hcs, htk⟩
    · cases hv; omega
    · cases hv
      have hq' : q = some ⟨g, m * ii.size, none⟩ := by rw [hq]; simp [add_lit]
      subst hq'
      have hkk : (m + k) * ii.size ≤ c * ii.size := Nat.mul_le_mul_right _ hk
      rw [Nat.add_mul] at hkk
      have hzs : z.cells.size = ii.size := by rw [← Array.length_toList, hzc.eq, hzl.eq]
      have hzlen : (Builtin.zeroCells z.cells k).toList.length = k * ii.size := by rw [Array.length_toList, size_zeroCells, hzs]
      have hone : ∀ u ∈ (Builtin.zeroCells z.cells k).toList, u.oneCell' = true := fun u hu => by
        simp only [Builtin.zeroCells, Array.toList_map, List.mem_map, Array.toList_range, List.mem_range] at hu
        obtain ⟨j, hj, rfl⟩ := hu
        have hpos : 0 < z.cells.size := by
          rcases Nat.eq_zero_or_pos z.cells.size with h0 | h0
          · rw [h0] at hj; simp at hj
          · exact h0
        have hlt : j % z.cells.size < z.cells.size := Nat.mod_lt _ hpos
        refine hfl.all _ ?_
        rw [← hzc.eq]
        rw [getElem!_pos z.cells (j % z.cells.size) hlt]
        simp
      have hst := run_storeCells_at (P := P) g (m * ii.size) e (Builtin.zeroCells z.cells k).toList 0 cur w hg (by simp only [Nat.add_zero]; rw [hzlen, hcs]; exact hkk) hone
      simp only [Nat.add_zero] at hst
      have hrz : (zeroValue e).run P w = .ok z w := run_zero (P := P) (t := e) (z := z) (s := ii.size) (b := ii.bytes) w
      have e1 : (xop a.eval (.call { callee := .builtin .clear, args := #[y], argTypes := #[t] }) ty).run P w = .ok (.value (.tuple #[])) (w.setRow g ((cur.toList.take (m * ii.size) ++ (Builtin.zeroCells z.cells k).toList ++ cur.toList.drop (m * ii.size + (Builtin.zeroCells z.cells k).toList.length)).toArray)) := by
        obtain ⟨k', rfl⟩ : ∃ k', k = k' + 1 := ⟨k - 1, by omega⟩
        simp only [xop, execOp, resolve, invoke, builtin, Builtin.clear_, List.map_toArray, List.map_cons, List.map_nil, hey, Sem.run_bind, run_und, Result.andThen_ok, Sem.run_pure]
        simp [run_und, Sem.run_bind, hrz, hst]
      simp only [e1, Oper.uponIn]
      have hown : (w.setRow g ((cur.toList.take (m * ii.size) ++ (Builtin.zeroCells z.cells k).toList ++ cur.toList.drop (m * ii.size + (Builtin.zeroCells z.cells k).toList.length)).toArray)).ownsRow 0 e ii.size (.slice (some ⟨g, 0, none⟩) m c) m xs := by
        refine ⟨hrow.1, .inr ⟨g, c, _, rfl, Nat.zero_le _, setRow_heap w g cur _ e _ hg, hnc, hcmx, ?_, ?_⟩⟩
        · simp only [List.size_toArray, List.length_append, List.length_take, List.length_drop, Array.length_toList]
          rw [Array.length_toList] at hzlen
          omega
        · simp only
          have hl2 : (cur.toList.take (m * ii.size)).length = m * ii.size := by rw [List.length_take, Array.length_toList, hcs]; omega
          rw [List.append_assoc, ← htk]
          have h5 := List.take_left (l₁ := cur.toList.take (m * ii.size)) (l₂ := (Builtin.zeroCells z.cells k).toList ++ cur.toList.drop (m * ii.size + (Builtin.zeroCells z.cells k).toList.length))
          rw [hl2] at h5
          exact h5
      refine K _ _ (S.reput (x := row e ii.size (some ⟨g, 0, none⟩) m c xs) (y := row e ii.size (some ⟨g, 0, none⟩) m c xs) S'.slots S'.defers (hr := ⟨?_⟩) rfl (Agree.setRow w g _ ⟨_, rfl, rfl⟩) hown (fun k h => .inl h) (row_foot_lt hown) (row_loc _ _ _ _ _ _))
      obtain ⟨pre, post, h⟩ := List.append_of_mem hr.mem
      exact ⟨pre, post, h, h⟩
end
end Go.Wk
namespace Go.Wk
theorem ls_own_from {w : World} {e : TypeId} {p : Option Addr} {n c : Nat} {xs : List LTerm} (h : w.ownsRow 0 e 5 (.slice p n c) n (encL xs)) (hk : ∀ x ∈ xs, LtIn w x) : ∀ (k i : Nat), xs.length - i = k → i ≤ xs.length → LsIn w p i (xs.drop i)
  | 0, i, hi, hle => by rw [List.drop_of_length_le (by omega)]; simp [LsIn]
  | k + 1, i, hi, hle => by
    have hlt : i < xs.length := by omega
    have hn : n = xs.length := by
      have := h.1
      rw [encL_len] at this
      have e5 : Enc.sz LTerm = 5 := rfl
      rw [e5] at this; omega
    obtain ⟨g, cur, hp, _⟩ := own_cells h (by omega)
    rw [nth_drop hlt]
    refine ⟨⟨⟨g, 0, none⟩, hp, fun j v hj => ?_⟩, hk _ (nth_mem hlt), ls_own_from h hk k (i + 1) (by omega) hlt⟩
    have hj5 : j < 5 := (List.getElem?_eq_some_iff.1 hj).1
    have h1 := encL_get xs i _ (nth_get hlt) j hj5
    have h2 : (encL xs)[i * 5 + j]? = some v := by
      rw [← hj]; exact h1
    have h3 := own_cell h h2
    rw [hp] at h3
    simp only [rAddr, Option.getD_some, add_add] at h3
    exact h3
/-- a row of terms, as others read it. -/
theorem ls_of_own {M : Nat → Prop} {w : World} {e : TypeId} {p : Option Addr} {n c : Nat} {xs : List LTerm} (h : w.ownsRow 0 e 5 (.slice p n c) n (encL xs)) (hk : ∀ x ∈ xs, Stable M w (LtF x)) (hM : ∀ ad, p = some ad → ¬ M ad.block) : Stable M w (LsF p 0 xs) := fun w' hw' => by
  have h' : w'.ownsRow 0 e 5 (.slice p n c) n (encL xs) := row_loc e 5 p n c (encL xs) w w' (fun k hkf => by
    obtain ⟨ad, h1, h2⟩ := hkf
    exact hw'.blk (row_foot_lt h k ⟨ad, h1, h2⟩) (by rw [h2]; exact hM ad h1)) h
  have := ls_own_from h' (fun x hx => hk x hx w' hw') _ 0 rfl (Nat.zero_le _)
  rw [List.drop_zero] at this
  exact this
end Go.Wk
namespace Go.Wk
theorem St.rowFact {w0 M0 ds a w l bs fs} (S : St w0 M0 ds a w l bs fs) (p : Option Addr) (n : Nat) {e : TypeId} {sz c : Nat} {xs : List Value} [h : HasRow bs p n e sz c xs] {Φ : World → Prop} (hΦ : Φ ∈ fs) : Stable (fun k => ∃ ad, p = some ad ∧ k = ad.block) w Φ :=
  (S.wd.facts Φ hΦ).less fun _ _ hk => ⟨_, h.mem, hk⟩
theorem St.apart2 {w0 M0 ds a w l bs fs} (S : St w0 M0 ds a w l bs fs) (x y : Item) [h : SubL [x, y] bs] (k : Nat) (hk : x.foot k) : ¬ y.foot k := by
  have := (S.wd.apart.sublist h.sub)
  simp only [List.pairwise_cons, List.mem_singleton, forall_eq] at this
  exact this.1 k hk
end Go.Wk
