import Derived.Test.YtajmjbboahmdkaaWkI
namespace Go.Wk
open Go

class RepL (n : Nat) (zs : List Value) (r : outParam (List Value)) : Prop where eq : (List.replicate n zs).flatten = r
instance repl0 {zs : List Value} : RepL 0 zs [] := ⟨by simp⟩
instance replS {n : Nat} {zs r r' : List Value} [h : RepL n zs r] [h' : AppL zs r r'] : RepL (n + 1) zs r' := ⟨by rw [← h'.eq, ← h.eq]; simp [List.replicate_succ]⟩
class LeS (n k : Nat) : Prop where le : n ≤ k
instance les0 {k : Nat} : LeS 0 k := ⟨Nat.zero_le _⟩
instance lesS {n k : Nat} [h : LeS n k] : LeS (n + 1) (k + 1) := ⟨Nat.succ_le_succ h.le⟩
theorem range_rep (n : Nat) (zs : List Value) (hz : zs ≠ []) : ((Array.range (n * zs.length)).map (fun i => zs.toArray[i % zs.toArray.size]!)) = ((List.replicate n zs).flatten).toArray := by
  apply Array.ext'
  simp only [Array.toList_map, Array.toList_range]
  induction n with
  | zero => simp
  | succ n ih =>
    have hpos : 0 < zs.length := List.length_pos_iff.2 hz
    rw [Nat.add_mul, Nat.one_mul, List.range_add, List.map_append, ih, List.replicate_succ', List.flatten_append]
    congr 1
    simp only [List.map_map, List.flatten_cons, List.flatten_nil, List.append_nil]
    apply List.ext_getElem?
    intro k
    by_cases hk : k < zs.length
    · simp [hk, Nat.mul_add_mod_self_right, Nat.mod_eq_of_lt hk]
    · simp [hk]

/-- an operation that makes a block. -/
class OpB (P : Program) (op : Op) (ty : TypeId) (l : Cx) (t : outParam TypeId) (cs : outParam (List Value)) (val : outParam (Nat → Value)) : Prop where
  run : ∀ (ρ : Operand → Value) (w : World), Fr ρ l → (xop ρ op ty).run P w = .ok (.value (val w.heap.size)) (w.alloc (.cells cs.toArray t))
section
variable {P : Program} {r : Option Nat} {ops : Array Oper} {Q : Exit → Act → World → Prop} {w0 : World} {M0 : Nat → Prop} {ds : List Deferred} {a : Act} {w : World} {l : List Value} {bs bs' : List Item} {fs : List (World → Prop)}
  {d : Option Nat} {op : Op} {ty : TypeId} {pos : String} {af : Array Edge} {rest : List Oper} {v : Value}
theorem sn {t : TypeId} {cs : List Value} {val : Nat → Value} {l' : Nat → List Value} [hq : OpB P op ty ⟨[], l⟩ t cs val] [hp : ∀ b, PutO l d (val b) (l' b)] (S : St w0 M0 ds a w l bs fs)
    (K : ∀ b a w, St w0 M0 ds a w (l' b) (box b t cs :: bs) fs → WL P r ops Q rest a w) (hnd : isDefer op = false := by rfl) : WL P r ops Q (⟨d, op, ty, pos, af, none⟩ :: rest) a w := by
  refine wl_plain rfl ?_
  rw [semAt_nd hnd]
  simp only [hq.run a.eval w S.fr, Oper.uponIn]
  have := hp w.heap.size
  have S' := S.put (d := d) (v := val w.heap.size)
  exact K _ _ _ ⟨S'.slots, S'.defers, S'.wd.alloc t cs⟩
end
class NeN (zs : List Value) : Prop where ne : zs ≠ []
instance {z : Value} {zs : List Value} : NeN (z :: zs) := ⟨by simp⟩
instance opBuildSlice {P : Program} {t e ty : TypeId} {n sz by_ : Nat} {l : Cx} {parts : List (Nat × Operand)} {z : Value} {zs rs cs : List Value} [Und P t (.slice e)] [TI P e z sz by_] [hc : Cells z zs] [hne : NeN zs] [hls : LenIs zs sz] [h1n : LeS n 4096] [h1s : LeS sz 4096] [hr : RepL n zs rs] [hs : SetMany (fun i => some (i * sz, sz)) l rs parts cs] :
    OpB P (.buildSlice t n parts.toArray) ty l e cs (fun b => .slice (some ⟨b, 0, none⟩) n n) := ⟨fun ρ w h => by
  have hz : z.cells = zs.toArray := by rw [← hc.eq]
  have h1 := hs.run ρ h
  have hle : ¬ n * sz > 2 ^ 24 := by
    have := Nat.mul_le_mul h1n.le h1s.le
    omega
  have h2 := range_rep n zs hne.ne
  rw [hr.eq, hls.eq] at h2
  simp only [xop, execOp, Instr.buildSlice, Sem.run_bind, run_und, Result.andThen_ok, run_size, List.map_toArray]
  rw [if_neg hle]
  by_cases h0 : n * sz = 0
  · rw [if_pos h0]
    have e : rs = [] := by
      have : rs.length = n * sz := by rw [← hr.eq, ← hls.eq]; simp
      exact List.eq_nil_of_length_eq_zero (by omega)
    subst e
    have h1' : Instr.fill (fun i => some (i * sz, sz)) #[] (parts.map fun x => (x.1, ρ x.2)) = some cs.toArray := h1
    have e0 : (Array.range 0).map (fun _ => (default : Value)) = #[] := by simp
    simp [h0, e0, h1', newRow]
  · rw [if_neg h0]
    simp only [Sem.run_bind, run_zero, Result.andThen_ok, Sem.run_pure, hz, h2]
    simp [h1, newRow]⟩
end Go.Wk
namespace Go.Wk
class HasFact (fs : List (World → Prop)) (Φ : World → Prop) : Prop where mem : Φ ∈ fs
instance hf0 {Φ : World → Prop} {fs : List (World → Prop)} : HasFact (Φ :: fs) Φ := ⟨List.mem_cons_self ..⟩
instance (priority := 900) hf1 {Φ Ψ : World → Prop} {fs : List (World → Prop)} [h : HasFact fs Φ] : HasFact (Ψ :: fs) Φ := ⟨List.mem_cons_of_mem _ h.mem⟩
theorem Mem.fact {w bs fs} (m : Mem w bs fs) (Φ : World → Prop) [h : HasFact fs Φ] : Stable (foots bs) w Φ := m.facts Φ h.mem
theorem Mem.fact0 {w bs fs} (m : Mem w bs fs) (Φ : World → Prop) [h : HasFact fs Φ] : Stable (fun _ => False) w Φ := (m.facts Φ h.mem).less fun _ _ h => h.elim
theorem St.mem {w0 M0 ds a w l bs fs} (S : St w0 M0 ds a w l bs fs) : Mem w bs fs := S.wd.mem
end Go.Wk
namespace Go.Wk
theorem LsIn.of_cells {w : World} {b : Nat} {cs : List Value} (hc : ∀ i : Nat, w.cell? ⟨b, i, none⟩ = cs[i]?) : ∀ (ts : List LTerm) (i : Nat), cs.drop (i * 5) = ts.flatMap LTerm.cells → (∀ t ∈ ts, LtIn w t) → LsIn w (some ⟨b, 0, none⟩) i ts
  | [], _, _, _ => by simp [LsIn]
  | t :: ts, i, h, hk => by
    refine ⟨⟨_, rfl, fun j v hj => ?_⟩, hk t (by simp), LsIn.of_cells hc ts (i + 1) ?_ fun x hx => hk x (by simp [hx])⟩
    · have e : (⟨b, 0, none⟩ : Addr).add (i * 5 + j) = ⟨b, i * 5 + j, none⟩ := by unfold Addr.add; split <;> simp_all
      rw [e, hc, ← List.getElem?_drop, h, List.flatMap_cons, List.getElem?_append_left]
      · exact hj
      · exact (List.getElem?_eq_some_iff.1 hj).1
    · rw [show (i + 1) * 5 = i * 5 + 5 from by omega, ← List.drop_drop, h, List.flatMap_cons]
      rfl
theorem LsIn.of_block {w : World} {b : Nat} {t : TypeId} (ts : List LTerm) (hb : w.heap[b]? = some (.cells (ts.flatMap LTerm.cells).toArray t (0, 0))) (h : ∀ t ∈ ts, LtIn w t) : LsIn w (some ⟨b, 0, none⟩) 0 ts :=
  LsIn.of_cells (cs := ts.flatMap LTerm.cells) (fun i => by rw [cell_of_row w b i _ t (0, 0) hb]; simp) ts 0 (by simp) h
abbrev textL (s : List UInt8) : LTerm := .mk 1 0 0 s none 0 []
abbrev freshL (u n : Int) : LTerm := .mk 2 u n [] none 0 []
abbrev hashL (p : Option Addr) (t : LTerm) : LTerm := .mk 5 0 0 [] p 1 [t]
abbrev pairL (p : Option Addr) (a b : LTerm) : LTerm := .mk 4 0 0 [] p 2 [a, b]
def Term.text (s : List UInt8) : Term := .mk 1 0 0 s []
def Term.fresh (u n : Int) : Term := .mk 2 u n [] []
def Term.hash (t : Term) : Term := .mk 5 0 0 [] [t]
def Term.pair (a b : Term) : Term := .mk 4 0 0 [] [a, b]
theorem textL_in (w : World) (s : List UInt8) : LtIn w (textL s) := by simp [LtIn, LsIn]
theorem freshL_in (w : World) (u n : Int) : LtIn w (freshL u n) := by simp [LtIn, LsIn]
end Go.Wk
namespace Go.Wk
/-- an element of a list of terms, as it lies in memory. -/
theorem ls_kid {M : Nat → Prop} {w : World} {p : Option Addr} {xs : List LTerm} (h : Stable M w (LsF p 0 xs)) {k : Nat} (hk : k < xs.length) : ∃ x ad, xs[k]? = some x ∧ x ∈ xs ∧ xs.drop k = x :: xs.drop (k + 1) ∧ p = some ad ∧ (∀ j v, x.cells[j]? = some v → w.cell? ((ad.add (k * 5)).add j) = some v) ∧ Stable M w (LtF x) := by
  have hx : xs[k]? = some xs[k] := List.getElem?_eq_getElem hk
  obtain ⟨ad, hp, hc⟩ := (h.now.get hx).1
  refine ⟨_, ad, hx, List.getElem_mem hk, List.drop_eq_getElem_cons hk, hp, fun j v hj => ?_, h.imp fun w' hw' => (LsIn.get hw' hx).2⟩
  rw [add_add]
  simpa using hc j v hj
theorem ls_of_lt {M : Nat → Prop} {w : World} {t : LTerm} (h : Stable M w (LtF t)) : Stable M w (LsF t.p 0 t.kids) := h.imp fun _ hw => (LtIn.iff.1 hw).2.2
end Go.Wk
namespace Go.Wk
/-- a value that is a term, its memory left alone but for M. -/
def IsT (M : Nat → Prop) (w : World) (v : Value) (T : Term) : Prop := ∃ r : LTerm, v = vL r ∧ r.t = T ∧ Stable M w (LtF r)
theorem IsT.mk' {M : Nat → Prop} {w : World} (r : LTerm) (h : Stable M w (LtF r)) : IsT M w (vL r) r.t := ⟨r, rfl, rfl, h⟩
class DropBs (bs : List Item) (ids : List Nat) (bs0 : outParam (List Item)) : Prop where sub : bs0.Sublist bs
instance dropbs0 {bs : List Item} : DropBs bs [] bs := ⟨.refl _⟩
class DropB (bs : List Item) (b : Nat) (bs0 : outParam (List Item)) : Prop where sub : bs0.Sublist bs
instance dropb0 {b : Nat} {t : TypeId} {cs : List Value} {bs : List Item} : DropB (box b t cs :: bs) b bs := ⟨.cons _ (.refl _)⟩
instance (priority := 900) dropb1 {b : Nat} {x : Item} {bs bs0 : List Item} [h : DropB bs b bs0] : DropB (x :: bs) b (x :: bs0) := ⟨.cons_cons _ h.sub⟩
instance dropbsS {b : Nat} {ids : List Nat} {bs bs1 bs0 : List Item} [h : DropB bs b bs1] [h' : DropBs bs1 ids bs0] : DropBs bs (b :: ids) bs0 := ⟨h'.sub.trans h.sub⟩
section
variable {P : Program} {r : Option Nat} {Q : Exit → Act → World → Prop} {w0 : World} {M0 : Nat → Prop} {ds : List Deferred} {a : Act} {w : World} {l : List Value} {bs bs0 : List Item} {fs : List (World → Prop)}
/-- a region that draws its order, and writes into the boxes 'ids' at its end. -/
theorem c_drawD {id : Nat} {lo : List Oper} (ord : List (Nat × Bool)) (ids : List Nat) [DropBs bs ids bs0] (S : St w0 M0 ds a w l bs fs) (h : ∀ w, St w0 M0 ds a w l bs fs → AQ P lo.toArray (fun w => Wd w0 M0 w bs0 fs) (fun a w => Q .normal a w) ord a w)
    (hm : P.follows .mixedOrders = true := by kernel_rfl) (hd : ((lo.all fun o => !isDefer o.op) && (Nat.beq ord.length lo.length && (Region.noSelect lo.toArray && flowFrom lo.toArray ord (Array.replicate lo.length false)))) = true := by kernel_rfl) : Wp P r (.region id lo.toArray true) Q a w := by
  simp only [Bool.and_eq_true] at hd
  refine wpIn_region_any hm (any_of_ac (C := fun w => Wd w0 M0 w bs0 fs) (fun i o ho => ?_) _ _ _ _ ?_)
  · have := List.all_eq_true.1 hd.1 o (by
      rw [List.getElem?_toArray] at ho
      exact List.mem_of_getElem? ho)
    simpa using this
  · have := h { w with drawn := w.drawn + 1 } ⟨S.slots, S.defers, S.wd.step (Agree.drawn _ w _)⟩ _ hd.2.2.1 hd.2.2.2
    rw [Nat.eq_of_beq_eq_true hd.2.1] at this
    simpa using this
end
end Go.Wk
namespace Go.Wk
abbrev zeroL : LTerm := .mk 0 0 0 [] none 0 []
def zeroT : Term := .mk 0 0 0 [] []
theorem zeroL_in (w : World) : LtIn w zeroL := by simp [LtIn, LsIn]
/-- a pair of results: a term, and an error. -/
def TE (M : Nat → Prop) (w : World) (v : Value) (T : Term) (e : Int) : Prop := ∃ r : LTerm, v = .tuple ⟨[vL r, .int .i64 e]⟩ ∧ r.t = T ∧ Stable M w (LtF r)
def iter (D : Term → Term) : Nat → Term → Term
  | 0, t => t
  | n + 1, t => D (iter D n t)
end Go.Wk
