import Derived.Test.YtajmjbboahmdkaaWkA
namespace Go.Wk
open Go
/-! quiet operations -/
instance opMove {P ty} {l : Cx} {bs fs x v} [Ev l x v] : OpQ P (.move x) ty l bs fs v := ⟨fun ρ w h _ => by simp [xop, execOp, h.ev (x := x) (v := v)]⟩
instance opAssign {P ty l bs fs x v} [Ev l x v] : OpQ P (.assign x) ty l bs fs v := ⟨fun ρ w h _ => by simp [xop, execOp, h.ev (x := x) (v := v)]⟩
instance (priority := 1100) opPickT {P ty l bs fs c x y v} [Ev l c (.bool true)] [Ev l x v] : OpQ P (.pick c x y) ty l bs fs v := ⟨fun ρ w h _ => by
  simp [xop, execOp, asBool, h.ev (x := x) (v := v), h.ev (x := c) (v := .bool true)]⟩
instance (priority := 1100) opPickF {P ty l bs fs c x y v} [Ev l c (.bool false)] [Ev l y v] : OpQ P (.pick c x y) ty l bs fs v := ⟨fun ρ w h _ => by
  simp [xop, execOp, asBool, h.ev (x := y) (v := v), h.ev (x := c) (v := .bool false)]⟩
/-- a new variable of a type; one that begins with a value -/
instance opAlloc {P : Program} {t ty : TypeId} {l : Cx} {z : Value} {s b : Nat} {cs : List Value} [TI P t z s b] [hc : Cells z cs] : OpA P (.alloc t) ty l t cs := ⟨fun ρ w h => by
  have := hc.eq
  simp [xop, execOp, Instr.alloc, run_zero, newVar, newRow, ← this]⟩
instance opBox {P : Program} {t ty : TypeId} {l : Cx} {x : Operand} {v : Value} {cs : List Value} [Ev l x v] [hc : Cells v cs] : OpA P (.box t x) ty l t cs := ⟨fun ρ w h => by
  have := hc.eq
  simp [xop, execOp, Instr.box, newVar, newRow, ← this, h.ev (x := x) (v := v)]⟩


/-! types -/
class AggB (d : TypeDesc) (b : outParam Bool) : Prop where eq : (match d with | .struct _ | .array _ _ => true | _ => false) = b
instance {fs} : AggB (.struct fs) true := ⟨rfl⟩
instance {n e} : AggB (.array n e) true := ⟨rfl⟩
instance {k} : AggB (.int k) false := ⟨rfl⟩
instance : AggB .bool false := ⟨rfl⟩
instance : AggB .string false := ⟨rfl⟩
instance {e} : AggB (.pointer e) false := ⟨rfl⟩
instance {e} : AggB (.slice e) false := ⟨rfl⟩
instance {k e} : AggB (.map k e) false := ⟨rfl⟩
instance {p q v} : AggB (.func p q v) false := ⟨rfl⟩
instance {m} : AggB (.interface m) false := ⟨rfl⟩
class AggT (P : Program) (t : TypeId) (b : outParam Bool) : Prop where run : ∀ w, (isAgg t).run P w = .ok b w
instance {P t d b} [h : Und P t d] [hb : AggB d b] : AggT P t b := ⟨fun w => by
  have := hb.eq; subst this
  cases d <;> simp [isAgg, run_und, Sem.run_bind]⟩

class Fld (P : Program) (s f : Nat) (off ft : outParam Nat) : Prop where
  ex : ∃ fields F, P.underlying s = some (.struct fields) ∧ fields[f]? = some F ∧ F.offset = off ∧ F.type = ft ∧ ((P.info? ft).map (fun i => decide (i.size = 0))) = some false

/-! boxes -/
class HasBox (bs : List Item) (b : Nat) (t : outParam TypeId) (cs : outParam (List Value)) : Prop where mem : box b t cs ∈ bs
instance hb0 {b t cs bs} : HasBox (box b t cs :: bs) b t cs := ⟨List.mem_cons_self ..⟩
instance (priority := 900) hb1 {b t cs x bs} [h : HasBox bs b t cs] : HasBox (x :: bs) b t cs := ⟨List.mem_cons_of_mem _ h.mem⟩
theorem Mem.box {w bs fs} (h : Mem w bs fs) {b t cs} [hb : HasBox bs b t cs] : w.heap[b]? = some (.cells cs.toArray t (0, 0)) := h.held _ hb.mem
theorem Mem.cell {w bs fs} (h : Mem w bs fs) {b t cs} [hb : HasBox bs b t cs] (i : Nat) : w.cell? ⟨b, i, none⟩ = cs[i]? := by
  have := cell_of_row w b i cs.toArray t (0, 0) h.box
  simpa using this

/-! cells from a place on -/
class TakeN (cs : List Value) (n : Nat) (vs : outParam (List Value)) : Prop where eq : vs.length = n ∧ vs <+: cs
instance take0 {cs} : TakeN cs 0 [] := ⟨rfl, List.nil_prefix⟩
instance takeS {c : Value} {cs vs n} [h : TakeN cs n vs] : TakeN (c :: cs) (n + 1) (c :: vs) := ⟨by simp [h.eq.1], by
  obtain ⟨t, ht⟩ := h.eq.2; exact ⟨t, by simp [ht]⟩⟩
class Seg (cs : List Value) (off n : Nat) (vs : outParam (List Value)) : Prop where eq : vs.length = n ∧ ∀ j, j < n → cs[off + j]? = vs[j]?
instance seg0 {cs n vs} [h : TakeN cs n vs] : Seg cs 0 n vs := ⟨h.eq.1, fun j hj => by
  obtain ⟨t, rfl⟩ := h.eq.2; have := h.eq.1; simp [List.getElem?_append, this, hj]⟩
instance segS {c : Value} {cs vs off n} [h : Seg cs off n vs] : Seg (c :: cs) (off + 1) n vs := ⟨h.eq.1, fun j hj => by
  rw [← h.eq.2 j hj, show off + 1 + j = (off + j) + 1 from by omega]; rfl⟩

instance opLoad1 {P ty l bs fs t x b off bt cs v} [Ev l x (.pointer (some ⟨b, off, none⟩))] [HasBox bs b bt cs] [ha : AggT P t false] [hn : Nth cs off v] : OpQ P (.load t x) ty l bs fs v := ⟨fun ρ w h m => by
  have hc := m.cell (b := b) (t := bt) (cs := cs) off
  rw [hn.eq] at hc
  simp [xop, execOp, Instr.loadAt, h.ev (x := x) (v := .pointer (some ⟨b, off, none⟩)), Instr.sureAddr, loadVar, Sem.run_bind, ha.run, load, Sem.run, hc]⟩
instance opLoadA {P ty l bs fs t x b off bt cs vs z n by_} [Ev l x (.pointer (some ⟨b, off, none⟩))] [HasBox bs b bt cs] [ha : AggT P t true] [TI P t z n by_] [hn : Seg cs off n vs] : OpQ P (.load t x) ty l bs fs (.agg ⟨vs⟩) := ⟨fun ρ w h m => by
  have hl : (loadCells ⟨b, off, none⟩ n).run P w = .ok vs.toArray w := by
    have := run_loadCells_list (P := P) w ⟨b, off, none⟩ vs (fun j v hj => by
      have hjn : j < n := by rw [← hn.eq.1]; exact (List.getElem?_eq_some_iff.1 hj).1
      have e : (⟨b, off, none⟩ : Addr).add j = ⟨b, off + j, none⟩ := by unfold Addr.add; split <;> simp_all
      rw [e, m.cell (b := b) (t := bt) (cs := cs), hn.eq.2 j hjn, hj])
    rw [hn.eq.1] at this
    exact this
  simp [xop, execOp, Instr.loadAt, h.ev (x := x) (v := .pointer (some ⟨b, off, none⟩)), Instr.sureAddr, loadVar, Sem.run_bind, ha.run, run_size, hl]⟩

theorem run_fieldAt {P : Program} {s f off ft : Nat} [h : Fld P s f off ft] (a : Addr) (w : World) : (Instr.fieldAt s (.pointer (some a)) f).run P w = .ok (.pointer (some (a.add off))) w := by
  obtain ⟨fields, F, hu, hf, rfl, rfl, hs⟩ := h.ex
  cases hi : P.info? F.type with
  | none => simp [hi] at hs
  | some i =>
    simp [hi] at hs
    simp [Instr.fieldAt, run_underlying hu, Sem.run_bind, hf, Instr.sureAddr, fieldPlace, sizeOf, typeInfo, program, Sem.run, hi, hs]
instance (priority := 1100) opFieldAddr0 {P ty l bs fs s f x b off ft} [Ev l x (.pointer (some ⟨b, 0, none⟩))] [hf : Fld P s f off ft] : OpQ P (.fieldAddr s x f) ty l bs fs (.pointer (some ⟨b, off, none⟩)) := ⟨fun ρ w h _ => by
  have e : (⟨b, 0, none⟩ : Addr).add off = ⟨b, off, none⟩ := by unfold Addr.add; split <;> simp_all
  simp [xop, execOp, h.ev (x := x) (v := .pointer (some ⟨b, 0, none⟩)), run_fieldAt (P := P) (s := s) (f := f) (off := off) (ft := ft), e]⟩
instance opFieldAddr {P ty l bs fs s f x b k off ft} [Ev l x (.pointer (some ⟨b, k, none⟩))] [hf : Fld P s f off ft] : OpQ P (.fieldAddr s x f) ty l bs fs (.pointer (some ⟨b, k + off, none⟩)) := ⟨fun ρ w h _ => by
  have e : (⟨b, k, none⟩ : Addr).add off = ⟨b, k + off, none⟩ := by unfold Addr.add; split <;> simp_all
  simp [xop, execOp, h.ev (x := x) (v := .pointer (some ⟨b, k, none⟩)), run_fieldAt (P := P) (s := s) (f := f) (off := off) (ft := ft), e]⟩

instance opNilP {P ty l bs fs x p} [Ev l x (.pointer (some p))] : OpQ P (.nilCheck x) ty l bs fs (.pointer (some p)) := ⟨fun ρ w h _ => by
  simp [xop, execOp, h.ev (x := x) (v := .pointer (some p))]⟩

/-! integers -/
section ints
variable {P : Program} {ty : TypeId} {l : Cx} {bs : List Item} {fs : List (World → Prop)} {x y : Operand} {t t' : TypeId} {k : IntKind} {m n : Int}
instance opAdd [Ev l x (.int k m)] [Ev l y (.int k n)] : OpQ P (.binOp .add t x y t') ty l bs fs (.int k (k.wrap (m + n))) := ⟨fun ρ w h _ => by
  simp [xop, execOp, h.ev (x := x) (v := .int k m), h.ev (x := y) (v := .int k n), eqGuard, binOp, Op.intArith]⟩
instance opSub [Ev l x (.int k m)] [Ev l y (.int k n)] : OpQ P (.binOp .sub t x y t') ty l bs fs (.int k (k.wrap (m - n))) := ⟨fun ρ w h _ => by
  simp [xop, execOp, h.ev (x := x) (v := .int k m), h.ev (x := y) (v := .int k n), eqGuard, binOp, Op.intArith]⟩
instance opMul [Ev l x (.int k m)] [Ev l y (.int k n)] : OpQ P (.binOp .mul t x y t') ty l bs fs (.int k (k.wrap (m * n))) := ⟨fun ρ w h _ => by
  simp [xop, execOp, h.ev (x := x) (v := .int k m), h.ev (x := y) (v := .int k n), eqGuard, binOp, Op.intArith]⟩
instance opEql [Ev l x (.int k m)] [Ev l y (.int k n)] : OpQ P (.binOp .eql t x y t') ty l bs fs (.bool (decide (m = n))) := ⟨fun ρ w h _ => by
  simp [xop, execOp, h.ev (x := x) (v := .int k m), h.ev (x := y) (v := .int k n), eqGuard, binOp, Op.intCmp]; rfl⟩
instance opNeq [Ev l x (.int k m)] [Ev l y (.int k n)] : OpQ P (.binOp .neq t x y t') ty l bs fs (.bool (!decide (m = n))) := ⟨fun ρ w h _ => by
  simp [xop, execOp, h.ev (x := x) (v := .int k m), h.ev (x := y) (v := .int k n), eqGuard, binOp, Op.intCmp, bne, BEq.beq]⟩
instance opLss [Ev l x (.int k m)] [Ev l y (.int k n)] : OpQ P (.binOp .lss t x y t') ty l bs fs (.bool (decide (m < n))) := ⟨fun ρ w h _ => by
  simp [xop, execOp, h.ev (x := x) (v := .int k m), h.ev (x := y) (v := .int k n), eqGuard, binOp, Op.intCmp]⟩
instance opLeq [Ev l x (.int k m)] [Ev l y (.int k n)] : OpQ P (.binOp .leq t x y t') ty l bs fs (.bool (decide (m ≤ n))) := ⟨fun ρ w h _ => by
  simp [xop, execOp, h.ev (x := x) (v := .int k m), h.ev (x := y) (v := .int k n), eqGuard, binOp, Op.intCmp]⟩
instance opGtr [Ev l x (.int k m)] [Ev l y (.int k n)] : OpQ P (.binOp .gtr t x y t') ty l bs fs (.bool (decide (n < m))) := ⟨fun ρ w h _ => by
  simp [xop, execOp, h.ev (x := x) (v := .int k m), h.ev (x := y) (v := .int k n), eqGuard, binOp, Op.intCmp]⟩
instance opGeq [Ev l x (.int k m)] [Ev l y (.int k n)] : OpQ P (.binOp .geq t x y t') ty l bs fs (.bool (decide (n ≤ m))) := ⟨fun ρ w h _ => by
  simp [xop, execOp, h.ev (x := x) (v := .int k m), h.ev (x := y) (v := .int k n), eqGuard, binOp, Op.intCmp]⟩
instance opNot {b : Bool} [Ev l x (.bool b)] : OpQ P (.unOp .not t x) ty l bs fs (.bool (!b)) := ⟨fun ρ w h _ => by
  simp [xop, execOp, h.ev (x := x) (v := .bool b), Op.unary]⟩
instance opNeg [Ev l x (.int k m)] : OpQ P (.unOp .neg t x) ty l bs fs (.int k (k.wrap (-m))) := ⟨fun ρ w h _ => by
  simp [xop, execOp, h.ev (x := x) (v := .int k m), Op.unary, Op.intArith]⟩
end ints
end Go.Wk
