import Derived.WalkKit
import Derived.RangeFuncNested
import Derived.OwnWalkIn
import Derived.Laws.CopyRow
namespace Go.Wk
open Go

/-! items, agreement of worlds, facts -/
structure Item where
  foot : Nat → Prop
  holds : World → Prop
  own : Bool := true

def Agree (M : Nat → Prop) (w w' : World) : Prop :=
  w'.os = w.os ∧ w'.tape = w.tape ∧ w'.output = w.output ∧ w.heap.size ≤ w'.heap.size ∧ ∀ k, k < w.heap.size → ¬ M k → w'.heap[k]? = w.heap[k]?

theorem Agree.refl (M : Nat → Prop) (w : World) : Agree M w w := ⟨rfl, rfl, rfl, Nat.le_refl _, fun _ _ _ => rfl⟩
theorem Agree.size {M : Nat → Prop} {a b : World} (h : Agree M a b) : a.heap.size ≤ b.heap.size := h.2.2.2.1
theorem Agree.blk {M : Nat → Prop} {a b : World} (h : Agree M a b) {k : Nat} (hk : k < a.heap.size) (hm : ¬ M k) : b.heap[k]? = a.heap[k]? := h.2.2.2.2 k hk hm
/-- what lies at or above the first world's end may differ. -/
theorem Agree.trans' {M N : Nat → Prop} {a b c : World} (h : Agree M a b) (k : Agree N b c) (hN : ∀ i, i < a.heap.size → N i → M i) : Agree M a c :=
  ⟨k.1.trans h.1, k.2.1.trans h.2.1, k.2.2.1.trans h.2.2.1, Nat.le_trans h.2.2.2.1 k.2.2.2.1, fun i hi hm => (k.2.2.2.2 i (Nat.lt_of_lt_of_le hi h.2.2.2.1) (fun hn => hm (hN i hi hn))).trans (h.2.2.2.2 i hi hm)⟩
theorem Agree.trans {M : Nat → Prop} {a b c : World} (h : Agree M a b) (k : Agree M b c) : Agree M a c := h.trans' k fun _ _ h => h
theorem Agree.mono {M N : Nat → Prop} {a b : World} (h : Agree M a b) (hN : ∀ i, i < a.heap.size → M i → N i) : Agree N a b :=
  ⟨h.1, h.2.1, h.2.2.1, h.2.2.2.1, fun i hi hn => h.2.2.2.2 i hi (fun hm => hn (hN i hi hm))⟩
theorem Agree.alloc (M : Nat → Prop) (w : World) (o : Obj) : Agree M w (w.alloc o) :=
  ⟨rfl, rfl, rfl, by simp, fun k hk _ => RowKit.Below.heap_alloc _ _ _ hk⟩
theorem Agree.drawn (M : Nat → Prop) (w : World) (n : Nat) : Agree M w { w with drawn := n } := ⟨rfl, rfl, rfl, Nat.le_refl _, fun _ _ _ => rfl⟩
theorem Agree.setRow {M : Nat → Prop} (w : World) (g : Nat) (c : Array Value) (hg : M g) : Agree M w (w.setRow g c) := by
  refine ⟨rfl, rfl, rfl, by simp [World.setRow], fun k hk hm => ?_⟩
  have : g ≠ k := fun e => hm (e ▸ hg)
  simp [World.setRow, Array.getElem?_modify, this]
abbrev Grow (w w' : World) : Prop := Agree (fun _ => False) w w'

def Stable (M : Nat → Prop) (w : World) (Φ : World → Prop) : Prop := ∀ w', Agree M w w' → Φ w'
theorem Stable.now {M : Nat → Prop} {w : World} {Φ : World → Prop} (h : Stable M w Φ) : Φ w := h w (Agree.refl _ _)
theorem Stable.later {M : Nat → Prop} {w w' : World} {Φ : World → Prop} (h : Stable M w Φ) (hw : Agree M w w') : Stable M w' Φ := fun w'' h' => h w'' (hw.trans h')
theorem Stable.less {M N : Nat → Prop} {w : World} {Φ : World → Prop} (h : Stable M w Φ) (hN : ∀ k, k < w.heap.size → N k → M k) : Stable N w Φ := fun w' h' => h w' (h'.mono hN)

def foots (bs : List Item) (k : Nat) : Prop := ∃ it ∈ bs, it.foot k

def box (b : Nat) (ty : TypeId) (cs : List Value) : Item where
  foot := fun k => k = b
  holds := fun w => w.heap[b]? = some (.cells cs.toArray ty (0, 0))

structure Wd (w0 : World) (M0 : Nat → Prop) (w : World) (bs : List Item) (fs : List (World → Prop)) : Prop where
  agree : Agree M0 w0 w
  held : ∀ it ∈ bs, it.holds w
  lt : ∀ it ∈ bs, ∀ k, it.foot k → k < w.heap.size
  own : ∀ it ∈ bs, it.own = true → ∀ k, it.foot k → M0 k ∨ w0.heap.size ≤ k
  apart : bs.Pairwise (fun x y => ∀ k, x.foot k → ¬ y.foot k)
  facts : ∀ Φ ∈ fs, Stable (foots bs) w Φ
  loc : ∀ it ∈ bs, ∀ w1 w2 : World, (∀ k, it.foot k → w2.heap[k]? = w1.heap[k]?) → it.holds w1 → it.holds w2

structure St (w0 : World) (M0 : Nat → Prop) (ds : List Deferred) (a : Act) (w : World) (l : List Value) (bs : List Item) (fs : List (World → Prop)) : Prop where
  slots : a.tmps = l.toArray
  defers : a.defers = ds
  wd : Wd w0 M0 w bs fs

abbrev FW (r : Option Nat) : Fence := { fn := fun _ => True, depth := none, alive := false, round := r }
abbrev Wp (P : Program) (r : Option Nat) (c : Code) (Q : Exit → Act → World → Prop) (a : Act) (w : World) : Prop := c.wpIn (FW r) 0 P Q a w
abbrev WL (P : Program) (r : Option Nat) (ops : Array Oper) (Q : Exit → Act → World → Prop) (l : List Oper) (a : Act) (w : World) : Prop := wpListIn (FW r) 0 P ops Q l a w

/-! slots -/
class Nth (l : List Value) (n : Nat) (v : outParam Value) : Prop where eq : l[n]? = some v
instance nth0 {v : Value} {l : List Value} : Nth (v :: l) 0 v := ⟨rfl⟩
instance nthS {u v : Value} {l : List Value} {n : Nat} [h : Nth l n v] : Nth (u :: l) (n + 1) v := ⟨by simpa using h.eq⟩
class PutAt (l : List Value) (n : Nat) (v : Value) (l' : outParam (List Value)) : Prop where
  eq : l.set n v = l'
instance put0 {u v : Value} {l : List Value} : PutAt (u :: l) 0 v (v :: l) := ⟨rfl⟩
instance putS {u v : Value} {l l' : List Value} {n : Nat} [h : PutAt l n v l'] : PutAt (u :: l) (n + 1) v (u :: l') := ⟨by simp [h.eq]⟩
class PutO (l : List Value) (d : Option Nat) (v : Value) (l' : outParam (List Value)) : Prop where
  eq : ∀ ds, (Act.mk l.toArray ds).put d v = Act.mk l'.toArray ds
instance puto0 {l : List Value} {v : Value} : PutO l none v l := ⟨fun _ => rfl⟩
instance puto1 {l l' : List Value} {v : Value} {n : Nat} [h : PutAt l n v l'] : PutO l (some n) v l' := ⟨fun ds => by simp [Act.put, ← h.eq]⟩

/-- a value that is there if c holds. -/
def gif (c : Bool) (v : Value) : Value := bif c then v else undef
class StripV (cs : List Bool) (v : Value) (v' : outParam Value) : Prop where eq : (∀ c ∈ cs, c = true) → v = v'
instance (priority := 1100) strip0 {v : Value} : StripV [] v v := ⟨fun _ => rfl⟩
instance stripS {c : Bool} {cs : List Bool} {v v' : Value} [h : StripV cs v v'] : StripV (c :: cs) (gif c v) v' := ⟨fun hc => by
  have : c = true := hc c (by simp)
  subst this
  simp only [gif, cond_true]
  exact h.eq fun d hd => hc d (by simp [hd])⟩
instance (priority := 500) stripN {cs : List Bool} {v : Value} : StripV cs v v := ⟨fun _ => rfl⟩
/-- the slots, and the conditions under which they are looked at. -/
structure Cx where
  cs : List Bool
  l : List Value
class Ev (l : Cx) (x : Operand) (v : outParam Value) : Prop where eq : (∀ c ∈ l.cs, c = true) → ∀ ds, (Act.mk l.l.toArray ds).eval x = v
instance evT {cs : List Bool} {l : List Value} {n : Nat} {v v' : Value} [h : Nth l n v] [hs : StripV cs v v'] : Ev ⟨cs, l⟩ (.tmp n) v' := ⟨fun hc ds => by
  have := h.eq
  rw [← hs.eq hc]
  simp [Act.eval, Array.getD_eq_getD_getElem?, this]⟩
instance evC {l : Cx} {v : Value} : Ev l (.const v) v := ⟨fun _ _ => rfl⟩
instance evF {l : Cx} {f : Nat} : Ev l (.func f) (.func (.func f) #[] #[]) := ⟨fun _ _ => rfl⟩
instance evG {l : Cx} {g : Nat} : Ev l (.global g) (.pointer (some ⟨g, 0, none⟩)) := ⟨fun _ _ => rfl⟩

class EvL (l : Cx) (xs : List Operand) (vs : outParam (List Value)) : Prop where eq : (∀ c ∈ l.cs, c = true) → ∀ ds, xs.map (Act.mk l.l.toArray ds).eval = vs
instance evl0 {l : Cx} : EvL l [] [] := ⟨fun _ _ => rfl⟩
instance evl1 {l : Cx} {x : Operand} {xs : List Operand} {v : Value} {vs : List Value} [h : Ev l x v] [h' : EvL l xs vs] : EvL l (x :: xs) (v :: vs) := ⟨fun hc ds => by simp [h.eq hc, h'.eq hc]⟩

/-- the frame holds these slots. -/
def Fr (ρ : Operand → Value) (l : Cx) : Prop := (∀ c ∈ l.cs, c = true) ∧ ∃ ds, ρ = (Act.mk l.l.toArray ds).eval
theorem Fr.ev {ρ : Operand → Value} {l : Cx} (h : Fr ρ l) {x : Operand} {v : Value} [e : Ev l x v] : ρ x = v := by obtain ⟨hc, ds, rfl⟩ := h; exact e.eq hc ds
theorem Fr.evl {ρ : Operand → Value} {l : Cx} (h : Fr ρ l) {xs : List Operand} {vs : List Value} [e : EvL l xs vs] : xs.map ρ = vs := by obtain ⟨hc, ds, rfl⟩ := h; exact e.eq hc ds
theorem St.frc {w0 M0 ds a w l bs fs} (S : St w0 M0 ds a w l bs fs) {cs : List Bool} (hc : ∀ c ∈ cs, c = true) : Fr a.eval ⟨cs, l⟩ := by
  obtain ⟨t, d⟩ := a
  have := S.slots; simp at this; subst this
  exact ⟨hc, d, rfl⟩
theorem St.fr {w0 M0 ds a w l bs fs} (S : St w0 M0 ds a w l bs fs) : Fr a.eval ⟨[], l⟩ := S.frc (by simp)

def xop (ρ : Operand → Value) (op : Op) (ty : TypeId) : Sem Next := execOp ρ { dst := none, op := op, type := ty, pos := "", after := #[], guard := none }
theorem execOp_eq (ρ : Operand → Value) (o : Oper) : execOp ρ o = xop ρ o.op o.type := by
  obtain ⟨d, op, ty, pos, af, g⟩ := o
  cases op <;> rfl
def isDefer : Op → Bool
  | .defer _ => true
  | _ => false
theorem semAt_nd {r : Option Nat} {o : Oper} {ρ : Operand → Value} (h : isDefer o.op = false) : o.semAt r ρ = xop ρ o.op o.type := by
  rw [← execOp_eq]
  cases r with
  | none => rfl
  | some k => exact Oper.semAt_some k ρ o (by intro c hc; rw [hc] at h; cases h)

/-- what the memory is known to hold, seen from an operation. -/
structure Mem (w : World) (bs : List Item) (fs : List (World → Prop)) : Prop where
  held : ∀ it ∈ bs, it.holds w
  facts : ∀ Φ ∈ fs, Stable (foots bs) w Φ
theorem Wd.mem {w0 M0 w bs fs} (h : Wd w0 M0 w bs fs) : Mem w bs fs := ⟨h.held, h.facts⟩

/-- a quiet operation: one value, the world as it was. -/
class OpQ (P : Program) (op : Op) (ty : TypeId) (l : Cx) (bs : List Item) (fs : List (World → Prop)) (v : outParam Value) : Prop where
  run : ∀ (ρ : Operand → Value) (w : World), Fr ρ l → Mem w bs fs → (xop ρ op ty).run P w = .ok (.value v) w
/-- a new variable. -/
class OpA (P : Program) (op : Op) (ty : TypeId) (l : Cx) (t : outParam TypeId) (cs : outParam (List Value)) : Prop where
  run : ∀ (ρ : Operand → Value) (w : World), Fr ρ l → (xop ρ op ty).run P w = .ok (.value (.pointer (some ⟨w.heap.size, 0, none⟩))) (w.alloc (.cells cs.toArray t))

theorem St.put {w0 M0 ds a w l bs fs} (S : St w0 M0 ds a w l bs fs) {d : Option Nat} {v : Value} {l' : List Value} [h : PutO l d v l'] : St w0 M0 ds (a.put d v) w l' bs fs := by
  obtain ⟨t, dd⟩ := a
  have := S.slots; simp at this; subst this
  have hd := S.defers; simp at hd; subst hd
  rw [h.eq]
  exact ⟨rfl, rfl, S.wd⟩

/-! steps of the world -/
theorem Wd.step {w0 M0 w w' bs fs} (h : Wd w0 M0 w bs fs) (hw : Grow w w') : Wd w0 M0 w' bs fs where
  agree := h.agree.trans' hw fun _ _ h => h.elim
  held := fun it hi => h.loc it hi w w' (fun k hk => hw.blk (h.lt it hi k hk) id) (h.held it hi)
  lt := fun it hi k hk => Nat.lt_of_lt_of_le (h.lt it hi k hk) hw.size
  own := h.own
  apart := h.apart
  facts := fun Φ hΦ => (h.facts Φ hΦ).later (hw.mono fun _ _ h => h.elim)
  loc := h.loc

theorem box_loc (b : Nat) (t : TypeId) (cs : List Value) (w1 w2 : World) (h : ∀ k, (box b t cs).foot k → w2.heap[k]? = w1.heap[k]?) (h1 : (box b t cs).holds w1) : (box b t cs).holds w2 := by
  have := h b rfl
  simp only [box] at *
  rw [this]; exact h1

theorem Wd.alloc {w0 M0 w bs fs} (h : Wd w0 M0 w bs fs) (t : TypeId) (cs : List Value) : Wd w0 M0 (w.alloc (.cells cs.toArray t)) (box w.heap.size t cs :: bs) fs := by
  have h1 := h.step (Agree.alloc _ w (.cells cs.toArray t))
  refine ⟨h1.agree, ?_, ?_, ?_, ?_, ?_, ?_⟩
  · intro it hi
    rcases List.mem_cons.1 hi with rfl | hi
    · exact heap_alloc_new w _
    · exact h1.held it hi
  · intro it hi k hk
    rcases List.mem_cons.1 hi with rfl | hi
    · simp only [box] at hk; subst hk; simp
    · exact h1.lt it hi k hk
  · intro it hi ho k hk
    rcases List.mem_cons.1 hi with rfl | hi
    · simp only [box] at hk; subst hk; exact .inr h.agree.size
    · exact h.own it hi ho k hk
  · refine List.pairwise_cons.2 ⟨fun it hi k hk hk' => ?_, h.apart⟩
    simp only [box] at hk; subst hk
    exact absurd (h.lt it hi _ hk') (Nat.lt_irrefl _)
  · intro Φ hΦ w' hw'
    refine h.facts Φ hΦ w' ((Agree.alloc _ w (.cells cs.toArray t)).trans' hw' fun i hi => ?_)
    rintro ⟨it, hm, hf⟩
    rcases List.mem_cons.1 hm with rfl | hm
    · simp only [box] at hf; omega
    · exact ⟨it, hm, hf⟩
  · intro it hi
    rcases List.mem_cons.1 hi with rfl | hi
    · exact box_loc _ _ _
    · exact h.loc it hi

section
variable {P : Program} {r : Option Nat} {ops : Array Oper} {Q : Exit → Act → World → Prop} {w0 : World} {M0 : Nat → Prop} {ds : List Deferred} {a : Act} {w : World} {l l' : List Value} {bs : List Item} {fs : List (World → Prop)}
  {d : Option Nat} {op : Op} {ty : TypeId} {pos : String} {af : Array Edge} {rest : List Oper} {v : Value}

theorem wl_plain {o : Oper} (hg : o.guard = none) (h : o.uponIn (FW r) 0 P a (WL P r ops Q rest) Q ((o.semAt r a.eval).run P w)) : WL P r ops Q (o :: rest) a w :=
  wpListIn_plain hg fun K hK => ⟨fun _ _ => trivial, by
    revert h
    generalize (o.semAt (FW r).round a.eval).run P w = q
    intro h
    cases q with
    | ok n w' =>
      cases n <;> simp only [Oper.uponIn] at h ⊢ <;> first | exact hK _ _ h | skip
      case enter f args =>
        refine ⟨h.1, h.2.1, fun cs hr => ?_⟩
        obtain ⟨e, w', fr, hR, hc, hl⟩ := h.2.2 cs hr
        refine ⟨e, w', fr, ?_, hc, hl⟩
        cases e <;> first | exact hK _ _ hR | exact hR
      case row row args =>
        exact ⟨h.1, h.2.mono fun v w' hv => hK _ _ hv⟩
      case round l f tmps assign body =>
        refine ⟨h.1, h.2.mono fun e w' hv => ?_⟩
        cases e <;> first | exact hK _ _ hv | exact hv
      all_goals exact h
    | halt x w' => cases x <;> exact h⟩

theorem sq [hq : OpQ P op ty ⟨[], l⟩ bs fs v] [hp : PutO l d v l'] (S : St w0 M0 ds a w l bs fs) (K : ∀ a, St w0 M0 ds a w l' bs fs → WL P r ops Q rest a w) (hnd : isDefer op = false := by rfl) : WL P r ops Q (⟨d, op, ty, pos, af, none⟩ :: rest) a w := by
  refine wl_plain rfl ?_
  rw [semAt_nd hnd]
  simp only [hq.run a.eval w S.fr S.wd.mem, Oper.uponIn]
  exact K _ S.put

theorem sa {t : TypeId} {cs : List Value} {l' : Nat → List Value} [hq : OpA P op ty ⟨[], l⟩ t cs] [hp : ∀ b, PutO l d (.pointer (some ⟨b, 0, none⟩)) (l' b)] (S : St w0 M0 ds a w l bs fs)
    (K : ∀ b a w, St w0 M0 ds a w (l' b) (box b t cs :: bs) fs → WL P r ops Q rest a w) (hnd : isDefer op = false := by rfl) : WL P r ops Q (⟨d, op, ty, pos, af, none⟩ :: rest) a w := by
  refine wl_plain rfl ?_
  rw [semAt_nd hnd]
  simp only [hq.run a.eval w S.fr, Oper.uponIn]
  have := hp w.heap.size
  have S' := S.put (d := d) (v := .pointer (some ⟨w.heap.size, 0, none⟩))
  exact K _ _ _ ⟨S'.slots, S'.defers, S'.wd.alloc t cs⟩

/-! the program's tables -/
class Und (P : Program) (t : TypeId) (d : outParam TypeDesc) : Prop where eq : P.underlying t = some d
class TI (P : Program) (t : TypeId) (z : outParam Value) (size bytes : outParam Nat) : Prop where
  ex : ∃ i, P.info? t = some i ∧ i.zero = some z ∧ i.size = size ∧ i.bytes = bytes
theorem ti_of {P : Program} {t : TypeId} {z : Value} {s b : Nat} (h : (P.info? t).map (fun i => (i.zero, i.size, i.bytes)) = some (some z, s, b)) : TI P t z s b := by
  cases hi : P.info? t with
  | none => simp [hi] at h
  | some i => simp [hi] at h; exact ⟨i, hi ▸ rfl, h.1, h.2.1, h.2.2⟩
theorem run_size {P : Program} {t : TypeId} {z : Value} {s b : Nat} [h : TI P t z s b] (w : World) : (sizeOf t).run P w = .ok s w := by
  obtain ⟨i, hi, hz, hs, hb⟩ := h.ex
  simp [sizeOf, typeInfo, Sem.run_bind, program, Sem.run, hi, hs]
theorem run_zero {P : Program} {t : TypeId} {z : Value} {s b : Nat} [h : TI P t z s b] (w : World) : (zeroValue t).run P w = .ok z w := by
  obtain ⟨i, hi, hz, hs, hb⟩ := h.ex
  simp [zeroValue, typeInfo, Sem.run_bind, program, Sem.run, hi, hz]
theorem run_und {P : Program} {t : TypeId} {d : TypeDesc} [h : Und P t d] (w : World) : (underlying t).run P w = .ok d w := run_underlying h.eq w

/-! a value's cells -/
class Cells (v : Value) (cs : outParam (List Value)) : Prop where eq : v.cells.toList = cs
instance cellsA {cs : List Value} : Cells (.agg ⟨cs⟩) cs := ⟨rfl⟩
instance cellsI {k : IntKind} {n : Int} : Cells (.int k n) [.int k n] := ⟨rfl⟩
instance cellsB {b : Bool} : Cells (.bool b) [.bool b] := ⟨rfl⟩
instance cellsS {s : ByteArray} : Cells (.string s) [.string s] := ⟨rfl⟩
instance cellsP {p : Option Addr} : Cells (.pointer p) [.pointer p] := ⟨rfl⟩
instance cellsSl {p : Option Addr} {n c : Nat} : Cells (.slice p n c) [.slice p n c] := ⟨rfl⟩
instance cellsM {p : Option Nat} : Cells (.map p) [.map p] := ⟨rfl⟩
instance cellsF {f : Fn} {x y : Array Value} : Cells (.func f x y) [.func f x y] := ⟨rfl⟩
instance cellsNF : Cells .nilFunc [.nilFunc] := ⟨rfl⟩
instance cellsNI : Cells .nilIface [.nilIface] := ⟨rfl⟩
instance cellsIf {t : TypeId} {v : Value} : Cells (.iface t v) [.iface t v] := ⟨rfl⟩
end
/-- the slots, by number. -/
def nthV : List Value → Nat → Value
  | [], _ => undef
  | v :: _, 0 => v
  | _ :: l, n + 1 => nthV l n
def St.uu {w0 : World} {M0 : Nat → Prop} {ds : List Deferred} {a : Act} {w : World} {l : List Value} {bs : List Item} {fs : List (World → Prop)} (_ : St w0 M0 ds a w l bs fs) : Nat → Value := nthV l
end Go.Wk
