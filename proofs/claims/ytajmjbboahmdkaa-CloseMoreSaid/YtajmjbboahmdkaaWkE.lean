import Derived.Test.YtajmjbboahmdkaaWkD
namespace Go.Wk
open Go

class Conds (G : Value) (pol : Bool) (cs : outParam (List Bool)) : Prop where
  eq : (match G with | .bool b => some b | _ => none) = some pol ↔ ∀ c ∈ cs, c = true
instance conds1 {b : Bool} : Conds (.bool b) true [b] := ⟨by simp⟩
instance conds2 {b : Bool} : Conds (.bool b) false [!b] := ⟨by simp⟩
instance condsS {c : Bool} {G : Value} {pol : Bool} {cs : List Bool} [h : Conds G pol cs] : Conds (gif c G) pol (c :: cs) := ⟨by
  cases c
  · simp [gif, undef]
  · simpa [gif] using h.eq⟩
class GifV (cs : List Bool) (v : Value) (v' : outParam Value) : Prop where eq : v' = if ∀ c ∈ cs, c = true then v else undef
instance gif0 {v : Value} : GifV [] v v := ⟨by simp⟩
instance gifS {c : Bool} {cs : List Bool} {v v' : Value} [h : GifV cs v v'] : GifV (c :: cs) v (gif c v') := ⟨by
  rw [h.eq]; cases c <;> simp [gif]⟩
instance opPickAnd {P ty l bs fs c x y b e} [Ev l c (.bool b)] [Ev l x (gif b (.bool e))] [Ev l y (.bool false)] : OpQ P (.pick c x y) ty l bs fs (.bool (b && e)) := ⟨fun ρ w h _ => by
  cases b <;> simp [xop, execOp, asBool, h.ev (x := x) (v := gif _ (.bool e)), h.ev (x := y) (v := .bool false), h.ev (x := c) (v := .bool _), gif]⟩
instance opPickOr {P ty l bs fs c x y b e} [Ev l c (.bool b)] [Ev l x (.bool true)] [Ev l y (gif (!b) (.bool e))] : OpQ P (.pick c x y) ty l bs fs (.bool (b || e)) := ⟨fun ρ w h _ => by
  cases b <;> simp [xop, execOp, asBool, h.ev (x := y) (v := gif _ (.bool e)), h.ev (x := x) (v := .bool true), h.ev (x := c) (v := .bool _), gif]⟩

/-- the slot of an operation of a region. -/
class DstAt (lo : List Oper) (j : Nat) (g : outParam Nat) : Prop where eq : (lo[j]?).bind (·.dst) = some g
instance dst0 {g : Nat} {op : Op} {ty : TypeId} {pos : String} {af : Array Edge} {gd : Option (Nat × Bool)} {lo : List Oper} : DstAt (⟨some g, op, ty, pos, af, gd⟩ :: lo) 0 g := ⟨rfl⟩
instance dstS {o : Oper} {lo : List Oper} {j g : Nat} [h : DstAt lo j g] : DstAt (o :: lo) (j + 1) g := ⟨by simpa using h.eq⟩
class GSlot (ops : Array Oper) (j : Nat) (g : outParam Nat) : Prop where eq : (ops[j]?).bind (·.dst) = some g
instance gslot {lo : List Oper} {j g : Nat} [h : DstAt lo j g] : GSlot lo.toArray j g := ⟨by simpa using h.eq⟩

section
variable {P : Program} {r : Option Nat} {ops : Array Oper} {Q : Exit → Act → World → Prop} {w0 : World} {M0 : Nat → Prop} {ds : List Deferred} {a : Act} {w : World} {l l' : List Value} {bs bs' : List Item} {fs : List (World → Prop)}
  {d : Option Nat} {op : Op} {ty : TypeId} {pos : String} {af : Array Edge} {rest : List Oper} {v v' G : Value} {j g : Nat} {pol : Bool} {cs : List Bool}

theorem wanted_iff (S : St w0 M0 ds a w l bs fs) (hg : (ops[j]?).bind (·.dst) = some g) [hn : Nth l g G] [hc : Conds G pol cs] :
    Region.wanted ⟨d, op, ty, pos, af, some (j, pol)⟩ (yielded ops a.tmps) = true ↔ ∀ c ∈ cs, c = true := by
  rw [← hc.eq]
  have e : a.tmps[g]? = some G := by rw [S.slots]; simpa using hn.eq
  have hy : yielded ops a.tmps j = match G with | .bool b => some b | _ => none := by
    simp only [yielded, hg, Option.bind_some, e]
    cases G <;> rfl
  simp only [Region.wanted, hy]
  cases G <;> simp

theorem wl_guard {o : Oper} (ht : Region.wanted o (yielded ops a.tmps) = true → WL P r ops Q ({ o with guard := none } :: rest) a w)
    (hf : Region.wanted o (yielded ops a.tmps) = false → WL P r ops Q rest (a.put o.dst undef) w) : WL P r ops Q (o :: rest) a w := by
  by_cases hw : Region.wanted o (yielded ops a.tmps) = true
  · have := ht hw
    simp only [WL, wpListIn] at this ⊢
    rw [if_pos hw]
    rw [if_pos (by simp [Region.wanted])] at this
    obtain ⟨d, op, ty, pos, af, gd⟩ := o
    exact ⟨fun _ _ => trivial, by have h2 := this.2; rw [show ∀ ro ρ, Oper.semAt ro ρ ⟨d, op, ty, pos, af, none⟩ = Oper.semAt ro ρ ⟨d, op, ty, pos, af, gd⟩ from fun ro ρ => by cases ro <;> cases op <;> rfl] at h2; exact h2⟩
  · have hw' : Region.wanted o (yielded ops a.tmps) = false := by simpa using hw
    simp only [WL, wpListIn]
    rw [if_neg hw]
    exact ⟨fun _ _ => trivial, hf hw'⟩

/-- a guarded operation whose guard is known. -/
theorem gT (S : St w0 M0 ds a w l bs fs) (h : WL P r ops Q (⟨d, op, ty, pos, af, none⟩ :: rest) a w) [hg : GSlot ops j g] [hn : Nth l g (.bool true)] : WL P r ops Q (⟨d, op, ty, pos, af, some (j, true)⟩ :: rest) a w :=
  wl_guard (fun _ => h) fun hf => by
    have := (wanted_iff (ops := ops) (d := d) (op := op) (ty := ty) (pos := pos) (af := af) (pol := true) S hg.eq).2 (by simp)
    rw [this] at hf; cases hf
theorem gT' (S : St w0 M0 ds a w l bs fs) (h : WL P r ops Q (⟨d, op, ty, pos, af, none⟩ :: rest) a w) [hg : GSlot ops j g] [hn : Nth l g (.bool false)] : WL P r ops Q (⟨d, op, ty, pos, af, some (j, false)⟩ :: rest) a w :=
  wl_guard (fun _ => h) fun hf => by
    have := (wanted_iff (ops := ops) (d := d) (op := op) (ty := ty) (pos := pos) (af := af) (pol := false) S hg.eq).2 (by simp)
    rw [this] at hf; cases hf
theorem gF (S : St w0 M0 ds a w l bs fs) [hp : PutO l d undef l'] [hg : GSlot ops j g] [hn : Nth l g (.bool false)] (h : ∀ a, St w0 M0 ds a w l' bs fs → WL P r ops Q rest a w) : WL P r ops Q (⟨d, op, ty, pos, af, some (j, true)⟩ :: rest) a w :=
  wl_guard (fun ht => by
    have := (wanted_iff (ops := ops) (d := d) (op := op) (ty := ty) (pos := pos) (af := af) (pol := true) S hg.eq).1 ht
    simp at this) fun _ => h _ S.put
theorem gF' (S : St w0 M0 ds a w l bs fs) [hp : PutO l d undef l'] [hg : GSlot ops j g] [hn : Nth l g (.bool true)] (h : ∀ a, St w0 M0 ds a w l' bs fs → WL P r ops Q rest a w) : WL P r ops Q (⟨d, op, ty, pos, af, some (j, false)⟩ :: rest) a w :=
  wl_guard (fun ht => by
    have := (wanted_iff (ops := ops) (d := d) (op := op) (ty := ty) (pos := pos) (af := af) (pol := false) S hg.eq).1 ht
    simp at this) fun _ => h _ S.put
/-- a guarded quiet operation: its value is there if the guard holds. -/
theorem gQ [hg : GSlot ops j g] [hn : Nth l g G] [hc : Conds G pol cs] [hq : OpQ P op ty ⟨cs, l⟩ bs fs v] [hv : GifV cs v v'] [hp : PutO l d v' l'] (S : St w0 M0 ds a w l bs fs) (K : ∀ a, St w0 M0 ds a w l' bs fs → WL P r ops Q rest a w)
    (hnd : isDefer op = false := by rfl) : WL P r ops Q (⟨d, op, ty, pos, af, some (j, pol)⟩ :: rest) a w := by
  have hw := wanted_iff (ops := ops) (d := d) (op := op) (ty := ty) (pos := pos) (af := af) (pol := pol) S hg.eq
  have S' := S.put (d := d) (v := v') (l' := l')
  refine wl_guard (fun ht => ?_) (fun hf => ?_)
  · have hall := hw.1 ht
    refine wl_plain rfl ?_
    rw [semAt_nd hnd]
    simp only [hq.run a.eval w (S.frc hall) S.wd.mem, Oper.uponIn]
    rw [show v = v' from by rw [hv.eq, if_pos hall]]
    exact K _ S'
  · have hall : ¬ ∀ c ∈ cs, c = true := fun h => by rw [hw.2 h] at hf; cases hf
    have e := hv.eq
    rw [if_neg hall] at e
    rw [← e]
    exact K _ S'
end
end Go.Wk
