import Derived.Test.YtmngicgdgpimlaaDoorW1
namespace Go.Wk
open Go

/-- a text as bytes. -/
abbrev str (s : List UInt8) : Value := .string ⟨s.toArray⟩
def iand (k : IntKind) (x y : Int) : Int := k.wrap (BitVec.ofInt k.bits x &&& BitVec.ofInt k.bits y).toNat
def ior (k : IntKind) (x y : Int) : Int := k.wrap (BitVec.ofInt k.bits x ||| BitVec.ofInt k.bits y).toNat
def ixor (k : IntKind) (x y : Int) : Int := k.wrap (BitVec.ofInt k.bits x ^^^ BitVec.ofInt k.bits y).toNat

section ints
variable {P : Program} {ty : TypeId} {l : Cx} {bs : List Item} {fs : List (World → Prop)} {x y : Operand} {t t' : TypeId} {k k' : IntKind} {m n : Int} {s u : List UInt8}
instance opAnd [Ev l x (.int k m)] [Ev l y (.int k n)] : OpQ P (.binOp .and t x y t') ty l bs fs (.int k (iand k m n)) := ⟨fun ρ w h _ => by
  simp [xop, execOp, h.ev (x := x) (v := .int k m), h.ev (x := y) (v := .int k n), eqGuard, binOp, Op.intBits, iand]⟩
instance opOr [Ev l x (.int k m)] [Ev l y (.int k n)] : OpQ P (.binOp .or t x y t') ty l bs fs (.int k (ior k m n)) := ⟨fun ρ w h _ => by
  simp [xop, execOp, h.ev (x := x) (v := .int k m), h.ev (x := y) (v := .int k n), eqGuard, binOp, Op.intBits, ior]⟩
instance opXor [Ev l x (.int k m)] [Ev l y (.int k n)] : OpQ P (.binOp .xor t x y t') ty l bs fs (.int k (ixor k m n)) := ⟨fun ρ w h _ => by
  simp [xop, execOp, h.ev (x := x) (v := .int k m), h.ev (x := y) (v := .int k n), eqGuard, binOp, Op.intBits, ixor]⟩
class NZ (n : Int) : Prop where ne : n ≠ 0
instance {n : Nat} [h : NeZero n] : NZ (OfNat.ofNat n) := ⟨by
  intro e; have := h.ne; exact this (by have e2 : Int.ofNat n = Int.ofNat 0 := e; exact Int.ofNat.inj e2)⟩
instance opQuo [Ev l x (.int k m)] [Ev l y (.int k n)] [hz : NZ n] : OpQ P (.binOp .quo t x y t') ty l bs fs (.int k (k.wrap (m.tdiv n))) := ⟨fun ρ w h _ => by
  simp [xop, execOp, h.ev (x := x) (v := .int k m), h.ev (x := y) (v := .int k n), eqGuard, binOp, Op.intDiv, hz.ne]⟩
instance opRem [Ev l x (.int k m)] [Ev l y (.int k n)] [hz : NZ n] : OpQ P (.binOp .rem t x y t') ty l bs fs (.int k (m.tmod n)) := ⟨fun ρ w h _ => by
  simp [xop, execOp, h.ev (x := x) (v := .int k m), h.ev (x := y) (v := .int k n), eqGuard, binOp, Op.intDiv, hz.ne]⟩
instance opConvI {k0 : IntKind} [Ev l x (.int k m)] [Und P t (.int k0)] [Und P t' (.int k')] : OpQ P (.convert t t' x) ty l bs fs (.int k' (k'.wrap m)) := ⟨fun ρ w h _ => by
  simp [xop, execOp, h.ev (x := x) (v := .int k m), convert, Sem.run_bind, run_und, Conv.intToInt]⟩
instance opSEql [Ev l x (str s)] [Ev l y (str u)] : OpQ P (.binOp .eql t x y t') ty l bs fs (.bool (decide (s = u))) := ⟨fun ρ w h _ => by
  simp [xop, execOp, h.ev (x := x) (v := str s), h.ev (x := y) (v := str u), eqGuard, binOp, Op.stringOp]; rw [Bool.eq_iff_iff]; simp⟩
instance opSNeq [Ev l x (str s)] [Ev l y (str u)] : OpQ P (.binOp .neq t x y t') ty l bs fs (.bool (!decide (s = u))) := ⟨fun ρ w h _ => by
  simp [xop, execOp, h.ev (x := x) (v := str s), h.ev (x := y) (v := str u), eqGuard, binOp, Op.stringOp]; rw [Bool.eq_iff_iff]; simp⟩
instance opLenS [Ev l x (str s)] [Und P t .string] : OpQ P (.call { callee := .builtin .len, args := #[x], argTypes := #[t] }) ty l bs fs (.int .i64 s.length) := ⟨fun ρ w h _ => by
  simp [xop, execOp, resolve, invoke, builtin, Builtin.len_, h.ev (x := x) (v := str s), Sem.run_bind, run_und, goInt]; rfl⟩
instance opLenSl {p : Option Addr} {a c : Nat} {e : TypeId} [Ev l x (.slice p a c)] [Und P t (.slice e)] : OpQ P (.call { callee := .builtin .len, args := #[x], argTypes := #[t] }) ty l bs fs (.int .i64 a) := ⟨fun ρ w h _ => by
  simp [xop, execOp, resolve, invoke, builtin, Builtin.len_, h.ev (x := x) (v := .slice p a c), Sem.run_bind, run_und, goInt]⟩
end ints
end Go.Wk

namespace Go.Wk
open Go

/-! memory that is not one's own: a place in it, and what lies there -/
theorem run_indexAt {P : Program} {t e : TypeId} {z : Value} {sz by_ : Nat} {ad : Addr} {n c : Nat} {k : IntKind} {m : Int} [Und P t (.slice e)] [TI P e z sz by_] (h0 : 0 ≤ m) (h1 : m < n) (w : World) :
    (Instr.indexAt t (.slice (some ad) n c) (.int k m)).run P w = .ok (.pointer (some (ad.add (m.toNat * sz)))) w := by
  simp [Instr.indexAt, asIntOf, Sem.run_bind, run_und, h0, h1, run_size]
section
variable {P : Program} {r : Option Nat} {ops : Array Oper} {Q : Exit → Act → World → Prop} {w0 : World} {M0 : Nat → Prop} {ds : List Deferred} {a : Act} {w : World} {l l' : List Value} {bs bs' : List Item} {fs : List (World → Prop)}
  {d : Option Nat} {op : Op} {ty : TypeId} {pos : String} {af : Array Edge} {rest : List Oper} {v : Value}
/-- an operation whose run is shown by hand. -/
theorem sv (v : Value) [hp : PutO l d v l'] (S : St w0 M0 ds a w l bs fs) (hrun : Fr a.eval ⟨[], l⟩ → (xop a.eval op ty).run P w = .ok (.value v) w) (K : ∀ a, St w0 M0 ds a w l' bs fs → WL P r ops Q rest a w) (hnd : isDefer op = false := by rfl) :
    WL P r ops Q (⟨d, op, ty, pos, af, none⟩ :: rest) a w := by
  refine wl_plain rfl ?_
  rw [semAt_nd hnd]
  simp only [hrun S.fr, Oper.uponIn]
  exact K _ S.put
/-- the place of an element of a slice. -/
theorem si {t e : TypeId} {x y : Operand} {z : Value} {sz by_ n c : Nat} {p : Option Addr} {k : IntKind} {m : Int} (S : St w0 M0 ds a w l bs fs) [Ev ⟨[], l⟩ x (.slice p n c)] [Ev ⟨[], l⟩ y (.int k m)] [Und P t (.slice e)] [TI P e z sz by_] (ad : Addr) [hp : PutO l d (.pointer (some (ad.add (m.toNat * sz)))) l']
    (hp : p = some ad) (h0 : 0 ≤ m) (h1 : m < n) (K : ∀ a, St w0 M0 ds a w l' bs fs → WL P r ops Q rest a w) : WL P r ops Q (⟨d, .indexAddr t x y, ty, pos, af, none⟩ :: rest) a w := by
  subst hp
  refine sv (.pointer (some (ad.add (m.toNat * sz)))) S (fun hf => ?_) K
  simp [xop, execOp, hf.ev (x := x) (v := .slice (some ad) n c), hf.ev (x := y) (v := .int k m), run_indexAt (P := P) (t := t) (e := e) (z := z) (sz := sz) (by_ := by_) h0 h1]
/-- a load of a struct out of memory. -/
theorem slA {t : TypeId} {x : Operand} {ad : Addr} {z : Value} {n by_ : Nat} (vs : List Value) (S : St w0 M0 ds a w l bs fs) [Ev ⟨[], l⟩ x (.pointer (some ad))] [ha : AggT P t true] [TI P t z n by_] [hl : LenIs vs n] [hp : PutO l d (.agg ⟨vs⟩) l']
    (h : ∀ j v, vs[j]? = some v → w.cell? (ad.add j) = some v) (K : ∀ a, St w0 M0 ds a w l' bs fs → WL P r ops Q rest a w) : WL P r ops Q (⟨d, .load t x, ty, pos, af, none⟩ :: rest) a w := by
  refine sv (.agg ⟨vs⟩) S (fun hf => ?_) K
  have hlc := run_loadCells_list (P := P) w ad vs h
  rw [hl.eq] at hlc
  simp [xop, execOp, Instr.loadAt, hf.ev (x := x) (v := .pointer (some ad)), Instr.sureAddr, loadVar, Sem.run_bind, ha.run, run_size, hlc]
/-- a load of one cell out of memory. -/
theorem sl1 {t : TypeId} {x : Operand} {ad : Addr} (v : Value) (S : St w0 M0 ds a w l bs fs) [Ev ⟨[], l⟩ x (.pointer (some ad))] [ha : AggT P t false] [hp : PutO l d v l']
    (h : w.cell? ad = some v) (K : ∀ a, St w0 M0 ds a w l' bs fs → WL P r ops Q rest a w) : WL P r ops Q (⟨d, .load t x, ty, pos, af, none⟩ :: rest) a w := by
  refine sv v S (fun hf => ?_) K
  simp [xop, execOp, Instr.loadAt, hf.ev (x := x) (v := .pointer (some ad)), Instr.sureAddr, loadVar, Sem.run_bind, ha.run, load, Sem.run, h]

/-! facts -/
theorem St.fact (S : St w0 M0 ds a w l bs fs) {Φ : World → Prop} (h : Φ ∈ fs) : Stable (foots bs) w Φ := S.wd.facts Φ h
theorem Stable.imp {M : Nat → Prop} {w : World} {Φ Ψ : World → Prop} (h : Stable M w Φ) (hi : ∀ w, Φ w → Ψ w) : Stable M w Ψ := fun w' hw => hi _ (h w' hw)
theorem St.add (S : St w0 M0 ds a w l bs fs) {Φ : World → Prop} (h : Stable (foots bs) w Φ) : St w0 M0 ds a w l bs (Φ :: fs) :=
  ⟨S.slots, S.defers, S.wd.agree, S.wd.held, S.wd.lt, S.wd.own, S.wd.apart, fun Ψ hΨ => by
    rcases List.mem_cons.1 hΨ with rfl | hΨ
    · exact h
    · exact S.wd.facts Ψ hΨ, S.wd.loc⟩
end

/-- what a function begins with that is handed a variable of somebody else's, and facts that this does not touch. -/
theorem Wd.lent {w : World} {b : Nat} {t : TypeId} {cs : List Value} {fs : List (World → Prop)} (hb : w.heap[b]? = some (.cells cs.toArray t (0, 0))) (hf : ∀ Φ ∈ fs, Stable (fun k => k = b) w Φ) :
    Wd w (fun k => k = b) w [box b t cs] fs := by
  refine ⟨Agree.refl _ _, ?_, ?_, ?_, by simp, ?_, ?_⟩
  · intro it hi; obtain rfl := List.mem_singleton.1 hi; exact hb
  · intro it hi k hk; obtain rfl := List.mem_singleton.1 hi; simp only [box] at hk; subst hk
    exact (Array.getElem?_eq_some_iff.1 hb).1
  · intro it hi _ k hk; obtain rfl := List.mem_singleton.1 hi; exact .inl hk
  · intro Φ hΦ
    refine (hf Φ hΦ).less fun k _ hk => ?_
    obtain ⟨it, hi, hk⟩ := hk
    obtain rfl := List.mem_singleton.1 hi; exact hk
  · intro it hi; obtain rfl := List.mem_singleton.1 hi; exact box_loc _ _ _
theorem Wd.begin {w : World} {fs : List (World → Prop)} (hf : ∀ Φ ∈ fs, Stable (fun _ => False) w Φ) : Wd w (fun _ => False) w [] fs :=
  ⟨Agree.refl _ _, by simp, by simp, by simp, .nil, fun Φ hΦ => (hf Φ hΦ).less fun k _ hk => (by obtain ⟨it, hi, _⟩ := hk; cases hi), by simp⟩

/-- what others may write, and one's caller too: nothing is known of it. -/
def ext (M : Nat → Prop) : Item where
  foot := M
  holds := fun _ => True
  own := false
theorem Wd.beginM {w : World} {M : Nat → Prop} {fs : List (World → Prop)} (hM : ∀ k, M k → k < w.heap.size) (hf : ∀ Φ ∈ fs, Stable M w Φ) : Wd w (fun _ => False) w [ext M] fs := by
  refine ⟨Agree.refl _ _, ?_, ?_, ?_, by simp, ?_, ?_⟩
  · intro it hi; obtain rfl := List.mem_singleton.1 hi; trivial
  · intro it hi k hk; obtain rfl := List.mem_singleton.1 hi; exact hM k hk
  · intro it hi ho; obtain rfl := List.mem_singleton.1 hi; cases ho
  · intro Φ hΦ
    refine (hf Φ hΦ).less fun k _ hk => ?_
    obtain ⟨it, hi, hk⟩ := hk
    obtain rfl := List.mem_singleton.1 hi; exact hk
  · intro it hi w1 w2 _ _; obtain rfl := List.mem_singleton.1 hi; trivial
class HasExt (bs : List Item) (M : outParam (Nat → Prop)) : Prop where mem : ext M ∈ bs
instance he0 {M : Nat → Prop} {bs : List Item} : HasExt (ext M :: bs) M := ⟨List.mem_cons_self ..⟩
instance (priority := 900) he1 {M : Nat → Prop} {x : Item} {bs : List Item} [h : HasExt bs M] : HasExt (x :: bs) M := ⟨List.mem_cons_of_mem _ h.mem⟩
theorem foots_lt {w0 M0 ds a w l bs fs} (S : St w0 M0 ds a w l bs fs) : ∀ k, foots bs k → k < w.heap.size := fun k ⟨it, hi, hk⟩ => S.wd.lt it hi k hk
theorem apart_of {bs : List Item} (h : bs.Pairwise (fun x y => ∀ k, x.foot k → ¬ y.foot k)) {x y : Item} (hx : x ∈ bs) (hy : y ∈ bs) (hne : x.own ≠ y.own) (k : Nat) (hk : x.foot k) : ¬ y.foot k := by
  induction h with
  | nil => cases hx
  | cons h0 _ ih =>
    rcases List.mem_cons.1 hx with hx1 | hx1
    · rcases List.mem_cons.1 hy with hy1 | hy1
      · exact absurd (by rw [hx1, hy1]) hne
      · exact h0 _ hy1 k (hx1 ▸ hk)
    · rcases List.mem_cons.1 hy with hy1 | hy1
      · exact fun hk' => h0 _ hx1 k (hy1 ▸ hk') hk
      · exact ih hx1 hy1
/-- what a world later holds that has been left alone but for M. -/
theorem St.laterBox {w0 M0 ds a w l bs fs} (S : St w0 M0 ds a w l bs fs) {M : Nat → Prop} [he : HasExt bs M] {w' : World} (h : Agree M w w') (b : Nat) {t : TypeId} {cs : List Value} [hb : HasBox bs b t cs] : w'.heap[b]? = some (.cells cs.toArray t (0, 0)) := by
  have h1 : w.heap[b]? = some (.cells cs.toArray t (0, 0)) := S.wd.held _ hb.mem
  rw [← h1]
  exact h.blk (S.wd.lt _ hb.mem b rfl) (apart_of S.wd.apart hb.mem he.mem (by simp [box, ext]) b rfl)
theorem St.laterFact {w0 M0 ds a w l bs fs} (S : St w0 M0 ds a w l bs fs) {M : Nat → Prop} [he : HasExt bs M] {Φ : World → Prop} (hΦ : Φ ∈ fs) : Stable M w Φ := (S.wd.facts Φ hΦ).less fun _ _ hk => ⟨_, he.mem, hk⟩

/-! terms -/
inductive Term where
  | mk (kind user num : Int) (text : List UInt8) (kids : List Term)
/-- a term, and where its kids lie. -/
inductive LTerm where
  | mk (kind user num : Int) (text : List UInt8) (p : Option Addr) (cap : Nat) (kids : List LTerm)
namespace LTerm
def kind : LTerm → Int | .mk k _ _ _ _ _ _ => k
def user : LTerm → Int | .mk _ u _ _ _ _ _ => u
def num : LTerm → Int | .mk _ _ n _ _ _ _ => n
def text : LTerm → List UInt8 | .mk _ _ _ s _ _ _ => s
def p : LTerm → Option Addr | .mk _ _ _ _ p _ _ => p
def cap : LTerm → Nat | .mk _ _ _ _ _ c _ => c
def kids : LTerm → List LTerm | .mk _ _ _ _ _ _ ks => ks
mutual
def t : LTerm → Term
  | .mk k u n s _ _ ks => .mk k u n s (ts ks)
def ts : List LTerm → List Term
  | [] => []
  | x :: xs => t x :: ts xs
end
theorem ts_map : ∀ ks : List LTerm, ts ks = ks.map t
  | [] => rfl
  | x :: xs => by simp [ts, ts_map xs]
abbrev cells (t : LTerm) : List Value := [.int .i64 t.kind, .int .i64 t.user, .int .i64 t.num, str t.text, .slice t.p t.kids.length t.cap]
end LTerm
abbrev vL (t : LTerm) : Value := .agg #[.int .i64 t.kind, .int .i64 t.user, .int .i64 t.num, str t.text, .slice t.p t.kids.length t.cap]
mutual
def LtIn (w : World) : LTerm → Prop
  | .mk _ _ _ _ p cap kids => kids.length ≤ cap ∧ cap ≤ maxLen ∧ LsIn w p 0 kids
def LsIn (w : World) : Option Addr → Nat → List LTerm → Prop
  | _, _, [] => True
  | p, i, t :: ts => (∃ ad, p = some ad ∧ ∀ j v, t.cells[j]? = some v → w.cell? (ad.add (i * 5 + j)) = some v) ∧ LtIn w t ∧ LsIn w p (i + 1) ts
end
def LtF (t : LTerm) : World → Prop := fun w => LtIn w t
def LsF (p : Option Addr) (i : Nat) (ts : List LTerm) : World → Prop := fun w => LsIn w p i ts
theorem LtIn.iff {w : World} {t : LTerm} : LtIn w t ↔ t.kids.length ≤ t.cap ∧ t.cap ≤ maxLen ∧ LsIn w t.p 0 t.kids := by cases t; simp [LtIn, LTerm.kids, LTerm.cap, LTerm.p]
theorem LsIn.get {w : World} {p : Option Addr} : ∀ {i : Nat} {ts : List LTerm} {k : Nat} {t : LTerm}, LsIn w p i ts → ts[k]? = some t → (∃ ad, p = some ad ∧ ∀ j v, t.cells[j]? = some v → w.cell? (ad.add ((i + k) * 5 + j)) = some v) ∧ LtIn w t
  | i, [], k, t, _, hk => by simp at hk
  | i, x :: xs, 0, t, h, hk => by
    simp at hk; subst hk
    exact ⟨by simpa using h.1, h.2.1⟩
  | i, x :: xs, k + 1, t, h, hk => by
    have := LsIn.get (k := k) h.2.2 (by simpa using hk)
    rw [show i + 1 + k = i + (k + 1) from by omega] at this
    exact this
theorem add_add (ad : Addr) (i j : Nat) : (ad.add i).add j = ad.add (i + j) := by
  unfold Addr.add
  by_cases hi : i = 0 <;> by_cases hj : j = 0 <;> simp [hi, hj, Nat.add_assoc]
end Go.Wk
namespace Go.Wk
theorem w64 (n : Int) (h1 : -9223372036854775808 ≤ n) (h2 : n ≤ 9223372036854775807) : IntKind.i64.wrap n = n := by
  unfold IntKind.wrap
  simp only [IntKind.bits, IntKind.signed, Bool.true_and]
  by_cases h : n % (2 ^ 64 : Int) ≥ (2 ^ (64 - 1) : Int)
  · rw [if_pos (by simpa using h)]; omega
  · rw [if_neg (by simpa using h)]; omega
end Go.Wk
namespace Go.Wk
theorem LTerm.kid_lt {t x : LTerm} (h : x ∈ t.kids) : SizeOf.sizeOf x < SizeOf.sizeOf t := by
  cases t
  simp only [LTerm.kids] at h
  have := List.sizeOf_lt_of_mem h
  simp
  omega
theorem St.sub {w0 M0 ds a w l bs fs} (S : St w0 M0 ds a w l bs fs) (bs0 : List Item) (fs0 : List (World → Prop)) [hb : SubL bs0 bs] [hf : SubL fs0 fs] : St w0 M0 ds a w l bs0 fs0 := ⟨S.slots, S.defers, S.wd.sub hb.sub hf.sub⟩
theorem St.box {w0 M0 ds a w l bs fs} (S : St w0 M0 ds a w l bs fs) (b : Nat) {t : TypeId} {cs : List Value} [h : HasBox bs b t cs] : w.heap[b]? = some (.cells cs.toArray t (0, 0)) := S.wd.held _ h.mem
/-- a kid of a term, as it lies in memory. -/
theorem LTerm.kid {M : Nat → Prop} {w : World} {t : LTerm} (h : Stable M w (LtF t)) {k : Nat} (hk : k < t.kids.length) : ∃ x ad, t.kids[k]? = some x ∧ x ∈ t.kids ∧ t.p = some ad ∧ (∀ j v, x.cells[j]? = some v → w.cell? ((ad.add (k * 5)).add j) = some v) ∧ Stable M w (LtF x) := by
  have hx : t.kids[k]? = some t.kids[k] := List.getElem?_eq_getElem hk
  obtain ⟨ad, hp, hc⟩ := ((LtIn.iff.1 h.now).2.2.get hx).1
  refine ⟨_, ad, hx, List.getElem_mem hk, hp, fun j v hj => ?_, h.imp fun w' hw' => ((LtIn.iff.1 hw').2.2.get hx).2⟩
  rw [add_add]
  simpa using hc j v hj
theorem LTerm.t_eq (t : LTerm) : t.t = .mk t.kind t.user t.num t.text (t.kids.map LTerm.t) := by
  cases t; simp [LTerm.t, LTerm.ts_map, LTerm.kind, LTerm.user, LTerm.num, LTerm.text, LTerm.kids]
end Go.Wk
namespace Go.Wk
theorem St.fb {w0 M0 ds a w l bs fs} (S : St w0 M0 ds a w l bs fs) (b : Nat) {t : TypeId} {cs : List Value} [h : HasBox bs b t cs] {Φ : World → Prop} (hΦ : Φ ∈ fs) : Stable (fun k => k = b) w Φ :=
  (S.wd.facts Φ hΦ).less fun _ _ hk => ⟨_, h.mem, hk⟩
end Go.Wk
namespace Go.Wk
theorem LTerm.len_le {M : Nat → Prop} {w : World} {t : LTerm} (h : Stable M w (LtF t)) : t.kids.length ≤ 9223372036854775807 := by
  have := LtIn.iff.1 h.now
  unfold maxLen at this
  omega
end Go.Wk

namespace Go.Wk
open Go

/-! who is called, with what -/
class AppL {α : Type} (x y : List α) (z : outParam (List α)) : Prop where eq : x ++ y = z
instance appl0 {α : Type} {y : List α} : AppL [] y y := ⟨rfl⟩
instance appl1 {α : Type} {u : α} {x y z : List α} [h : AppL x y z] : AppL (u :: x) y (u :: z) := ⟨by simp [h.eq]⟩
class CallTo (l : Cx) (x : Operand) (xs : List Operand) (f : outParam Nat) (args : outParam (List Value)) : Prop where
  ex : ∃ fi ca vs, Ev l x (.func (.func f) ⟨fi⟩ ⟨ca⟩) ∧ EvL l xs vs ∧ fi ++ vs ++ ca = args
instance (priority := 1100) callto0 {l : Cx} {f : Nat} {xs : List Operand} {vs : List Value} [h : EvL l xs vs] : CallTo l (.func f) xs f vs := ⟨[], [], vs, evF, h, by simp⟩
instance callto1 {l : Cx} {x : Operand} {f : Nat} {xs : List Operand} {fi ca vs u args : List Value} [h0 : Ev l x (.func (.func f) ⟨fi⟩ ⟨ca⟩)] [h : EvL l xs vs] [h1 : AppL fi vs u] [h2 : AppL u ca args] : CallTo l x xs f args := ⟨fi, ca, vs, h0, h, by rw [h1.eq, h2.eq]⟩
theorem run_callto {P : Program} {ρ : Operand → Value} {x : Operand} {f : Nat} {xs : List Operand} {l : Cx} {args : List Value} {ts : Array TypeId} {ty : TypeId} [he : EntF P f] [hc : CallTo l x xs f args] (h : Fr ρ l) (w : World) :
    (xop ρ (.call { callee := .value x, args := xs.toArray, argTypes := ts }) ty).run P w = .ok (.enter f args.toArray) w := by
  obtain ⟨fi, ca, vs, h0, h1, rfl⟩ := hc.ex
  have e := h.evl (xs := xs) (vs := vs)
  have hf : ρ x = .func (.func f) ⟨fi⟩ ⟨ca⟩ := h.ev
  have := he.run (fi ++ vs ++ ca).toArray w
  simp [xop, execOp, resolve, hf, Deferred.ofValue, invoke, e]
  simpa using this

section
variable {P : Program} {r : Option Nat} {ops : Array Oper} {Q : Exit → Act → World → Prop} {w0 : World} {M0 : Nat → Prop} {ds : List Deferred} {a : Act} {w : World} {l l' : List Value} {bs bs' : List Item} {fs : List (World → Prop)}
  {d : Option Nat} {op : Op} {ty : TypeId} {pos : String} {af : Array Edge} {rest : List Oper} {v v' G : Value} {f : Nat} {x : Operand} {xs : List Operand} {args : List Value} {ts : Array TypeId} {j g : Nat} {pol : Bool} {cs : List Bool}

theorem cv_any [EntF P f] [CallTo ⟨[], l⟩ x xs f args] (S : St w0 M0 ds a w l bs fs) {R : Ending → World → Prop} (hc : Calls P f args.toArray w R) (K : ∀ e w', R e w' → ∃ v, e = .returned v ∧ WL P r ops Q rest (a.put d v) w') :
    WL P r ops Q (⟨d, .call { callee := .value x, args := xs.toArray, argTypes := ts }, ty, pos, af, none⟩ :: rest) a w := by
  refine wl_plain rfl ?_
  rw [semAt_nd rfl]
  simp only [run_callto (f := f) (args := args) S.fr, Oper.uponIn]
  refine ⟨fun h => (by cases h), trivial, fun cs _ => ?_⟩
  obtain ⟨e, w', fr, hR, hcm, h1, h2⟩ := hc cs
  obtain ⟨v, rfl, hk⟩ := K e w' hR
  exact ⟨.returned v, w', fr, hk, (comesIn_wide (m := lone (Frame.enter P f args.toArray .normal) cs w) (e := .returned v)).2 hcm, h1, h2⟩
/-- a call by its rule: nothing that lay there has changed. -/
theorem sr {l' : Value → List Value} [EntF P f] [CallTo ⟨[], l⟩ x xs f args] [hp : ∀ v, PutO l d v (l' v)] (S : St w0 M0 ds a w l bs fs) {R : Value → World → Prop} (hc : Ret P f args w (fun _ => False) R)
    (K : ∀ v a w', R v w' → St w0 M0 ds a w' (l' v) bs fs → WL P r ops Q rest a w') :
    WL P r ops Q (⟨d, .call { callee := .value x, args := xs.toArray, argTypes := ts }, ty, pos, af, none⟩ :: rest) a w := by
  refine cv_any S hc ?_
  rintro e w' ⟨v, rfl, ha, hR⟩
  have := hp v
  have S' := S.put (d := d) (v := v)
  exact ⟨v, rfl, K v _ w' hR ⟨S'.slots, S'.defers, S'.wd.step ha⟩⟩
/-- a call whose value is known. -/
theorem sc [EntF P f] [CallTo ⟨[], l⟩ x xs f args] [hv : CallV P f args bs fs v] [hp : PutO l d v l'] (S : St w0 M0 ds a w l bs fs)
    (K : ∀ a w, St w0 M0 ds a w l' bs fs → WL P r ops Q rest a w) :
    WL P r ops Q (⟨d, .call { callee := .value x, args := xs.toArray, argTypes := ts }, ty, pos, af, none⟩ :: rest) a w := by
  refine cv_any S (hv.run w S.wd.mem) ?_
  rintro e w' ⟨u, rfl, ha, rfl⟩
  have S' := S.put (d := d) (v := u) (l' := l')
  exact ⟨u, rfl, K _ w' ⟨S'.slots, S'.defers, S'.wd.step ha⟩⟩
/-- a call that writes into one box. -/
theorem sb {l' : Value → List Value} {b : Nat} {t : TypeId} {cs : List Value} [EntF P f] [CallTo ⟨[], l⟩ x xs f args] [hp : ∀ v, PutO l d v (l' v)] [HasBox bs b t cs] (S : St w0 M0 ds a w l bs fs) {R : Value → World → Prop} (hc : Ret P f args w (fun k => k = b) R)
    (K : ∀ v a w', R v w' → (∀ cs' bs', Repl bs b t cs cs' bs' → w'.heap[b]? = some (.cells cs'.toArray t (0, 0)) → St w0 M0 ds a w' (l' v) bs' fs) → WL P r ops Q rest a w') :
    WL P r ops Q (⟨d, .call { callee := .value x, args := xs.toArray, argTypes := ts }, ty, pos, af, none⟩ :: rest) a w := by
  refine cv_any S hc ?_
  rintro e w' ⟨v, rfl, ha, hR⟩
  have := hp v
  have S' := S.put (d := d) (v := v)
  refine ⟨v, rfl, K v _ w' hR fun cs' bs' hrep hb' => ⟨S'.slots, S'.defers, ?_⟩⟩
  obtain ⟨pre, post, e1, e2⟩ := hrep.ex
  have hwd := S'.wd
  rw [e1] at hwd
  rw [e2]
  exact hwd.touch ha hb'
/-- a guarded call whose value is known. -/
theorem gC [hg : GSlot ops j g] [hn : Nth l g G] [hc : Conds G pol cs] [EntF P f] [he : CallTo ⟨cs, l⟩ x xs f args] [hq : CallV P f args bs fs v] [hv : GifV cs v v'] [hp : PutO l d v' l'] (S : St w0 M0 ds a w l bs fs)
    (K : ∀ a w, St w0 M0 ds a w l' bs fs → WL P r ops Q rest a w) : WL P r ops Q (⟨d, .call { callee := .value x, args := xs.toArray, argTypes := ts }, ty, pos, af, some (j, pol)⟩ :: rest) a w := by
  have hw := wanted_iff (ops := ops) (d := d) (op := .call { callee := .value x, args := xs.toArray, argTypes := ts }) (ty := ty) (pos := pos) (af := af) (pol := pol) S hg.eq
  have S' := S.put (d := d) (v := v') (l' := l')
  refine wl_guard (fun ht => ?_) (fun hf => ?_)
  · have hall := hw.1 ht
    have : CallTo ⟨[], l⟩ x xs f args := ⟨by
      obtain ⟨fi, ca, vs, h0, h1, h2⟩ := he.ex
      exact ⟨fi, ca, vs, ⟨fun _ ds => h0.eq hall ds⟩, ⟨fun _ ds => h1.eq hall ds⟩, h2⟩⟩
    refine sc S (v := v) (l' := l') (K := K) (hp := ⟨fun ds => ?_⟩)
    rw [← hp.eq, hv.eq, if_pos hall]
  · have hall : ¬ ∀ c ∈ cs, c = true := fun h => by rw [hw.2 h] at hf; cases hf
    have e := hv.eq
    rw [if_neg hall] at e
    rw [← e]
    exact K _ _ S'
/-- the guard is decided by cases. -/
theorem gS {c : Bool} {lt lf : List Value} [hg : GSlot ops j g] [hn : Nth l g (.bool c)] [h1 : PutAt l g (.bool true) lt] [h2 : PutAt l g (.bool false) lf] (S : St w0 M0 ds a w l bs fs)
    (ht : c = true → St w0 M0 ds a w lt bs fs → WL P r ops Q (⟨d, op, ty, pos, af, some (j, pol)⟩ :: rest) a w)
    (hf : c = false → St w0 M0 ds a w lf bs fs → WL P r ops Q (⟨d, op, ty, pos, af, some (j, pol)⟩ :: rest) a w) : WL P r ops Q (⟨d, op, ty, pos, af, some (j, pol)⟩ :: rest) a w := by
  have key : ∀ b, c = b → l.set g (.bool b) = l := fun b hb => by
    subst hb
    apply List.ext_getElem?
    intro k
    rw [List.getElem?_set]
    split
    · subst_vars
      have := hn.eq
      split <;> simp_all
    · rfl
  cases c
  · exact hf rfl (by rw [← h2.eq, key false rfl]; exact S)
  · exact ht rfl (by rw [← h1.eq, key true rfl]; exact S)
end

/-! a function's end, whatever its results -/
class ResV (P : Program) (l : List Value) (bs : List Item) (rv : ResultVar) (v : outParam Value) : Prop where
  run : ∀ (w : World), (∀ it ∈ bs, it.holds w) → (match rv with | .tmp t => (pure (l.toArray.getD t undef) : Sem Value) | .cell a t => do loadVar t (← asAddr (l.toArray.getD a undef))).run P w = .ok v w
instance resT {P l bs t v} [h : Nth l t v] : ResV P l bs (.tmp t) v := ⟨fun w _ => by
  have := h.eq; simp [Array.getD_eq_getD_getElem?, this]⟩
instance resC1 {P l bs a t b bt cs v} [h : Nth l a (.pointer (some ⟨b, 0, none⟩))] [hb : HasBox bs b bt cs] [ha : AggT P t false] [hn : Nth cs 0 v] : ResV P l bs (.cell a t) v := ⟨fun w hh => by
  have e := h.eq
  have hc : w.cell? ⟨b, 0, none⟩ = some v := by rw [cell_of_row w b 0 cs.toArray bt (0, 0) (hh _ hb.mem)]; simpa using hn.eq
  simp [Array.getD_eq_getD_getElem?, e, asAddr, loadVar, Sem.run_bind, ha.run, load, Sem.run, hc]⟩
instance resCA {P l bs a t b bt cs z n by_ vs} [h : Nth l a (.pointer (some ⟨b, 0, none⟩))] [hb : HasBox bs b bt cs] [ha : AggT P t true] [TI P t z n by_] [hn : Seg cs 0 n vs] : ResV P l bs (.cell a t) (.agg ⟨vs⟩) := ⟨fun w hh => by
  have e := h.eq
  have hl : (loadCells ⟨b, 0, none⟩ n).run P w = .ok vs.toArray w := by
    have := run_loadCells_list (P := P) w ⟨b, 0, none⟩ vs (fun j v hj => by
      have hjn : j < n := by rw [← hn.eq.1]; exact (List.getElem?_eq_some_iff.1 hj).1
      have e : (⟨b, 0, none⟩ : Addr).add j = ⟨b, j, none⟩ := by unfold Addr.add; split <;> simp_all
      have h2 := hn.eq.2 j hjn
      rw [e, cell_of_row w b j cs.toArray bt (0, 0) (hh _ hb.mem)]
      simpa [hj] using h2)
    rw [hn.eq.1] at this
    exact this
  simp [Array.getD_eq_getD_getElem?, e, asAddr, loadVar, Sem.run_bind, ha.run, run_size, hl]⟩
class FnRes (fn : Func) (rs : outParam (List ResultVar)) : Prop where eq : fn.results = rs.toArray
def resSem (l : List Value) (rv : ResultVar) : Sem Value := match rv with | .tmp t => pure (l.toArray.getD t undef) | .cell a t => do loadVar t (← asAddr (l.toArray.getD a undef))
theorem run_res {P : Program} {l : List Value} {bs : List Item} {rv : ResultVar} {v : Value} [h : ResV P l bs rv v] (w : World) (hh : ∀ it ∈ bs, it.holds w) : (resSem l rv).run P w = .ok v w := h.run w hh
theorem results_eq {fn : Func} {rs : List ResultVar} [hr : FnRes fn rs] (l : List Value) : results fn l.toArray = (do let vs ← rs.toArray.mapM (resSem l); pure (if h : vs.size = 1 then vs[0] else .tuple vs)) := by
  unfold results
  rw [hr.eq]
  rfl
section
variable {P : Program} {fn : Func} {R : Value → World → Prop} {w0 : World} {M0 : Nat → Prop} {a : Act} {w : World} {l : List Value} {bs : List Item} {fs : List (World → Prop)} {e : Exit}
theorem fin_any {v : Value} (S : St w0 M0 [] a w l bs fs) (hv : (results fn l.toArray).run P w = .ok v w) (h : Agree M0 w0 w → R v w) (he : e = .ret ∨ e = .normal := by simp) : bodyPost P fn (fun e w' => ∃ v, e = .returned v ∧ Agree M0 w0 w' ∧ R v w') e a w := by
  rw [← S.slots] at hv
  rcases he with rfl | rfl
  · exact bodyPost_ret hv S.defers ⟨_, rfl, S.wd.agree, h S.wd.agree⟩
  · exact bodyPost_end hv S.defers ⟨_, rfl, S.wd.agree, h S.wd.agree⟩
theorem end0 [hr : FnRes fn []] (S : St w0 M0 [] a w l bs fs) (h : Agree M0 w0 w → R (.tuple #[]) w) (he : e = .ret ∨ e = .normal := by simp) : bodyPost P fn (fun e w' => ∃ v, e = .returned v ∧ Agree M0 w0 w' ∧ R v w') e a w :=
  fin_any S (by rw [results_eq (rs := [])]; simp) h he
theorem end1 {r1 : ResultVar} {v1 : Value} [hr : FnRes fn [r1]] [h1 : ResV P l bs r1 v1] (S : St w0 M0 [] a w l bs fs) (h : Agree M0 w0 w → R v1 w) (he : e = .ret ∨ e = .normal := by simp) : bodyPost P fn (fun e w' => ∃ v, e = .returned v ∧ Agree M0 w0 w' ∧ R v w') e a w :=
  fin_any S (by rw [results_eq (rs := [r1])]; simp [run_res (P := P) (l := l) (bs := bs) (rv := r1) (v := v1) w S.wd.held]) h he
theorem end2 {r1 r2 : ResultVar} {v1 v2 : Value} [hr : FnRes fn [r1, r2]] [h1 : ResV P l bs r1 v1] [h2 : ResV P l bs r2 v2] (S : St w0 M0 [] a w l bs fs) (h : Agree M0 w0 w → R (.tuple ⟨[v1, v2]⟩) w) (he : e = .ret ∨ e = .normal := by simp) : bodyPost P fn (fun e w' => ∃ v, e = .returned v ∧ Agree M0 w0 w' ∧ R v w') e a w :=
  fin_any S (by rw [results_eq (rs := [r1, r2])]; simp [run_res (P := P) (l := l) (bs := bs) (rv := r1) (v := v1) w S.wd.held, run_res (P := P) (l := l) (bs := bs) (rv := r2) (v := v2) w S.wd.held]) h he
theorem end3 {r1 r2 r3 : ResultVar} {v1 v2 v3 : Value} [hr : FnRes fn [r1, r2, r3]] [h1 : ResV P l bs r1 v1] [h2 : ResV P l bs r2 v2] [h3 : ResV P l bs r3 v3] (S : St w0 M0 [] a w l bs fs) (h : Agree M0 w0 w → R (.tuple ⟨[v1, v2, v3]⟩) w) (he : e = .ret ∨ e = .normal := by simp) : bodyPost P fn (fun e w' => ∃ v, e = .returned v ∧ Agree M0 w0 w' ∧ R v w') e a w :=
  fin_any S (by rw [results_eq (rs := [r1, r2, r3])]; simp [run_res (P := P) (l := l) (bs := bs) (rv := r1) (v := v1) w S.wd.held, run_res (P := P) (l := l) (bs := bs) (rv := r2) (v := v2) w S.wd.held, run_res (P := P) (l := l) (bs := bs) (rv := r3) (v := v3) w S.wd.held]) h he
theorem end4 {r1 r2 r3 r4 : ResultVar} {v1 v2 v3 v4 : Value} [hr : FnRes fn [r1, r2, r3, r4]] [h1 : ResV P l bs r1 v1] [h2 : ResV P l bs r2 v2] [h3 : ResV P l bs r3 v3] [h4 : ResV P l bs r4 v4] (S : St w0 M0 [] a w l bs fs) (h : Agree M0 w0 w → R (.tuple ⟨[v1, v2, v3, v4]⟩) w) (he : e = .ret ∨ e = .normal := by simp) : bodyPost P fn (fun e w' => ∃ v, e = .returned v ∧ Agree M0 w0 w' ∧ R v w') e a w :=
  fin_any S (by rw [results_eq (rs := [r1, r2, r3, r4])]; simp [run_res (P := P) (l := l) (bs := bs) (rv := r1) (v := v1) w S.wd.held, run_res (P := P) (l := l) (bs := bs) (rv := r2) (v := v2) w S.wd.held, run_res (P := P) (l := l) (bs := bs) (rv := r3) (v := v3) w S.wd.held, run_res (P := P) (l := l) (bs := bs) (rv := r4) (v := v4) w S.wd.held]) h he
end

/-! structs and slices that are written out -/
/-- where the parts of a struct or an array lie. -/
class PlOf (P : Program) (t : TypeId) (pl : outParam (List (Nat × Nat))) : Prop where
  ex : ∃ fields, P.underlying t = some (.struct fields) ∧ (fields.map fun f => (f.offset, (P.info? f.type).map (·.size))) = (pl.map fun x => (x.1, some x.2)).toArray
theorem plof_of {P : Program} {t : TypeId} {pl : List (Nat × Nat)} (h : (P.underlying t).bind (fun d => match d with | .struct fs => some (fs.map fun f => (f.offset, (P.info? f.type).map (·.size))) | _ => none) = some (pl.map fun x => (x.1, some x.2)).toArray) : PlOf P t pl := ⟨by
  cases hu : P.underlying t with
  | none => simp [hu] at h
  | some d => cases d <;> simp [hu] at h; exact ⟨_, rfl, by simpa using h⟩⟩
class NthP (pl : List (Nat × Nat)) (i : Nat) (o s : outParam Nat) : Prop where eq : pl[i]? = some (o, s)
instance nthp0 {o s : Nat} {pl : List (Nat × Nat)} : NthP ((o, s) :: pl) 0 o s := ⟨rfl⟩
instance nthpS {x : Nat × Nat} {pl : List (Nat × Nat)} {i o s : Nat} [h : NthP pl i o s] : NthP (x :: pl) (i + 1) o s := ⟨by simpa using h.eq⟩
class MulN (i s : Nat) (o : outParam Nat) : Prop where eq : i * s = o
instance (priority := 1100) muln1 {i : Nat} : MulN i 1 i := ⟨by simp⟩
instance muln0 {s : Nat} : MulN 0 s 0 := ⟨by simp⟩
class AddN (a b : Nat) (c : outParam Nat) : Prop where eq : a + b = c
instance addn0 {a : Nat} : AddN a 0 a := ⟨rfl⟩
instance addnS {a b c : Nat} [h : AddN a b c] : AddN a (b + 1) (c + 1) := ⟨by rw [← h.eq]; omega⟩
instance mulnS {i s o o' : Nat} [h : MulN i s o] [h' : AddN o s o'] : MulN (i + 1) s o' := ⟨by rw [← h'.eq, ← h.eq]; simp [Nat.add_mul]⟩
class SetMany (place : Nat → Option (Nat × Nat)) (l : Cx) (cs : List Value) (parts : List (Nat × Operand)) (cs' : outParam (List Value)) : Prop where
  run : ∀ ρ : Operand → Value, Fr ρ l → Instr.fill place cs.toArray (parts.map fun (i, x) => (i, ρ x)) = some cs'.toArray
instance setm0 {place l cs} : SetMany place l cs [] cs := ⟨fun _ _ => rfl⟩
class PlaceAt (place : Nat → Option (Nat × Nat)) (i : Nat) (o s : outParam Nat) : Prop where eq : place i = some (o, s)
instance placeS {pl : List (Nat × Nat)} {i o s : Nat} [h : NthP pl i o s] : PlaceAt (fun i => pl[i]?) i o s := ⟨h.eq⟩
instance placeA {i o s : Nat} [h : MulN i s o] : PlaceAt (fun i => some (i * s, s)) i o s := ⟨by rw [h.eq]⟩
theorem fold_set (vs : List Value) (cs : List Value) (off : Nat) (h : off + vs.length ≤ cs.length) : ((vs.toArray.zipIdx.foldl (fun cs (c, j) => cs.setIfInBounds (off + j) c) cs.toArray)) = (cs.take off ++ vs ++ cs.drop (off + vs.length)).toArray := by
  have key : ∀ (vs : List Value) (k : Nat) (cs : List Value), off + k + vs.length ≤ cs.length → ((vs.zipIdx k).foldl (fun (cs : Array Value) (x : Value × Nat) => cs.setIfInBounds (off + x.2) x.1) cs.toArray) = (cs.take (off + k) ++ vs ++ cs.drop (off + k + vs.length)).toArray := by
    intro vs
    induction vs with
    | nil => intro k cs _; simp
    | cons v vs ih =>
      intro k cs h
      simp only [List.length_cons] at h
      simp only [List.zipIdx_cons, List.foldl_cons, List.setIfInBounds_toArray]
      rw [ih (k + 1) (cs.set (off + k) v) (by simp; omega)]
      congr 1
      have e1 : (cs.set (off + k) v).take (off + (k + 1)) = cs.take (off + k) ++ [v] := by
        rw [show off + (k + 1) = (off + k) + 1 from by omega, List.take_set, List.take_succ_eq_append_getElem (by omega), List.set_append_right _ _ (by simp; omega)]
        simp [List.length_take, Nat.min_eq_left (show off + k ≤ cs.length from by omega)]
      rw [e1, List.drop_set_of_lt (by omega)]
      simp only [List.append_assoc, List.cons_append, List.nil_append, List.length_cons]
      rw [show off + (k + 1) + vs.length = off + k + (vs.length + 1) from by omega]
  have := key vs 0 cs (by simpa using h)
  rw [← Array.foldl_toList, Array.toList_zipIdx]
  simpa using this
instance setmS {place : Nat → Option (Nat × Nat)} {l : Cx} {cs cs1 cs' vs : List Value} {i o s : Nat} {x : Operand} {v : Value} {parts : List (Nat × Operand)} [hp : PlaceAt place i o s] [hv : Ev l x v] [hc : Cells v vs] [hl : LenIs vs s] [hs : SetSeg cs o vs cs1] [h : SetMany place l cs1 parts cs'] : SetMany place l cs ((i, x) :: parts) cs' := ⟨fun ρ hf => by
  have e := hf.ev (x := x) (v := v)
  have hcs : v.cells = vs.toArray := by rw [← hc.eq]
  simp only [List.map_cons, Instr.fill, hp.eq, e, hcs]
  have h1 := hs.eq
  rw [if_neg (by simp [hl.eq]; have := hl.eq; omega)]
  have h2 := fold_set vs cs o h1.1
  rw [h1.2] at h2
  rw [h2]
  exact h.run ρ hf⟩
theorem run_places {P : Program} (w : World) : ∀ (fl : List Field) (pl : List (Nat × Nat)), fl.map (fun f => (f.offset, (P.info? f.type).map (·.size))) = pl.map (fun x => (x.1, some x.2)) →
    (fl.mapM (fun f => do pure (f.offset, ← sizeOf f.type) : Field → Sem (Nat × Nat))).run P w = .ok pl w
  | [], [], _ => by simp
  | [], x :: pl, h => by simp at h
  | f :: fl, [], h => by simp at h
  | f :: fl, x :: pl, h => by
    simp only [List.map_cons, List.cons.injEq, Prod.mk.injEq] at h
    obtain ⟨⟨h1, h2⟩, h3⟩ := h
    have ih := run_places w fl pl h3
    cases hi : P.info? f.type with
    | none => simp [hi] at h2
    | some i =>
      simp [hi] at h2
      have hs : (sizeOf f.type).run P w = .ok x.2 w := by simp [sizeOf, typeInfo, program, Sem.run, Sem.run_bind, hi, h2]
      simp only [List.mapM_cons, Sem.run_bind, hs, Result.andThen_ok, Sem.run_pure, ih, h1]
instance opBuildS {P : Program} {t ty : TypeId} {l : Cx} {bs : List Item} {fs : List (World → Prop)} {parts : List (Nat × Operand)} {pl : List (Nat × Nat)} {z : Value} {n by_ : Nat} {zs cs : List Value} [hp : PlOf P t pl] [TI P t z n by_] [hc : Cells z zs] [hs : SetMany (fun i => pl[i]?) l zs parts cs] : OpQ P (.build t parts.toArray) ty l bs fs (.agg ⟨cs⟩) := ⟨fun ρ w h _ => by
  obtain ⟨fields, hu, hpl⟩ := hp.ex
  have h1 := hs.run ρ h
  have hz : z.cells = zs.toArray := by rw [← hc.eq]
  have h2 := run_places (P := P) w fields.toList pl (by
    have := congrArg Array.toList hpl
    simpa using this)
  have h3 : (fields.mapM (fun f => do pure (f.offset, ← sizeOf f.type) : Field → Sem (Nat × Nat))).run P w = .ok pl.toArray w := by
    rw [Array.mapM_eq_mapM_toList]
    simp only [map_eq_pure_bind, Sem.run_bind, h2, Result.andThen_ok, Sem.run_pure]
  simp only [xop, execOp, Instr.build, Sem.run_bind, run_zero, Result.andThen_ok, run_underlying hu, h3, hz, List.map_toArray]
  simp [h1]⟩
end Go.Wk

namespace Go.Wk
open Go

class RepL (n : Nat) (zs : List Value) (r : outParam (List Value)) : Prop where eq : (List.replicate n zs).flatten = r
instance repl0 {zs : List Value} : RepL 0 zs [] := ⟨by simp⟩
instance replS {n : Nat} {zs r r' : List Value} [h : RepL n zs r] [h' : AppL zs r r'] : RepL (n + 1) zs r' := ⟨by rw [← h'.eq, ← h.eq]; simp [List.replicate_succ]⟩
class LeS (n k : Nat) : Prop where le : n ≤ k
instance les0 {k : Nat} : LeS 0 k := ⟨Nat.zero_le _⟩
instance lesS {n k : Nat} [h : LeS n k] : LeS (n + 1) (k + 1) := ⟨Nat.succ_le_succ h.le⟩
theorem range_rep (n : Nat) (zs : List Value) (hz : zs ≠ []) : ((Array.range (n * zs.length)).map (fun i => zs.toArray[i % zs.toArray.size]!)) = ((List.replicate n zs).flatten).toArray := by
  apply Array.ext'
  simp only [Array.toList_map, Array.toList_range]
  induction n with
  | zero => simp
  | succ n ih =>
    have hpos : 0 < zs.length := List.length_pos_iff.2 hz
    rw [Nat.add_mul, Nat.one_mul, List.range_add, List.map_append, ih, List.replicate_succ', List.flatten_append]
    congr 1
    simp only [List.map_map, List.flatten_cons, List.flatten_nil, List.append_nil]
    apply List.ext_getElem?
    intro k
    by_cases hk : k < zs.length
    · simp [hk, Nat.mul_add_mod_self_right, Nat.mod_eq_of_lt hk]
    · simp [hk]

/-- an operation that makes a block. -/
class OpB (P : Program) (op : Op) (ty : TypeId) (l : Cx) (t : outParam TypeId) (cs : outParam (List Value)) (val : outParam (Nat → Value)) : Prop where
  run : ∀ (ρ : Operand → Value) (w : World), Fr ρ l → (xop ρ op ty).run P w = .ok (.value (val w.heap.size)) (w.alloc (.cells cs.toArray t))
section
variable {P : Program} {r : Option Nat} {ops : Array Oper} {Q : Exit → Act → World → Prop} {w0 : World} {M0 : Nat → Prop} {ds : List Deferred} {a : Act} {w : World} {l : List Value} {bs bs' : List Item} {fs : List (World → Prop)}
  {d : Option Nat} {op : Op} {ty : TypeId} {pos : String} {af : Array Edge} {rest : List Oper} {v : Value}
theorem sn {t : TypeId} {cs : List Value} {val : Nat → Value} {l' : Nat → List Value} [hq : OpB P op ty ⟨[], l⟩ t cs val] [hp : ∀ b, PutO l d (val b) (l' b)] (S : St w0 M0 ds a w l bs fs)
    (K : ∀ b a w, St w0 M0 ds a w (l' b) (box b t cs :: bs) fs → WL P r ops Q rest a w) (hnd : isDefer op = false := by rfl) : WL P r ops Q (⟨d, op, ty, pos, af, none⟩ :: rest) a w := by
  refine wl_plain rfl ?_
  rw [semAt_nd hnd]
  simp only [hq.run a.eval w S.fr, Oper.uponIn]
  have := hp w.heap.size
  have S' := S.put (d := d) (v := val w.heap.size)
  exact K _ _ _ ⟨S'.slots, S'.defers, S'.wd.alloc t cs⟩
end
class NeN (zs : List Value) : Prop where ne : zs ≠ []
instance {z : Value} {zs : List Value} : NeN (z :: zs) := ⟨by simp⟩
instance opBuildSlice {P : Program} {t e ty : TypeId} {n sz by_ : Nat} {l : Cx} {parts : List (Nat × Operand)} {z : Value} {zs rs cs : List Value} [Und P t (.slice e)] [TI P e z sz by_] [hc : Cells z zs] [hne : NeN zs] [hls : LenIs zs sz] [h1n : LeS n 4096] [h1s : LeS sz 4096] [hr : RepL n zs rs] [hs : SetMany (fun i => some (i * sz, sz)) l rs parts cs] :
    OpB P (.buildSlice t n parts.toArray) ty l e cs (fun b => .slice (some ⟨b, 0, none⟩) n n) := ⟨fun ρ w h => by
  have hz : z.cells = zs.toArray := by rw [← hc.eq]
  have h1 := hs.run ρ h
  have hle : ¬ n * sz > 2 ^ 24 := by
    have := Nat.mul_le_mul h1n.le h1s.le
    omega
  have h2 := range_rep n zs hne.ne
  rw [hr.eq, hls.eq] at h2
  simp only [xop, execOp, Instr.buildSlice, Sem.run_bind, run_und, Result.andThen_ok, run_size, List.map_toArray]
  rw [if_neg hle]
  by_cases h0 : n * sz = 0
  · rw [if_pos h0]
    have e : rs = [] := by
      have : rs.length = n * sz := by rw [← hr.eq, ← hls.eq]; simp
      exact List.eq_nil_of_length_eq_zero (by omega)
    subst e
    have h1' : Instr.fill (fun i => some (i * sz, sz)) #[] (parts.map fun x => (x.1, ρ x.2)) = some cs.toArray := h1
    have e0 : (Array.range 0).map (fun _ => (default : Value)) = #[] := by simp
    simp [h0, e0, h1', newRow]
  · rw [if_neg h0]
    simp only [Sem.run_bind, run_zero, Result.andThen_ok, Sem.run_pure, hz, h2]
    simp [h1, newRow]⟩
end Go.Wk
namespace Go.Wk
class HasFact (fs : List (World → Prop)) (Φ : World → Prop) : Prop where mem : Φ ∈ fs
instance hf0 {Φ : World → Prop} {fs : List (World → Prop)} : HasFact (Φ :: fs) Φ := ⟨List.mem_cons_self ..⟩
instance (priority := 900) hf1 {Φ Ψ : World → Prop} {fs : List (World → Prop)} [h : HasFact fs Φ] : HasFact (Ψ :: fs) Φ := ⟨List.mem_cons_of_mem _ h.mem⟩
theorem Mem.fact {w bs fs} (m : Mem w bs fs) (Φ : World → Prop) [h : HasFact fs Φ] : Stable (foots bs) w Φ := m.facts Φ h.mem
theorem Mem.fact0 {w bs fs} (m : Mem w bs fs) (Φ : World → Prop) [h : HasFact fs Φ] : Stable (fun _ => False) w Φ := (m.facts Φ h.mem).less fun _ _ h => h.elim
theorem St.mem {w0 M0 ds a w l bs fs} (S : St w0 M0 ds a w l bs fs) : Mem w bs fs := S.wd.mem
end Go.Wk
namespace Go.Wk
theorem LsIn.of_cells {w : World} {b : Nat} {cs : List Value} (hc : ∀ i : Nat, w.cell? ⟨b, i, none⟩ = cs[i]?) : ∀ (ts : List LTerm) (i : Nat), cs.drop (i * 5) = ts.flatMap LTerm.cells → (∀ t ∈ ts, LtIn w t) → LsIn w (some ⟨b, 0, none⟩) i ts
  | [], _, _, _ => by simp [LsIn]
  | t :: ts, i, h, hk => by
    refine ⟨⟨_, rfl, fun j v hj => ?_⟩, hk t (by simp), LsIn.of_cells hc ts (i + 1) ?_ fun x hx => hk x (by simp [hx])⟩
    · have e : (⟨b, 0, none⟩ : Addr).add (i * 5 + j) = ⟨b, i * 5 + j, none⟩ := by unfold Addr.add; split <;> simp_all
      rw [e, hc, ← List.getElem?_drop, h, List.flatMap_cons, List.getElem?_append_left]
      · exact hj
      · exact (List.getElem?_eq_some_iff.1 hj).1
    · rw [show (i + 1) * 5 = i * 5 + 5 from by omega, ← List.drop_drop, h, List.flatMap_cons]
      rfl
theorem LsIn.of_block {w : World} {b : Nat} {t : TypeId} (ts : List LTerm) (hb : w.heap[b]? = some (.cells (ts.flatMap LTerm.cells).toArray t (0, 0))) (h : ∀ t ∈ ts, LtIn w t) : LsIn w (some ⟨b, 0, none⟩) 0 ts :=
  LsIn.of_cells (cs := ts.flatMap LTerm.cells) (fun i => by rw [cell_of_row w b i _ t (0, 0) hb]; simp) ts 0 (by simp) h
abbrev textL (s : List UInt8) : LTerm := .mk 1 0 0 s none 0 []
abbrev freshL (u n : Int) : LTerm := .mk 2 u n [] none 0 []
abbrev hashL (p : Option Addr) (t : LTerm) : LTerm := .mk 5 0 0 [] p 1 [t]
abbrev pairL (p : Option Addr) (a b : LTerm) : LTerm := .mk 4 0 0 [] p 2 [a, b]
def Term.text (s : List UInt8) : Term := .mk 1 0 0 s []
def Term.fresh (u n : Int) : Term := .mk 2 u n [] []
def Term.hash (t : Term) : Term := .mk 5 0 0 [] [t]
def Term.pair (a b : Term) : Term := .mk 4 0 0 [] [a, b]
theorem textL_in (w : World) (s : List UInt8) : LtIn w (textL s) := by simp [LtIn, LsIn]
theorem freshL_in (w : World) (u n : Int) : LtIn w (freshL u n) := by simp [LtIn, LsIn]
end Go.Wk
namespace Go.Wk
/-- an element of a list of terms, as it lies in memory. -/
theorem ls_kid {M : Nat → Prop} {w : World} {p : Option Addr} {xs : List LTerm} (h : Stable M w (LsF p 0 xs)) {k : Nat} (hk : k < xs.length) : ∃ x ad, xs[k]? = some x ∧ x ∈ xs ∧ xs.drop k = x :: xs.drop (k + 1) ∧ p = some ad ∧ (∀ j v, x.cells[j]? = some v → w.cell? ((ad.add (k * 5)).add j) = some v) ∧ Stable M w (LtF x) := by
  have hx : xs[k]? = some xs[k] := List.getElem?_eq_getElem hk
  obtain ⟨ad, hp, hc⟩ := (h.now.get hx).1
  refine ⟨_, ad, hx, List.getElem_mem hk, List.drop_eq_getElem_cons hk, hp, fun j v hj => ?_, h.imp fun w' hw' => (LsIn.get hw' hx).2⟩
  rw [add_add]
  simpa using hc j v hj
theorem ls_of_lt {M : Nat → Prop} {w : World} {t : LTerm} (h : Stable M w (LtF t)) : Stable M w (LsF t.p 0 t.kids) := h.imp fun _ hw => (LtIn.iff.1 hw).2.2
end Go.Wk
namespace Go.Wk
/-- a value that is a term, its memory left alone but for M. -/
def IsT (M : Nat → Prop) (w : World) (v : Value) (T : Term) : Prop := ∃ r : LTerm, v = vL r ∧ r.t = T ∧ Stable M w (LtF r)
theorem IsT.mk' {M : Nat → Prop} {w : World} (r : LTerm) (h : Stable M w (LtF r)) : IsT M w (vL r) r.t := ⟨r, rfl, rfl, h⟩
class DropBs (bs : List Item) (ids : List Nat) (bs0 : outParam (List Item)) : Prop where sub : bs0.Sublist bs
instance dropbs0 {bs : List Item} : DropBs bs [] bs := ⟨.refl _⟩
class DropB (bs : List Item) (b : Nat) (bs0 : outParam (List Item)) : Prop where sub : bs0.Sublist bs
instance dropb0 {b : Nat} {t : TypeId} {cs : List Value} {bs : List Item} : DropB (box b t cs :: bs) b bs := ⟨.cons _ (.refl _)⟩
instance (priority := 900) dropb1 {b : Nat} {x : Item} {bs bs0 : List Item} [h : DropB bs b bs0] : DropB (x :: bs) b (x :: bs0) := ⟨.cons_cons _ h.sub⟩
instance dropbsS {b : Nat} {ids : List Nat} {bs bs1 bs0 : List Item} [h : DropB bs b bs1] [h' : DropBs bs1 ids bs0] : DropBs bs (b :: ids) bs0 := ⟨h'.sub.trans h.sub⟩
section
variable {P : Program} {r : Option Nat} {Q : Exit → Act → World → Prop} {w0 : World} {M0 : Nat → Prop} {ds : List Deferred} {a : Act} {w : World} {l : List Value} {bs bs0 : List Item} {fs : List (World → Prop)}
/-- a region that draws its order, and writes into the boxes 'ids' at its end. -/
theorem c_drawD {id : Nat} {lo : List Oper} (ord : List (Nat × Bool)) (ids : List Nat) [DropBs bs ids bs0] (S : St w0 M0 ds a w l bs fs) (h : ∀ w, St w0 M0 ds a w l bs fs → AQ P lo.toArray (fun w => Wd w0 M0 w bs0 fs) (fun a w => Q .normal a w) ord a w)
    (hm : P.follows .mixedOrders = true := by kernel_rfl) (hd : ((lo.all fun o => !isDefer o.op) && (Nat.beq ord.length lo.length && (Region.noSelect lo.toArray && flowFrom lo.toArray ord (Array.replicate lo.length false)))) = true := by kernel_rfl) : Wp P r (.region id lo.toArray true) Q a w := by
  simp only [Bool.and_eq_true] at hd
  refine wpIn_region_any hm (any_of_ac (C := fun w => Wd w0 M0 w bs0 fs) (fun i o ho => ?_) _ _ _ _ ?_)
  · have := List.all_eq_true.1 hd.1 o (by
      rw [List.getElem?_toArray] at ho
      exact List.mem_of_getElem? ho)
    simpa using this
  · have := h { w with drawn := w.drawn + 1 } ⟨S.slots, S.defers, S.wd.step (Agree.drawn _ w _)⟩ _ hd.2.2.1 hd.2.2.2
    rw [Nat.eq_of_beq_eq_true hd.2.1] at this
    simpa using this
end
end Go.Wk
namespace Go.Wk
abbrev zeroL : LTerm := .mk 0 0 0 [] none 0 []
def zeroT : Term := .mk 0 0 0 [] []
theorem zeroL_in (w : World) : LtIn w zeroL := by simp [LtIn, LsIn]
/-- a pair of results: a term, and an error. -/
def TE (M : Nat → Prop) (w : World) (v : Value) (T : Term) (e : Int) : Prop := ∃ r : LTerm, v = .tuple ⟨[vL r, .int .i64 e]⟩ ∧ r.t = T ∧ Stable M w (LtF r)
def iter (D : Term → Term) : Nat → Term → Term
  | 0, t => t
  | n + 1, t => D (iter D n t)
end Go.Wk

namespace Go.Wk
open Go

/-! elements of lists of terms, by instances -/
class KLt (k n : Nat) : Prop where lt : k < n
class IsNat (m : Int) (k : outParam Nat) : Prop where eq : m = (k : Int)
instance isnat1 {k : Nat} : IsNat (k : Int) k := ⟨rfl⟩
instance isnat2 {n : Nat} : IsNat (OfNat.ofNat n) n := ⟨rfl⟩
def nthL (xs : List LTerm) (k : Nat) : LTerm := xs.getD k zeroL
def elAddr (p : Option Addr) (k : Nat) : Addr := (p.getD ⟨0, 0, none⟩).add (k * 5)
/-- the facts say that a list of terms lies at p. -/
class HasLs (fs : List (World → Prop)) (p : Option Addr) (xs : outParam (List LTerm)) : Prop where
  of : ∀ (M : Nat → Prop) (w : World), (∀ Φ ∈ fs, Stable M w Φ) → Stable M w (LsF p 0 xs)
instance hasls0 {fs : List (World → Prop)} {p : Option Addr} {xs : List LTerm} : HasLs (LsF p 0 xs :: fs) p xs := ⟨fun _ _ h => h _ (by simp)⟩
instance hasls1 {fs : List (World → Prop)} {t : LTerm} : HasLs (LtF t :: fs) t.p t.kids := ⟨fun _ _ h => ls_of_lt (h _ (by simp))⟩
instance (priority := 900) haslsS {fs : List (World → Prop)} {Φ : World → Prop} {p : Option Addr} {xs : List LTerm} [h : HasLs fs p xs] : HasLs (Φ :: fs) p xs := ⟨fun M w hf => h.of M w fun Ψ hΨ => hf Ψ (by simp [hΨ])⟩
/-- likewise, asked for by the list. -/
class HasLx (fs : List (World → Prop)) (xs : List LTerm) : Prop where
  of : ∀ (M : Nat → Prop) (w : World), (∀ Φ ∈ fs, Stable M w Φ) → ∃ p, Stable M w (LsF p 0 xs)
instance haslx0 {fs : List (World → Prop)} {p : Option Addr} {xs : List LTerm} : HasLx (LsF p 0 xs :: fs) xs := ⟨fun _ _ h => ⟨p, h _ (by simp)⟩⟩
instance haslx1 {fs : List (World → Prop)} {t : LTerm} : HasLx (LtF t :: fs) t.kids := ⟨fun _ _ h => ⟨t.p, ls_of_lt (h _ (by simp))⟩⟩
instance (priority := 900) haslxS {fs : List (World → Prop)} {Φ : World → Prop} {xs : List LTerm} [h : HasLx fs xs] : HasLx (Φ :: fs) xs := ⟨fun M w hf => h.of M w fun Ψ hΨ => hf Ψ (by simp [hΨ])⟩
/-- the facts say that a term lies where it says. -/
class HasT (fs : List (World → Prop)) (t : LTerm) : Prop where
  of : ∀ (M : Nat → Prop) (w : World), (∀ Φ ∈ fs, Stable M w Φ) → Stable M w (LtF t)
instance hast0 {fs : List (World → Prop)} {t : LTerm} [h : HasFact fs (LtF t)] : HasT fs t := ⟨fun _ _ hf => hf _ h.mem⟩
theorem nth_get {xs : List LTerm} {k : Nat} (h : k < xs.length) : xs[k]? = some (nthL xs k) := by
  simp [nthL, h]
theorem nth_mem {xs : List LTerm} {k : Nat} (h : k < xs.length) : nthL xs k ∈ xs := List.mem_of_getElem? (nth_get h)
theorem nth_drop {xs : List LTerm} {k : Nat} (h : k < xs.length) : xs.drop k = nthL xs k :: xs.drop (k + 1) := by
  rw [List.drop_eq_getElem_cons h]
  congr 1
  simp [nthL, h]
instance (priority := 900) hast1 {fs : List (World → Prop)} {xs : List LTerm} {k : Nat} [h : HasLx fs xs] [hk : KLt k xs.length] : HasT fs (nthL xs k) := ⟨fun M w hf => by
  obtain ⟨p, hp⟩ := h.of M w hf
  exact hp.imp fun w' hw' => (LsIn.get hw' (nth_get hk.lt)).2⟩
instance (priority := 800) hastText {fs : List (World → Prop)} {s : List UInt8} : HasT fs (textL s) := ⟨fun _ _ _ w _ => textL_in w s⟩
instance (priority := 800) hastFresh {fs : List (World → Prop)} {u n : Int} : HasT fs (freshL u n) := ⟨fun _ _ _ w _ => freshL_in w u n⟩
instance (priority := 800) hastZero {fs : List (World → Prop)} : HasT fs zeroL := ⟨fun _ _ _ w _ => zeroL_in w⟩
theorem St.t {w0 M0 ds a w l bs fs} (S : St w0 M0 ds a w l bs fs) (t : LTerm) [h : HasT fs t] : Stable (foots bs) w (LtF t) := h.of _ _ S.wd.facts
theorem St.t0 {w0 M0 ds a w l bs fs} (S : St w0 M0 ds a w l bs fs) (t : LTerm) [h : HasT fs t] : Stable (fun _ => False) w (LtF t) := (S.t t).less fun _ _ h => h.elim
theorem Mem.t {w bs fs} (m : Mem w bs fs) (t : LTerm) [h : HasT fs t] : Stable (foots bs) w (LtF t) := h.of _ _ m.facts
theorem Mem.t0 {w bs fs} (m : Mem w bs fs) (t : LTerm) [h : HasT fs t] : Stable (fun _ => False) w (LtF t) := (m.t t).less fun _ _ h => h.elim
theorem St.laterT {w0 M0 ds a w l bs fs} (S : St w0 M0 ds a w l bs fs) {M : Nat → Prop} [he : HasExt bs M] (t : LTerm) [h : HasT fs t] : Stable M w (LtF t) := (S.t t).less fun _ _ hk => ⟨_, he.mem, hk⟩

theorem ls_addr {w : World} {p : Option Addr} {xs : List LTerm} (h : LsIn w p 0 xs) {k : Nat} (hk : k < xs.length) : p = some (p.getD ⟨0, 0, none⟩) ∧ ∀ j v, (nthL xs k).cells[j]? = some v → w.cell? ((elAddr p k).add j) = some v := by
  obtain ⟨ad, rfl, hc⟩ := (h.get (nth_get hk)).1
  refine ⟨rfl, fun j v hj => ?_⟩
  simp only [elAddr, Option.getD_some, add_add]
  simpa using hc j v hj
instance (priority := 900) opIdxT {P : Program} {t ty : TypeId} {e : TypeId} {z : Value} {by_ : Nat} {l : Cx} {bs : List Item} {fs : List (World → Prop)} {x y : Operand} {p : Option Addr} {n c k : Nat} {kk : IntKind} {m : Int} {xs : List LTerm} [Ev l x (.slice p n c)] [Ev l y (.int kk m)] [Und P t (.slice e)] [TI P e z 5 by_] [hm : IsNat m k] [hl : HasLs fs p xs] [hk : KLt k n] [hk' : KLt k xs.length] :
    OpQ P (.indexAddr t x y) ty l bs fs (.pointer (some (elAddr p k))) := ⟨fun ρ w h mm => by
  have h1 := (ls_addr (hl.of _ _ mm.facts).now hk'.lt).1
  have h2 := hm.eq
  subst h2
  rw [h1]
  have hlt := hk.lt
  simp [xop, execOp, h.ev (x := x) (v := .slice p n c), h.ev (x := y) (v := .int kk (k : Int))]
  rw [h1]
  simp [run_indexAt (P := P) (t := t) (e := e) (z := z) (sz := 5) (by_ := by_) (Int.natCast_nonneg k) (Int.ofNat_lt.2 hlt), elAddr]⟩
instance (priority := 900) opLoadT {P : Program} {t ty : TypeId} {z : Value} {by_ : Nat} {l : Cx} {bs : List Item} {fs : List (World → Prop)} {x : Operand} {p : Option Addr} {k : Nat} {xs : List LTerm} [Ev l x (.pointer (some (elAddr p k)))] [ha : AggT P t true] [TI P t z 5 by_] [hl : HasLs fs p xs] [hk : KLt k xs.length] :
    OpQ P (.load t x) ty l bs fs (vL (nthL xs k)) := ⟨fun ρ w h mm => by
  have h1 := (ls_addr (hl.of _ _ mm.facts).now hk.lt).2
  have hlc := run_loadCells_list (P := P) w (elAddr p k) (nthL xs k).cells h1
  have hlen : (nthL xs k).cells.length = 5 := rfl
  rw [hlen] at hlc
  simp [xop, execOp, Instr.loadAt, h.ev (x := x) (v := .pointer (some (elAddr p k))), Instr.sureAddr, loadVar, Sem.run_bind, ha.run, run_size, hlc]⟩
end Go.Wk

namespace Go.Wk
open Go
instance (priority := 1200) condsT : Conds (.bool true) true [] := ⟨by simp⟩
instance (priority := 1200) condsF : Conds (.bool false) false [] := ⟨by simp⟩
instance : NZ 2 := ⟨by decide⟩
instance : NZ 3 := ⟨by decide⟩
instance : NZ 4 := ⟨by decide⟩
instance : NZ 5 := ⟨by decide⟩
instance : NZ 6 := ⟨by decide⟩
instance : NZ 7 := ⟨by decide⟩
instance : NZ 8 := ⟨by decide⟩
instance : NZ 9 := ⟨by decide⟩
instance : NZ 10 := ⟨by decide⟩
instance : NZ 12 := ⟨by decide⟩
instance : NZ 16 := ⟨by decide⟩
instance : NZ 20 := ⟨by decide⟩
instance : NZ 30 := ⟨by decide⟩
instance : NZ 32 := ⟨by decide⟩
instance : NZ 40 := ⟨by decide⟩
instance : NZ 64 := ⟨by decide⟩
instance : NZ 100 := ⟨by decide⟩
instance : NZ 128 := ⟨by decide⟩
instance : NZ 200 := ⟨by decide⟩
instance : NZ 255 := ⟨by decide⟩
instance : NZ 256 := ⟨by decide⟩
instance : NZ 500 := ⟨by decide⟩
instance : NZ 512 := ⟨by decide⟩
instance : NZ 600 := ⟨by decide⟩
instance : NZ 1000 := ⟨by decide⟩
instance : NZ 1024 := ⟨by decide⟩
instance : NZ 4096 := ⟨by decide⟩
instance : NZ 65535 := ⟨by decide⟩
instance : NZ 65536 := ⟨by decide⟩
section
variable {P : Program} {l : Cx} {bs : List Item} {fs : List (World → Prop)} {x y : Operand} {k : IntKind} {m n : Int} {ty t t' : TypeId}
instance opMax [Ev l x (.int k m)] [Ev l y (.int k n)] : OpQ P (.call { callee := .builtin .max, args := #[x, y], argTypes := #[t, t'] }) ty l bs fs (.int k (max m n)) := ⟨fun ρ w h _ => by
  simp [xop, execOp, resolve, invoke, builtin, Builtin.max_, Builtin.max2, h.ev (x := x) (v := .int k m), h.ev (x := y) (v := .int k n), Sem.run_bind]; split <;> omega⟩
instance opMin [Ev l x (.int k m)] [Ev l y (.int k n)] : OpQ P (.call { callee := .builtin .min, args := #[x, y], argTypes := #[t, t'] }) ty l bs fs (.int k (min m n)) := ⟨fun ρ w h _ => by
  simp [xop, execOp, resolve, invoke, builtin, Builtin.min_, Builtin.min2, h.ev (x := x) (v := .int k m), h.ev (x := y) (v := .int k n), Sem.run_bind]; split <;> omega⟩
variable {p q : Bool}
theorem run_equal {u : Value} {v : Value} {d : TypeDesc} [hu : Und P t d] (w : World) {b : Bool} (h : (match d, u, v with
    | .bool, .bool a, .bool b => some (a == b)
    | .slice _, .slice none _ _, .slice b _ _ => some b.isNone
    | .slice _, .slice (some _) _ _, .slice none _ _ => some false
    | .map _ _, .map none, .map b => some b.isNone
    | .map _ _, .map (some _), .map none => some false
    | .func _ _ _, .nilFunc, .nilFunc => some true
    | .func _ _ _, .nilFunc, .func _ _ _ | .func _ _ _, .func _ _ _, .nilFunc => some false
    | .pointer _, .pointer none, .pointer b => some b.isNone
    | .pointer _, .pointer (some _), .pointer none => some false
    | _, _, _ => none) = some b) : (Op.equal t u v).run P w = .ok b w := by
  show (Op.equalIn (9999 + 1) t u v).run P w = .ok b w
  rw [Op.equalIn]
  simp only [Sem.run_bind, run_und, Result.andThen_ok]
  split at h <;> first | (simp at h; done) | (simp only [Option.some.injEq] at h; subst h; rfl)
instance opBEql [Ev l x (.bool p)] [Ev l y (.bool q)] [Und P t .bool] : OpQ P (.binOp .eql t x y t') ty l bs fs (.bool (decide (p = q))) := ⟨fun ρ w h _ => by
  simp [xop, execOp, h.ev (x := x) (v := .bool p), h.ev (x := y) (v := .bool q), eqGuard, binOp, Sem.run_bind, run_equal (P := P) (t := t) (u := .bool p) (v := .bool q) (d := .bool) (b := decide (p = q)) w (by cases p <;> cases q <;> rfl)]⟩
instance opBNeq [Ev l x (.bool p)] [Ev l y (.bool q)] [Und P t .bool] : OpQ P (.binOp .neq t x y t') ty l bs fs (.bool (!decide (p = q))) := ⟨fun ρ w h _ => by
  simp [xop, execOp, h.ev (x := x) (v := .bool p), h.ev (x := y) (v := .bool q), eqGuard, binOp, Sem.run_bind, run_equal (P := P) (t := t) (u := .bool p) (v := .bool q) (d := .bool) (b := decide (p = q)) w (by cases p <;> cases q <;> rfl)]⟩
variable {a : Option Addr} {j c : Nat} {e : TypeId}
instance opSlNil [Ev l x (.slice a j c)] [Ev l y (.slice none 0 0)] [Und P t (.slice e)] : OpQ P (.binOp .eql t x y t') ty l bs fs (.bool a.isNone) := ⟨fun ρ w h _ => by
  simp [xop, execOp, h.ev (x := x) (v := .slice a j c), h.ev (x := y) (v := .slice none 0 0), eqGuard, binOp, Sem.run_bind, run_equal (P := P) (t := t) (u := .slice a j c) (v := .slice none 0 0) (d := .slice e) (b := a.isNone) w (by cases a <;> rfl)]⟩
instance opSlNNil [Ev l x (.slice a j c)] [Ev l y (.slice none 0 0)] [Und P t (.slice e)] : OpQ P (.binOp .neq t x y t') ty l bs fs (.bool (!a.isNone)) := ⟨fun ρ w h _ => by
  simp [xop, execOp, h.ev (x := x) (v := .slice a j c), h.ev (x := y) (v := .slice none 0 0), eqGuard, binOp, Sem.run_bind, run_equal (P := P) (t := t) (u := .slice a j c) (v := .slice none 0 0) (d := .slice e) (b := a.isNone) w (by cases a <;> rfl)]⟩
end
end Go.Wk
