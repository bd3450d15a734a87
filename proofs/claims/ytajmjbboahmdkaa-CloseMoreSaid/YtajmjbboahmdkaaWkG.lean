import Derived.Test.YtajmjbboahmdkaaWkF
namespace Go.Wk
open Go

/-- a text as bytes. -/
abbrev str (s : List UInt8) : Value := .string ⟨s.toArray⟩
def iand (k : IntKind) (x y : Int) : Int := k.wrap (BitVec.ofInt k.bits x &&& BitVec.ofInt k.bits y).toNat
def ior (k : IntKind) (x y : Int) : Int := k.wrap (BitVec.ofInt k.bits x ||| BitVec.ofInt k.bits y).toNat
def ixor (k : IntKind) (x y : Int) : Int := k.wrap (BitVec.ofInt k.bits x ^^^ BitVec.ofInt k.bits y).toNat

section ints
variable {P : Program} {ty : TypeId} {l : Cx} {bs : List Item} {fs : List (World → Prop)} {x y : Operand} {t t' : TypeId} {k k' : IntKind} {m n : Int} {s u : List UInt8}
instance opAnd [Ev l x (.int k m)] [Ev l y (.int k n)] : OpQ P (.binOp .and t x y t') ty l bs fs (.int k (iand k m n)) := ⟨fun ρ w h _ => by
  simp [xop, execOp, h.ev (x := x) (v := .int k m), h.ev (x := y) (v := .int k n), eqGuard, binOp, Op.intBits, iand]⟩
instance opOr [Ev l x (.int k m)] [Ev l y (.int k n)] : OpQ P (.binOp .or t x y t') ty l bs fs (.int k (ior k m n)) := ⟨fun ρ w h _ => by
  simp [xop, execOp, h.ev (x := x) (v := .int k m), h.ev (x := y) (v := .int k n), eqGuard, binOp, Op.intBits, ior]⟩
instance opXor [Ev l x (.int k m)] [Ev l y (.int k n)] : OpQ P (.binOp .xor t x y t') ty l bs fs (.int k (ixor k m n)) := ⟨fun ρ w h _ => by
  simp [xop, execOp, h.ev (x := x) (v := .int k m), h.ev (x := y) (v := .int k n), eqGuard, binOp, Op.intBits, ixor]⟩
class NZ (n : Int) : Prop where ne : n ≠ 0
instance {n : Nat} [h : NeZero n] : NZ (OfNat.ofNat n) := ⟨by
  intro e; have := h.ne; exact this (by have e2 : Int.ofNat n = Int.ofNat 0 := e; exact Int.ofNat.inj e2)⟩
instance opQuo [Ev l x (.int k m)] [Ev l y (.int k n)] [hz : NZ n] : OpQ P (.binOp .quo t x y t') ty l bs fs (.int k (k.wrap (m.tdiv n))) := ⟨fun ρ w h _ => by
  simp [xop, execOp, h.ev (x := x) (v := .int k m), h.ev (x := y) (v := .int k n), eqGuard, binOp, Op.intDiv, hz.ne]⟩
instance opRem [Ev l x (.int k m)] [Ev l y (.int k n)] [hz : NZ n] : OpQ P (.binOp .rem t x y t') ty l bs fs (.int k (m.tmod n)) := ⟨fun ρ w h _ => by
  simp [xop, execOp, h.ev (x := x) (v := .int k m), h.ev (x := y) (v := .int k n), eqGuard, binOp, Op.intDiv, hz.ne]⟩
instance opConvI {k0 : IntKind} [Ev l x (.int k m)] [Und P t (.int k0)] [Und P t' (.int k')] : OpQ P (.convert t t' x) ty l bs fs (.int k' (k'.wrap m)) := ⟨fun ρ w h _ => by
  simp [xop, execOp, h.ev (x := x) (v := .int k m), convert, Sem.run_bind, run_und, Conv.intToInt]⟩
instance opSEql [Ev l x (str s)] [Ev l y (str u)] : OpQ P (.binOp .eql t x y t') ty l bs fs (.bool (decide (s = u))) := ⟨fun ρ w h _ => by
  simp [xop, execOp, h.ev (x := x) (v := str s), h.ev (x := y) (v := str u), eqGuard, binOp, Op.stringOp]; rw [Bool.eq_iff_iff]; simp⟩
instance opSNeq [Ev l x (str s)] [Ev l y (str u)] : OpQ P (.binOp .neq t x y t') ty l bs fs (.bool (!decide (s = u))) := ⟨fun ρ w h _ => by
  simp [xop, execOp, h.ev (x := x) (v := str s), h.ev (x := y) (v := str u), eqGuard, binOp, Op.stringOp]; rw [Bool.eq_iff_iff]; simp⟩
instance opLenS [Ev l x (str s)] [Und P t .string] : OpQ P (.call { callee := .builtin .len, args := #[x], argTypes := #[t] }) ty l bs fs (.int .i64 s.length) := ⟨fun ρ w h _ => by
  simp [xop, execOp, resolve, invoke, builtin, Builtin.len_, h.ev (x := x) (v := str s), Sem.run_bind, run_und, goInt]; rfl⟩
instance opLenSl {p : Option Addr} {a c : Nat} {e : TypeId} [Ev l x (.slice p a c)] [Und P t (.slice e)] : OpQ P (.call { callee := .builtin .len, args := #[x], argTypes := #[t] }) ty l bs fs (.int .i64 a) := ⟨fun ρ w h _ => by
  simp [xop, execOp, resolve, invoke, builtin, Builtin.len_, h.ev (x := x) (v := .slice p a c), Sem.run_bind, run_und, goInt]⟩
end ints
end Go.Wk
