import Derived.Test.YtajmjbboahmdkaaWkK
namespace Go.Wk
open Go
instance (priority := 1200) condsT : Conds (.bool true) true [] := ⟨by simp⟩
instance (priority := 1200) condsF : Conds (.bool false) false [] := ⟨by simp⟩
instance : NZ 2 := ⟨by decide⟩
instance : NZ 3 := ⟨by decide⟩
instance : NZ 4 := ⟨by decide⟩
instance : NZ 5 := ⟨by decide⟩
instance : NZ 6 := ⟨by decide⟩
instance : NZ 7 := ⟨by decide⟩
instance : NZ 8 := ⟨by decide⟩
instance : NZ 9 := ⟨by decide⟩
instance : NZ 10 := ⟨by decide⟩
instance : NZ 12 := ⟨by decide⟩
instance : NZ 16 := ⟨by decide⟩
instance : NZ 20 := ⟨by decide⟩
instance : NZ 30 := ⟨by decide⟩
instance : NZ 32 := ⟨by decide⟩
instance : NZ 40 := ⟨by decide⟩
instance : NZ 64 := ⟨by decide⟩
instance : NZ 100 := ⟨by decide⟩
instance : NZ 128 := ⟨by decide⟩
instance : NZ 200 := ⟨by decide⟩
instance : NZ 255 := ⟨by decide⟩
instance : NZ 256 := ⟨by decide⟩
instance : NZ 500 := ⟨by decide⟩
instance : NZ 512 := ⟨by decide⟩
instance : NZ 600 := ⟨by decide⟩
instance : NZ 1000 := ⟨by decide⟩
instance : NZ 1024 := ⟨by decide⟩
instance : NZ 4096 := ⟨by decide⟩
instance : NZ 65535 := ⟨by decide⟩
instance : NZ 65536 := ⟨by decide⟩
section
variable {P : Program} {l : Cx} {bs : List Item} {fs : List (World → Prop)} {x y : Operand} {k : IntKind} {m n : Int} {ty t t' : TypeId}
instance opMax [Ev l x (.int k m)] [Ev l y (.int k n)] : OpQ P (.call { callee := .builtin .max, args := #[x, y], argTypes := #[t, t'] }) ty l bs fs (.int k (max m n)) := ⟨fun ρ w h _ => by
  simp [xop, execOp, resolve, invoke, builtin, Builtin.max_, Builtin.max2, h.ev (x := x) (v := .int k m), h.ev (x := y) (v := .int k n), Sem.run_bind]; split <;> omega⟩
instance opMin [Ev l x (.int k m)] [Ev l y (.int k n)] : OpQ P (.call { callee := .builtin .min, args := #[x, y], argTypes := #[t, t'] }) ty l bs fs (.int k (min m n)) := ⟨fun ρ w h _ => by
  simp [xop, execOp, resolve, invoke, builtin, Builtin.min_, Builtin.min2, h.ev (x := x) (v := .int k m), h.ev (x := y) (v := .int k n), Sem.run_bind]; split <;> omega⟩
variable {p q : Bool}
theorem run_equal {u : Value} {v : Value} {d : TypeDesc} [hu : Und P t d] (w : World) {b : Bool} (h : (match d, u, v with
    | .bool, .bool a, .bool b => some (a == b)
    | .slice _, .slice none _ _, .slice b _ _ => some b.isNone
    | .slice _, .slice (some _) _ _, .slice none _ _ => some false
    | .map _ _, .map none, .map b => some b.isNone
    | .map _ _, .map (some _), .map none => some false
    | .func _ _ _, .nilFunc, .nilFunc => some true
    | .func _ _ _, .nilFunc, .func _ _ _ | .func _ _ _, .func _ _ _, .nilFunc => some false
    | .pointer _, .pointer none, .pointer b => some b.isNone
    | .pointer _, .pointer (some _), .pointer none => some false
    | _, _, _ => none) = some b) : (Op.equal t u v).run P w = .ok b w := by
  show (Op.equalIn (9999 + 1) t u v).run P w = .ok b w
  rw [Op.equalIn]
  simp only [Sem.run_bind, run_und, Result.andThen_ok]
  split at h <;> first | (simp at h; done) | (simp only [Option.some.injEq] at h; subst h; rfl)
instance opBEql [Ev l x (.bool p)] [Ev l y (.bool q)] [Und P t .bool] : OpQ P (.binOp .eql t x y t') ty l bs fs (.bool (decide (p = q))) := ⟨fun ρ w h _ => by
  simp [xop, execOp, h.ev (x := x) (v := .bool p), h.ev (x := y) (v := .bool q), eqGuard, binOp, Sem.run_bind, run_equal (P := P) (t := t) (u := .bool p) (v := .bool q) (d := .bool) (b := decide (p = q)) w (by cases p <;> cases q <;> rfl)]⟩
instance opBNeq [Ev l x (.bool p)] [Ev l y (.bool q)] [Und P t .bool] : OpQ P (.binOp .neq t x y t') ty l bs fs (.bool (!decide (p = q))) := ⟨fun ρ w h _ => by
  simp [xop, execOp, h.ev (x := x) (v := .bool p), h.ev (x := y) (v := .bool q), eqGuard, binOp, Sem.run_bind, run_equal (P := P) (t := t) (u := .bool p) (v := .bool q) (d := .bool) (b := decide (p = q)) w (by cases p <;> cases q <;> rfl)]⟩
variable {a : Option Addr} {j c : Nat} {e : TypeId}
instance opSlNil [Ev l x (.slice a j c)] [Ev l y (.slice none 0 0)] [Und P t (.slice e)] : OpQ P (.binOp .eql t x y t') ty l bs fs (.bool a.isNone) := ⟨fun ρ w h _ => by
  simp [xop, execOp, h.ev (x := x) (v := .slice a j c), h.ev (x := y) (v := .slice none 0 0), eqGuard, binOp, Sem.run_bind, run_equal (P := P) (t := t) (u := .slice a j c) (v := .slice none 0 0) (d := .slice e) (b := a.isNone) w (by cases a <;> rfl)]⟩
instance opSlNNil [Ev l x (.slice a j c)] [Ev l y (.slice none 0 0)] [Und P t (.slice e)] : OpQ P (.binOp .neq t x y t') ty l bs fs (.bool (!a.isNone)) := ⟨fun ρ w h _ => by
  simp [xop, execOp, h.ev (x := x) (v := .slice a j c), h.ev (x := y) (v := .slice none 0 0), eqGuard, binOp, Sem.run_bind, run_equal (P := P) (t := t) (u := .slice a j c) (v := .slice none 0 0) (d := .slice e) (b := a.isNone) w (by cases a <;> rfl)]⟩
end
end Go.Wk
