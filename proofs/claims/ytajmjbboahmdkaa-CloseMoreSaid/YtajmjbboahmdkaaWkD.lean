import Derived.Test.YtajmjbboahmdkaaWkC
import Derived.Shelf.Abstract
namespace Go.Wk
open Go

class EntF (P : Program) (f : Nat) : Prop where run : Go.Proofs.Enters P f
/-- a call that hands back one known value, and leaves what lay there. -/
class CallV (P : Program) (f : Nat) (args : List Value) (bs : List Item) (fs : List (World → Prop)) (v : outParam Value) : Prop where
  run : ∀ w, Mem w bs fs → Ret P f args w (fun _ => False) (fun u _ => u = v)

theorem run_call {P : Program} {ρ : Operand → Value} {f : Nat} {xs : List Operand} {l : Cx} {vs : List Value} {ts : Array TypeId} {ty : TypeId} [he : EntF P f] [EvL l xs vs] (h : Fr ρ l) (w : World) :
    (xop ρ (.call { callee := .value (.func f), args := xs.toArray, argTypes := ts }) ty).run P w = .ok (.enter f vs.toArray) w := by
  have e := h.evl (xs := xs) (vs := vs)
  have hf : ρ (.func f) = .func (.func f) #[] #[] := h.ev
  have := he.run vs.toArray w
  simp [xop, execOp, resolve, hf, Deferred.ofValue, invoke, e, this]

instance opExtract {P ty l bs fs x i vs v} [Ev l x (.tuple ⟨vs⟩)] [hn : Nth vs i v] : OpQ P (.extract x i) ty l bs fs v := ⟨fun ρ w h _ => by
  have := hn.eq
  simp [xop, execOp, h.ev (x := x) (v := .tuple ⟨vs⟩), Instr.extract, this]⟩

section
variable {P : Program} {r : Option Nat} {ops : Array Oper} {Q : Exit → Act → World → Prop} {w0 : World} {M0 : Nat → Prop} {ds : List Deferred} {a : Act} {w : World} {l l' : List Value} {bs bs' : List Item} {fs : List (World → Prop)}
  {d : Option Nat} {op : Op} {ty : TypeId} {pos : String} {af : Array Edge} {rest : List Oper} {v : Value} {f : Nat} {xs : List Operand} {args : List Value} {ts : Array TypeId}

theorem Wd.touch {pre post : List Item} {b : Nat} {t : TypeId} {cs cs' : List Value} {w' : World} (h : Wd w0 M0 w (pre ++ box b t cs :: post) fs) (ha : Agree (fun k => k = b) w w') (hb' : w'.heap[b]? = some (.cells cs'.toArray t (0, 0))) :
    Wd w0 M0 w' (pre ++ box b t cs' :: post) fs := by
  have hm : box b t cs ∈ pre ++ box b t cs :: post := by simp
  have h1 := h.store (cs' := cs')
  have hb : w.heap[b]? = some (.cells cs.toArray t (0, 0)) := h.held _ hm
  have hsz : (w.setRow b cs'.toArray).heap.size = w.heap.size := by simp [World.setRow]
  refine h1.step ⟨ha.1, ha.2.1, ha.2.2.1, by rw [hsz]; exact ha.size, fun k hk _ => ?_⟩
  rw [hsz] at hk
  by_cases e : k = b
  · subst e
    rw [hb', setRow_heap w k cs.toArray _ t _ hb]
  · rw [ha.blk hk e]
    simp [World.setRow, Array.getElem?_modify, Ne.symm e]
theorem least {p : Nat → Prop} : ∀ n, p n → ∃ m, p m ∧ ∀ k, p k → m ≤ k := by
  intro n
  induction n using Nat.strongRecOn with
  | _ n ih =>
    intro hn
    by_cases h : ∃ k, k < n ∧ p k
    · obtain ⟨k, hk, hp⟩ := h; exact ih k hk hp
    · exact ⟨n, hn, fun k hk => Nat.le_of_not_lt fun hlt => h ⟨k, hlt, hk⟩⟩

theorem c_loop {c : Code} {ι : Type} (I : ι → Act → World → Prop) (μ : ι → Nat) (i : ι) (h0 : I i a w)
    (hr : ∀ i a w, I i a w → Wp P r c (Exit.then (fun a' w' => ∃ j, I j a' w' ∧ μ j < μ i) Q) a w) : Wp P r (.loop c) Q a w := by
  let p : Act → World → Nat → Prop := fun a w n => ∃ i, I i a w ∧ μ i = n
  have hmin : ∀ a w, (∃ i, I i a w) → ∃ m, p a w m ∧ ∀ k, p a w k → m ≤ k := fun a w ⟨i, hi⟩ => least (μ i) ⟨i, hi, rfl⟩
  let m : Act → World → Nat := fun a w => open Classical in if h : ∃ i, I i a w then Classical.choose (hmin a w h) else 0
  have hm : ∀ a w (h : ∃ i, I i a w), p a w (m a w) ∧ ∀ k, p a w k → m a w ≤ k := fun a w h => by
    have e : m a w = Classical.choose (hmin a w h) := by simp only [m]; rw [dif_pos h]
    rw [e]; exact Classical.choose_spec (hmin a w h)
  refine wpIn_loop (fun a w => ∃ i, I i a w) m ⟨i, h0⟩ fun a w h => ?_
  obtain ⟨⟨i, hi, hmi⟩, _⟩ := hm a w h
  refine wpIn_mono (hr i a w hi) fun e a' w' hq => ?_
  cases e <;> first | exact hq | skip
  obtain ⟨j, hj, hlt⟩ := hq
  exact ⟨⟨j, hj⟩, by have := (hm a' w' ⟨j, hj⟩).2 (μ j) ⟨j, hj, rfl⟩; omega⟩
end
end Go.Wk
namespace Go.Wk
open Go
theorem aggT_of {P : Program} {t : TypeId} {b : Bool} (h : (P.underlying t).map (fun d => match d with | .struct _ | .array _ _ => true | _ => false) = some b) : AggT P t b := ⟨fun w => by
  cases hu : P.underlying t with
  | none => simp [hu] at h
  | some d => simp [hu] at h; subst h; cases d <;> simp [isAgg, run_underlying hu, Sem.run_bind]⟩
theorem fld_of {P : Program} {s f off ft : Nat} (h : ((P.underlying s).bind fun d => match d with | .struct fs => (fs[f]?).map (fun F => (F.offset, F.type, ((P.info? F.type).map (fun i => decide (i.size = 0))))) | _ => none) = some (off, ft, some false)) : Fld P s f off ft := by
  cases hu : P.underlying s with
  | none => simp [hu] at h
  | some d =>
    simp only [hu, Option.bind_some] at h
    cases d <;> simp only [reduceCtorEq] at h
    rename_i fs
    cases hf : fs[f]? with
    | none => simp [hf] at h
    | some F => simp [hf] at h; exact ⟨fs, F, hu, hf, h.1, h.2.1, by obtain ⟨rfl, rfl, x, hx, hx'⟩ := h; simp [hx]; simpa using hx'⟩
end Go.Wk
