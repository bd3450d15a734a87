import Derived.Test.YtajmjbboahmdkaaWkT
import Derived.Scope
namespace Go.Wk
open Go
section
variable {P : Program} {r : Option Nat} {ops : Array Oper} {Q : Exit → Act → World → Prop} {w0 : World} {M0 : Nat → Prop} {ds : List Deferred} {a : Act} {w : World} {l : List Value} {bs bs' : List Item} {fs fs0 : List (World → Prop)}
  {d : Option Nat} {op : Op} {ty : TypeId} {pos : String} {af : Array Edge} {rest : List Oper} {ts : Array TypeId}
/-- a call of yield. -/
theorem sy {x : Operand} {xs : List Operand} {L : Nat} {vs : List Value} {l' : Bool → List Value} {wI : World} {M : Nat → Prop} {J Jx : World → Prop} [hx : Ev ⟨[], l⟩ x (.func (.yield L) #[] #[])] [hv : EvL ⟨[], l⟩ xs vs] [hp : ∀ b : Bool, PutO l d (.bool b) (l' b)]
    (S : St w0 M0 ds a w l bs fs) (hF : ∀ Φ ∈ fs0, Stable M wI Φ)
    (hy : YieldAt (FW none) 0 P L vs.toArray w fun e W' => Agree M wI W' ∧ ((e = .returned (.bool true) ∧ J W') ∨ (e = .returned (.bool false) ∧ Jx W')))
    (K : ∀ (b : Bool) (N : Nat → Prop) a W, (b = true → J W) → (b = false → Jx W) → St W (fun _ => False) ds a W (l' b) [ext N] fs0 → WL P r ops Q rest a W) :
    WL P r ops Q (⟨d, .call { callee := .value x, args := xs.toArray, argTypes := ts }, ty, pos, af, none⟩ :: rest) a w := by
  refine wl_plain rfl ?_
  rw [semAt_nd rfl]
  obtain ⟨fn, tmps, assign, body, hrun, hround⟩ := hy
  have hf : a.eval x = .func (.yield L) #[] #[] := S.fr.ev
  have e := S.fr.evl (xs := xs) (vs := vs)
  have e1 : (xop a.eval (.call { callee := .value x, args := xs.toArray, argTypes := ts }) ty).run P w = .ok (.round L fn tmps assign body) w := by
    rw [← hrun]
    simp [xop, execOp, resolve, hf, Deferred.ofValue, invoke, e]
  simp only [e1, Oper.uponIn]
  refine ⟨fun h => (by cases h), RoundIn.mono hround ?_⟩
  have key : ∀ (b : Bool) (W : World), Agree M wI W → (b = true → J W) → (b = false → Jx W) → WL P r ops Q rest (a.put d (.bool b)) W := fun b W hag h1 h2 => by
    have := hp b
    have S' := S.put (d := d) (v := .bool b)
    refine K b (fun k => (M k ∨ wI.heap.size ≤ k) ∧ k < W.heap.size) _ W h1 h2 ⟨S'.slots, S'.defers, Wd.beginM (fun k hk => hk.2) fun Φ hΦ w'' hw'' => hF Φ hΦ w'' (hag.trans' hw'' fun i hi hk => ?_)⟩
    rcases hk.1 with h | h
    · exact h
    · omega
  rintro e W ⟨hag, ⟨rfl, hJ⟩ | ⟨rfl, hJ⟩⟩
  · exact key true W hag (fun _ => hJ) (fun h => by cases h)
  · exact key false W hag (fun h => by cases h) (fun _ => hJ)
/-- a slice cut out of a slice. -/
class EvB (l : Cx) (x : Option Operand) (dflt : Nat) (v : outParam Nat) : Prop where
  eq : (x = none ∧ v = dflt) ∨ ∃ o kk, x = some o ∧ Ev l o (.int kk (v : Int))
instance evb0 {l : Cx} {n : Nat} : EvB l none n n := ⟨.inl ⟨rfl, rfl⟩⟩
instance evb1 {l : Cx} {x : Operand} {n m : Nat} {kk : IntKind} {mi : Int} [h : Ev l x (.int kk mi)] [hm : IsNat mi m] : EvB l (some x) n m := ⟨.inr ⟨x, kk, rfl, by have := hm.eq; subst this; exact h⟩⟩
theorem run_sliceBound {P : Program} {kk : IntKind} {v y : Nat} (h : v ≤ y) (code : BoundsCode) (w : World) : (Instr.sliceBound (.int kk (v : Int)) y code).run P w = .ok v w := by
  simp [Instr.sliceBound, asIntOf, Sem.run_bind, h]
theorem ssl {x : Operand} {ol oh om : Option Operand} {t e : TypeId} {z : Value} {sz by_ n c lo hi mx : Nat} {p : Option Addr} {l' : List Value} (S : St w0 M0 ds a w l bs fs) [Ev ⟨[], l⟩ x (.slice p n c)] [hl : EvB ⟨[], l⟩ ol 0 lo] [hh : EvB ⟨[], l⟩ oh n hi] [hx : EvB ⟨[], l⟩ om c mx] [Und P t (.slice e)] [TI P e z sz by_]
    [hp : PutO l d (.slice (if mx = lo then p else p.map (·.add (lo * sz))) (hi - lo) (mx - lo)) l'] (h1 : mx ≤ c) (h2 : hi ≤ mx) (h3 : lo ≤ hi) (K : ∀ a, St w0 M0 ds a w l' bs fs → WL P r ops Q rest a w) (hxh : om.isSome = true → oh.isSome = true := by simp) :
    WL P r ops Q (⟨d, .slice t x ol oh om, ty, pos, af, none⟩ :: rest) a w := by
  refine sv (.slice (if mx = lo then p else p.map (·.add (lo * sz))) (hi - lo) (mx - lo)) S (fun hf => ?_) K
  have hsz := run_size (P := P) (t := e) (z := z) (s := sz) (b := by_) w
  have eX : a.eval x = .slice p n c := hf.ev
  have hb : (Instr.sliceBounds true n c (ol.map a.eval) (oh.map a.eval) (om.map a.eval)).run P w = .ok (lo, hi, mx) w := by
    rcases hx.eq with ⟨rfl, rfl⟩ | ⟨o, kk, rfl, h⟩
    · rcases hh.eq with ⟨rfl, rfl⟩ | ⟨o2, kk2, rfl, h'⟩
      · rcases hl.eq with ⟨rfl, rfl⟩ | ⟨o3, kk3, rfl, h''⟩
        · simp [Instr.sliceBounds]
        · have e3 := hf.ev (x := o3) (v := .int kk3 (lo : Int))
          simp [Instr.sliceBounds, Sem.run_bind, e3, run_sliceBound h3]
      · have e2 := hf.ev (x := o2) (v := .int kk2 (hi : Int))
        have h2' : hi ≤ mx := h2
        rcases hl.eq with ⟨rfl, rfl⟩ | ⟨o3, kk3, rfl, h''⟩
        · simp [Instr.sliceBounds, Sem.run_bind, e2, run_sliceBound h2']
        · have e3 := hf.ev (x := o3) (v := .int kk3 (lo : Int))
          simp [Instr.sliceBounds, Sem.run_bind, e2, e3, run_sliceBound h2', run_sliceBound h3]
    · have e1 := hf.ev (x := o) (v := .int kk (mx : Int))
      rcases hh.eq with ⟨rfl, rfl⟩ | ⟨o2, kk2, rfl, h'⟩
      · exact absurd (hxh rfl) (by simp)
      · have e2 := hf.ev (x := o2) (v := .int kk2 (hi : Int))
        rcases hl.eq with ⟨rfl, rfl⟩ | ⟨o3, kk3, rfl, h''⟩
        · simp [Instr.sliceBounds, Sem.run_bind, e1, e2, run_sliceBound h1, run_sliceBound h2]
        · have e3 := hf.ev (x := o3) (v := .int kk3 (lo : Int))
          simp [Instr.sliceBounds, Sem.run_bind, e1, e2, e3, run_sliceBound h1, run_sliceBound h2, run_sliceBound h3]
  have key : (Instr.slice t (.slice p n c) (ol.map a.eval) (oh.map a.eval) (om.map a.eval)).run P w = .ok (.slice (if mx = lo then p else p.map (·.add (lo * sz))) (hi - lo) (mx - lo)) w := by
    simp only [Instr.slice, Sem.run_bind, run_und, Result.andThen_ok, hb, hsz, Sem.run_pure]
  simp only [xop, execOp, Instr.sliceAt, eX, Sem.run_bind, run_und, Result.andThen_ok, Sem.run_pure]
  simp [key]
theorem LsIn.drop {w : World} {p : Option Addr} : ∀ {i : Nat} {ts : List LTerm} (k : Nat), LsIn w p i ts → LsIn w p (i + k) (ts.drop k)
  | i, ts, 0, h => h
  | i, [], k + 1, h => by simp [LsIn]
  | i, t :: ts, k + 1, h => by
    have := LsIn.drop (i := i + 1) k h.2.2
    rw [show i + 1 + k = i + (k + 1) from by omega] at this
    exact this
theorem LsIn.shift {w : World} {ad : Addr} : ∀ {i : Nat} {ts : List LTerm} (k : Nat), LsIn w (some ad) (k + i) ts → LsIn w (some (ad.add (k * 5))) i ts
  | i, [], k, h => by simp [LsIn]
  | i, t :: ts, k, h => by
    obtain ⟨⟨ad', he, hc⟩, ht, hr⟩ := h
    cases he
    refine ⟨⟨_, rfl, fun j v hj => ?_⟩, ht, LsIn.shift k hr⟩
    rw [add_add, show k * 5 + (i * 5 + j) = (k + i) * 5 + j from by omega]
    exact hc j v hj
/-- what is cut out of a row of terms. -/
theorem LsIn.cut {w : World} {p : Option Addr} {ts : List LTerm} {lo mx : Nat} (h : LsIn w p 0 ts) (hm : ts.length ≤ mx) : LsIn w (if mx = lo then p else p.map (·.add (lo * 5))) 0 (ts.drop lo) := by
  by_cases hd : ts.drop lo = []
  · rw [hd]; simp [LsIn]
  · have hlo : lo < ts.length := by
      rcases Nat.lt_or_ge lo ts.length with h | h
      · exact h
      · exact absurd (List.drop_of_length_le h) hd
    rw [if_neg (by omega)]
    cases p with
    | none =>
      cases ts with
      | nil => simp at hd
      | cons t ts => obtain ⟨⟨ad, h1, _⟩, _⟩ := h; cases h1
    | some ad =>
      have := LsIn.drop lo h
      rw [Nat.zero_add] at this
      exact LsIn.shift (i := 0) lo (by simpa using this)
/-! scopes that no goto goes through -/
theorem c_scope {c : Code} (h : Wp P r c (Exit.noGoto Q) a w) : Wp P r (.scope c) Q a w := by
  intro b k cs hro hb hr
  have h0 : (lone (b.atR a (.code (.scope c) :: k)) cs w).fenced P (FW r) := fenced_calm hb hr rfl
  have s1 : step P (lone (b.atR a (.code (.scope c) :: k)) cs w) = .next (lone (b.atR a (.code c :: .inScope c :: k)) cs w) := step_lone_go (by simp [stepG, stepG.exec, Frame.atR])
  have s2 : ∀ (a : Act) (w : World), step P (lone (b.atR a (.inScope c :: k)) cs w) = .next (lone (b.atR a k) cs w) := fun a w => step_lone_go (by simp [stepG, stepG.exec, Frame.atR])
  obtain ⟨e, a₁, w₁, hq, harr⟩ := h b (.inScope c :: k) cs hro hb hr
  cases e with
  | normal => exact ⟨.normal, a₁, w₁, hq, .head h0 s1 (StepsIn.trans harr (.one (fenced_calm hb hr rfl) (s2 _ _)))⟩
  | exit id =>
    have hx : exitTo id (.inScope c :: k) = exitTo id k := by simp [exitTo]
    exact ⟨.exit id, a₁, w₁, hq, fun k' hk => .head h0 s1 (harr.1 k' (by rw [hx]; exact hk)), fun hr' hk => let ⟨k₁, h1, h2⟩ := harr.2 hr' (by rw [hx]; exact hk); ⟨k₁, h1, .head h0 s1 h2⟩⟩
  | goto l => exact hq.elim
  | ret => exact ⟨_, a₁, w₁, hq, .of_steps (.one h0 s1) harr⟩
  | panic ch => exact ⟨_, a₁, w₁, hq, .of_steps (.one h0 s1) harr⟩
  | outgrown => exact ⟨_, a₁, w₁, hq, .of_steps (.one h0 s1) harr⟩
theorem xsn (h : Q .normal a w) : Exit.noGoto Q .normal a w := h
theorem xsr (h : Q .ret a w) : Exit.noGoto Q .ret a w := h
theorem xse {id : Nat} (h : Q (.exit id) a w) : Exit.noGoto Q (.exit id) a w := h
/-! what is one's own is lent to an iterator -/
def Item.ro (x : Item) : Item := { x with own := false }
theorem St.toRo {x : Item} (S : St w0 M0 ds a w l bs fs) [hr : ReplI bs x x.ro bs'] : St w0 M0 ds a w l bs' fs := by
  obtain ⟨pre, post, rfl, rfl⟩ := hr.ex
  have h := S.wd
  have key : ∀ it, it ∈ pre ++ x.ro :: post → ∃ y, y ∈ pre ++ x :: post ∧ y.foot = it.foot ∧ y.holds = it.holds ∧ (it.own = true → y.own = true) := fun it hi => by
    rcases List.mem_append.1 hi with hi | hi
    · exact ⟨it, by simp [hi], rfl, rfl, id⟩
    · rcases List.mem_cons.1 hi with rfl | hi
      · exact ⟨x, by simp, rfl, rfl, fun h => by cases h⟩
      · exact ⟨it, by simp [hi], rfl, rfl, id⟩
  have hfe : foots (pre ++ x.ro :: post) = foots (pre ++ x :: post) := foots_repl rfl
  refine ⟨S.slots, S.defers, h.agree, ?_, ?_, ?_, ?_, ?_, ?_⟩
  · intro it hi; obtain ⟨y, hy, _, h2, _⟩ := key it hi; rw [← h2]; exact h.held y hy
  · intro it hi k hk; obtain ⟨y, hy, h1, _, _⟩ := key it hi; exact h.lt y hy k (h1 ▸ hk)
  · intro it hi ho k hk; obtain ⟨y, hy, h1, _, h3⟩ := key it hi; exact h.own y hy (h3 ho) k (h1 ▸ hk)
  · have hap := List.pairwise_append.1 h.apart
    have hap2 := List.pairwise_cons.1 hap.2.1
    exact List.pairwise_append.2 ⟨hap.1, List.pairwise_cons.2 hap2, fun u hu y hy => by
      rcases List.mem_cons.1 hy with rfl | hy
      · exact hap.2.2 u hu x (by simp)
      · exact hap.2.2 u hu y (by simp [hy])⟩
  · intro Φ hΦ; rw [hfe]; exact h.facts Φ hΦ
  · intro it hi w1 w2 hk hh; obtain ⟨y, hy, h1, h2, _⟩ := key it hi; rw [← h2] at hh ⊢; exact h.loc y hy w1 w2 (fun k hk' => hk k (h1 ▸ hk')) hh
theorem St.unRo {x : Item} (S : St w0 M0 ds a w l bs fs) [hr : ReplI bs x.ro x bs'] (hown : ∀ k, x.foot k → M0 k ∨ w0.heap.size ≤ k) : St w0 M0 ds a w l bs' fs := by
  obtain ⟨pre, post, rfl, rfl⟩ := hr.ex
  have h := S.wd
  have key : ∀ it, it ∈ pre ++ x :: post → ∃ y, y ∈ pre ++ x.ro :: post ∧ y.foot = it.foot ∧ y.holds = it.holds ∧ (it = x ∨ y.own = it.own) := fun it hi => by
    rcases List.mem_append.1 hi with hi | hi
    · exact ⟨it, by simp [hi], rfl, rfl, .inr rfl⟩
    · rcases List.mem_cons.1 hi with rfl | hi
      · exact ⟨it.ro, by simp, rfl, rfl, .inl rfl⟩
      · exact ⟨it, by simp [hi], rfl, rfl, .inr rfl⟩
  have hfe : foots (pre ++ x :: post) = foots (pre ++ x.ro :: post) := foots_repl rfl
  refine ⟨S.slots, S.defers, h.agree, ?_, ?_, ?_, ?_, ?_, ?_⟩
  · intro it hi; obtain ⟨y, hy, _, h2, _⟩ := key it hi; rw [← h2]; exact h.held y hy
  · intro it hi k hk; obtain ⟨y, hy, h1, _, _⟩ := key it hi; exact h.lt y hy k (h1 ▸ hk)
  · intro it hi ho k hk
    obtain ⟨y, hy, h1, _, h3⟩ := key it hi
    rcases h3 with rfl | h3
    · exact hown k hk
    · exact h.own y hy (h3 ▸ ho) k (h1 ▸ hk)
  · have hap := List.pairwise_append.1 h.apart
    have hap2 := List.pairwise_cons.1 hap.2.1
    exact List.pairwise_append.2 ⟨hap.1, List.pairwise_cons.2 hap2, fun u hu y hy => by
      rcases List.mem_cons.1 hy with rfl | hy
      · exact hap.2.2 u hu y.ro (by simp)
      · exact hap.2.2 u hu y (by simp [hy])⟩
  · intro Φ hΦ; rw [hfe]; exact h.facts Φ hΦ
  · intro it hi w1 w2 hk hh; obtain ⟨y, hy, h1, h2, _⟩ := key it hi; rw [← h2] at hh ⊢; exact h.loc y hy w1 w2 (fun k hk' => hk k (h1 ▸ hk')) hh
end
end Go.Wk
namespace Go.Wk
theorem St.boxNew {w0 M0 ds a w l bs fs} (S : St w0 M0 ds a w l bs fs) (b : Nat) {t : TypeId} {cs : List Value} [h : HasBox bs b t cs] : M0 b ∨ w0.heap.size ≤ b := S.wd.own _ h.mem rfl b rfl
end Go.Wk
namespace Go.Wk
instance isnatL0 : IsNat 0 0 := ⟨rfl⟩
instance isnatL1 : IsNat 1 1 := ⟨rfl⟩
instance isnatL2 : IsNat 2 2 := ⟨rfl⟩
instance isnatL3 : IsNat 3 3 := ⟨rfl⟩
instance isnatL4 : IsNat 4 4 := ⟨rfl⟩
instance isnatL5 : IsNat 5 5 := ⟨rfl⟩
end Go.Wk
namespace Go.Wk
/-- an iterator's end. -/
theorem endI {P : Program} {fn : Func} {R : World → Prop} {w0 : World} {M0 : Nat → Prop} {a : Act} {w : World} {l : List Value} {bs : List Item} {fs : List (World → Prop)} {e : Exit} [hr : FnRes fn []] (S : St w0 M0 [] a w l bs fs) (h : R w) (he : e = .ret ∨ e = .normal := by simp) :
    bodyPost P fn (fun e w' => (∃ v, e = .returned v) ∧ R w') e a w := by
  have hv : (results fn l.toArray).run P w = .ok (.tuple #[]) w := by rw [results_eq (rs := [])]; simp
  rw [← S.slots] at hv
  rcases he with rfl | rfl
  · exact bodyPost_ret hv S.defers ⟨⟨_, rfl⟩, h⟩
  · exact bodyPost_end hv S.defers ⟨⟨_, rfl⟩, h⟩
end Go.Wk
namespace Go.Wk
instance (priority := 100) mulnAny {i s : Nat} : MulN i s (i * s) := ⟨rfl⟩
theorem LsIn.nil_of {w : World} {i : Nat} {xs : List LTerm} (h : LsIn w none i xs) : xs = [] := by
  cases xs with
  | nil => rfl
  | cons x xs => obtain ⟨⟨ad, h0, _⟩, _⟩ := h; cases h0
end Go.Wk
