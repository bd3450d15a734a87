/- 8: a part of this claim's texts, joined: W7 LawFreshA FreshD RowFreshZ RowFreshForged. -/
import Derived.Test.YtmngicgdgpimlaaGreatDoorPa7
import Derived.RecoverIn
import Derived.OpenShut
import Derived.Test.YtmngicgdgpimlaaGreatDoorTie
import Derived.Test.YtmngicgdgpimlaaGreatDoorCards
import Derived.SevenTiedAt
namespace Go.Wk
open Go

/-! panics: what they leave by, and who takes it -/
/-- what a call says that returns or panics; nothing but the blocks of M has changed. -/
def RetP (P : Program) (f : Nat) (args : List Value) (w : World) (M : Nat → Prop) (R : Value → World → Prop) (X : List PanicEntry → World → Prop) : Prop :=
  Calls P f args.toArray w fun e w' => (∃ v, e = .returned v ∧ Agree M w w' ∧ R v w') ∨ ∃ ch, e = .panicked ch ∧ Agree M w w' ∧ X ch w'
theorem Ret.toP {P : Program} {f : Nat} {args : List Value} {w : World} {M : Nat → Prop} {R : Value → World → Prop} {X : List PanicEntry → World → Prop} (h : Ret P f args w M R) : RetP P f args w M R X :=
  Calls.mono h fun _ _ ⟨v, e, ha, hv⟩ => .inl ⟨v, e, ha, hv⟩
theorem RetP.mono {P : Program} {f : Nat} {args : List Value} {w : World} {M : Nat → Prop} {R R' : Value → World → Prop} {X X' : List PanicEntry → World → Prop} (h : RetP P f args w M R X) (hr : ∀ v w', R v w' → R' v w') (hx : ∀ c w', X c w' → X' c w') : RetP P f args w M R' X' :=
  Calls.mono h fun _ _ h => h.imp (fun ⟨v, e, ha, hv⟩ => ⟨v, e, ha, hr _ _ hv⟩) fun ⟨c, e, ha, hc⟩ => ⟨c, e, ha, hx _ _ hc⟩
/-- it does not panic. -/
theorem RetP.ret {P : Program} {f : Nat} {args : List Value} {w : World} {M : Nat → Prop} {R : Value → World → Prop} {X : List PanicEntry → World → Prop} (h : RetP P f args w M R X) (hx : ∀ c w', ¬ X c w') : Ret P f args w M R :=
  Calls.mono h fun _ _ h => h.elim id fun ⟨c, _, _, hc⟩ => absurd hc (hx _ _)
/-- one panic, of this value. -/
def pch (v : Value) : List PanicEntry := [{ v := v, recovered := false }]

section
variable {P : Program} {r : Option Nat} {ops : Array Oper} {Q : Exit → Act → World → Prop} {w0 : World} {M0 : Nat → Prop} {ds : List Deferred} {a : Act} {w : World} {l l' : List Value} {bs bs' : List Item} {fs : List (World → Prop)}
  {d : Option Nat} {op : Op} {ty : TypeId} {pos : String} {af : Array Edge} {rest : List Oper} {v v' G : Value} {f : Nat} {x : Operand} {xs : List Operand} {args : List Value} {ts : Array TypeId} {j g : Nat} {pol : Bool} {cs : List Bool}

theorem cv_anyP [EntF P f] [CallTo ⟨[], l⟩ x xs f args] (S : St w0 M0 ds a w l bs fs) {R : Ending → World → Prop} (hc : Calls P f args.toArray w R)
    (K : ∀ e w', R e w' → (∃ v, e = .returned v ∧ WL P r ops Q rest (a.put d v) w') ∨ ∃ ch, e = .panicked ch ∧ Q (.panic ch) a w') :
    WL P r ops Q (⟨d, .call { callee := .value x, args := xs.toArray, argTypes := ts }, ty, pos, af, none⟩ :: rest) a w := by
  refine wl_plain rfl ?_
  rw [semAt_nd rfl]
  simp only [run_callto (f := f) (args := args) S.fr, Oper.uponIn]
  refine ⟨fun h => (by cases h), trivial, fun cs _ => ?_⟩
  obtain ⟨e, w', fr, hR, hcm, h1, h2⟩ := hc cs
  rcases K e w' hR with ⟨v, rfl, hk⟩ | ⟨ch, rfl, hk⟩
  · exact ⟨.returned v, w', fr, hk, (comesIn_wide (m := lone (Frame.enter P f args.toArray .normal) cs w) (e := .returned v)).2 hcm, h1, h2⟩
  · exact ⟨.panicked ch, w', fr, hk, (comesIn_wide (m := lone (Frame.enter P f args.toArray .normal) cs w) (e := .panicked ch)).2 hcm, h1, h2⟩
/-- a call that may panic: nothing that lay there has changed. -/
theorem srP {l' : Value → List Value} [EntF P f] [CallTo ⟨[], l⟩ x xs f args] [hp : ∀ v, PutO l d v (l' v)] (S : St w0 M0 ds a w l bs fs) {R : Value → World → Prop} {X : List PanicEntry → World → Prop} (hc : RetP P f args w (fun _ => False) R X)
    (Kp : ∀ ch w', X ch w' → St w0 M0 ds a w' l bs fs → Q (.panic ch) a w')
    (K : ∀ v a w', R v w' → St w0 M0 ds a w' (l' v) bs fs → WL P r ops Q rest a w') :
    WL P r ops Q (⟨d, .call { callee := .value x, args := xs.toArray, argTypes := ts }, ty, pos, af, none⟩ :: rest) a w := by
  refine cv_anyP S hc ?_
  rintro e w' (⟨v, rfl, ha, hR⟩ | ⟨ch, rfl, ha, hX⟩)
  · have := hp v
    have S' := S.put (d := d) (v := v)
    exact .inl ⟨v, rfl, K v _ w' hR ⟨S'.slots, S'.defers, S'.wd.step ha⟩⟩
  · exact .inr ⟨ch, rfl, Kp ch w' hX ⟨S.slots, S.defers, S.wd.step ha⟩⟩
/-- a panic. -/
theorem sPan {tp : TypeId} [hx : Ev ⟨[], l⟩ x (.iface tp v)] (S : St w0 M0 ds a w l bs fs) (h : St w0 M0 ds a w l bs fs → Q (.panic (pch (.iface tp v))) a w) : WL P r ops Q (⟨d, .panic x, ty, pos, af, none⟩ :: rest) a w := by
  refine wl_plain rfl ?_
  rw [semAt_nd rfl]
  have hf : a.eval x = .iface tp v := S.fr.ev
  have : (xop a.eval (.panic x) ty).run P w = .halt (.panic (.iface tp v)) w := by
    simp [xop, execOp, hf, Instr.panic, goPanic, Sem.run_bind, Sem.run]
  rw [this]
  exact h S

/-! how functions end that may panic -/
variable {fn : Func} {R : Value → World → Prop} {X : List PanicEntry → World → Prop} {e : Exit}
theorem endP (h : bodyPost P fn (fun e w' => ∃ v, e = .returned v ∧ Agree M0 w0 w' ∧ R v w') e a w) :
    bodyPost P fn (fun e w' => (∃ v, e = .returned v ∧ Agree M0 w0 w' ∧ R v w') ∨ ∃ ch, e = .panicked ch ∧ Agree M0 w0 w' ∧ X ch w') e a w := by
  cases e <;> simp only [bodyPost] at h ⊢ <;> first | exact h | skip
  · exact ⟨h.1, h.2.choose, h.2.choose_spec.1, .inl h.2.choose_spec.2⟩
  · exact ⟨h.1, h.2.choose, h.2.choose_spec.1, .inl h.2.choose_spec.2⟩
  · exact ⟨h.1, .inl h.2⟩
  · exact .inl h
theorem endX {ch : List PanicEntry} (S : St w0 M0 [] a w l bs fs) (h : X ch w) :
    bodyPost P fn (fun e w' => (∃ v, e = .returned v ∧ Agree M0 w0 w' ∧ R v w') ∨ ∃ ch, e = .panicked ch ∧ Agree M0 w0 w' ∧ X ch w') (.panic ch) a w :=
  ⟨S.defers, .inr ⟨ch, rfl, S.wd.agree, h⟩⟩

/-! a function that defers one call -/
theorem enterD {f : Nat} {fn : Func} {c : Code} {args : List Value} {l : List Value} {R : Ending → World → Prop} {M0 : Nat → Prop} {bs : List Item} {fs : List (World → Prop)}
    (hf : P.funcs[f]? = some fn) (hb : fn.body = some c) (hl : args ++ List.replicate (fn.ntmps - args.length) undef = l) (hw : Wd w M0 w bs fs)
    (h : ∀ a, St w M0 [] a w l bs fs → Wp P none c (bodyPostDIn (FW none) 0 P fn R) a w) : Calls P f args.toArray w R := by
  refine (callsIn_wide (n := 0)).1 (callsIn_of_wp_defers (F := FW none) (n := 0) hf hb trivial (h _ ⟨?_, rfl, hw⟩))
  simp [← hl]
theorem sdef {fi ca : List Value} {l' : List Value} [hx : Ev ⟨[], l⟩ x (.func (.func f) ⟨fi⟩ ⟨ca⟩)] [hp : PutO l d undef l'] (S : St w0 M0 ds a w l bs fs)
    (K : ∀ a, St w0 M0 ({ target := .fn (.func f) ⟨ca⟩, args := ⟨fi⟩ } :: ds) a w l' bs fs → WL P none ops Q rest a w) :
    WL P none ops Q (⟨d, .defer { callee := .value x, args := #[], argTypes := ts }, ty, pos, af, none⟩ :: rest) a w := by
  refine wl_plain rfl ?_
  have hf : a.eval x = .func (.func f) ⟨fi⟩ ⟨ca⟩ := S.fr.ev
  rw [Oper.semAt_none]
  have : (execOp a.eval ⟨d, .defer { callee := .value x, args := #[], argTypes := ts }, ty, pos, af, none⟩).run P w = .ok (.defer { target := .fn (.func f) ⟨ca⟩, args := ⟨fi⟩ }) w := by
    simp [execOp, resolve, hf, Deferred.ofValue]
  rw [this]
  obtain ⟨t, dd⟩ := a
  have := S.slots; simp at this; subst this
  have hd := S.defers; simp at hd; subst hd
  show WL P none ops Q rest _ w
  rw [hp.eq]
  exact K _ ⟨rfl, rfl, S.wd⟩
/-- its end, by whatever way: the deferred call is run. -/
theorem leaveRet {g : Nat} {ca : List Value} {K : World → Prop} {Rr : Ending → World → Prop} [he : EntF P g] (hd : a.defers = [{ target := .fn (.func g) ⟨ca⟩, args := #[] }])
    (hc : CallsDIn (FW none) 0 P g ca.toArray .returning w fun e u' w' => (∃ v, e = .returned v) ∧ u' = .returning ∧ K w')
    (hk : ∀ w', K w' → ∃ v, (results fn a.tmps).run P w' = .ok v w' ∧ Rr (.returned v) w') (hx : e = .ret ∨ e = .normal := by simp) : bodyPostDIn (FW none) 0 P fn Rr e a w := by
  have key : LeavesIn (FW none) 0 P fn a.tmps Rr a.defers .returning w := by
    rw [hd]
    refine leavesIn_cons (f := g) (args := ca.toArray) (by simp) (fun h => by cases h) ?_ (fun _ _ => trivial) (hc.mono ?_)
    · have := he.run ca.toArray w
      simpa [invoke] using this
    · rintro e u' w' ⟨⟨v, rfl⟩, rfl, hK⟩
      obtain ⟨v, h1, h2⟩ := hk w' hK
      exact ⟨v, h1, h2⟩
  rcases hx with rfl | rfl <;> exact key
theorem leavePan {g : Nat} {ca : List Value} {pv : Value} {K : World → Prop} {Rr : Ending → World → Prop} [he : EntF P g] (hd : a.defers = [{ target := .fn (.func g) ⟨ca⟩, args := #[] }])
    (hc : CallsDIn (FW none) 0 P g ca.toArray (.panicking (pch pv)) w fun e u' w' => (∃ v, e = .returned v) ∧ u' = .panicking [{ v := pv, recovered := true }] ∧ K w')
    (hk : ∀ w', K w' → ∃ v, (results fn a.tmps).run P w' = .ok v w' ∧ Rr (.returned v) w') : bodyPostDIn (FW none) 0 P fn Rr (.panic (pch pv)) a w := by
  show LeavesIn (FW none) 0 P fn a.tmps Rr a.defers (.panicking (pch pv)) w
  rw [hd]
  refine leavesIn_cons (f := g) (args := ca.toArray) (by simp) (fun h => by cases h) ?_ (fun _ _ => trivial) (hc.mono ?_)
  · have := he.run ca.toArray w
    simpa [invoke] using this
  · rintro e u' w' ⟨⟨v, rfl⟩, rfl, hK⟩
    obtain ⟨v, h1, h2⟩ := hk w' hK
    exact ⟨v, h1, h2⟩
/-- a deferred function that begins with recover. -/
theorem callsD_catch {f : Nat} {fn : Func} {rest : Code} {id t6 t3 : Nat} {ty0 ty1 : TypeId} {pos0 pos1 : String} {af0 af1 : Array Edge} {args l : List Value} {l1 l2 : Value → List Value} {u : FrameMode} {M0 : Nat → Prop} {bs : List Item} {fs : List (World → Prop)} {Rr : Ending → FrameMode → World → Prop}
    (hf : P.funcs[f]? = some fn) (hb : fn.body = some (.seq (.region id #[⟨some t6, .call { callee := .builtin .recover, args := #[], argTypes := #[] }, ty0, pos0, af0, none⟩, ⟨some t3, .assign (.tmp t6), ty1, pos1, af1, none⟩] false) rest))
    (hl : args ++ List.replicate (fn.ntmps - args.length) undef = l) (hw : Wd w M0 w bs fs) [hp1 : ∀ x, PutAt l t6 x (l1 x)] [hn1 : ∀ x, Nth (l1 x) t6 x] [hp2 : ∀ x, PutAt (l1 x) t3 x (l2 x)]
    (hu : u = .returning ∨ ∃ pv, u = .panicking (pch pv))
    (h : ∀ (x : Value) (u' : FrameMode), (u = .returning ∧ x = .nilIface ∧ u' = u ∨ ∃ pv, u = .panicking (pch pv) ∧ x = pv ∧ u' = .panicking [{ v := pv, recovered := true }]) →
      ∀ a, St w M0 [] a w (l2 x) bs fs → Wp P none rest (fun e a' w' => (e = .normal ∨ e = .ret) ∧ a'.defers = [] ∧ ∃ v, (results fn a'.tmps).run P w' = .ok v w' ∧ Rr (.returned v) u' w') a w) :
    CallsDIn (FW none) 0 P f args.toArray u w Rr := by
  have main : ∀ (c₀ : Frame) (cs : List Frame) (x : Value) (u' : FrameMode), c₀.mode = u →
      (u = .returning ∧ x = .nilIface ∧ u' = u ∨ ∃ pv, u = .panicking (pch pv) ∧ x = pv ∧ u' = .panicking [{ v := pv, recovered := true }]) →
      rest.wpSIn (FW none) 0 P (bodyPostS P fn c₀ cs Rr) ⟨(l2 x).toArray, []⟩ ({ c₀ with mode := u' } :: cs) w := by
    intro c₀ cs x u' _ hx
    refine wpSIn_of_wpIn rfl (wpIn_mono (h x u' hx ⟨(l2 x).toArray, []⟩ ⟨rfl, rfl, hw⟩) fun e a' w' hq => ?_)
    obtain ⟨he, hd, v, h1, h2⟩ := hq
    rcases he with rfl | rfl <;> exact ⟨hd, u', rfl, v, h1, h2⟩
  refine callsDIn_of_wpSIn hf hb trivial fun c₀ cs hc₀ => wpSIn_seq (wpSIn_region ?_)
  have hl' : args.toArray ++ Array.replicate (fn.ntmps - args.toArray.size) undef = l.toArray := by rw [← hl]; simp
  rw [hl']
  have step : ∀ x, ((⟨l.toArray, []⟩ : Act).put (some t6) x).put (some t3) (((⟨l.toArray, []⟩ : Act).put (some t6) x).eval (.tmp t6)) = ⟨(l2 x).toArray, []⟩ := fun x => by
    have e1 : (⟨l.toArray, []⟩ : Act).put (some t6) x = ⟨(l1 x).toArray, []⟩ := (puto1 (l := l) (l' := l1 x) (v := x) (n := t6)).eq []
    have e2 : (⟨(l1 x).toArray, []⟩ : Act).eval (.tmp t6) = x := by
      have := (hn1 x).eq
      simp [Act.eval, Array.getD_eq_getD_getElem?, this]
    rw [e1, e2]
    exact (puto1 (l := l1 x) (l' := l2 x) (v := x) (n := t3)).eq []
  have hr0 : ∀ (a : Act), (execOp a.eval ⟨some t6, .call { callee := .builtin .recover, args := #[], argTypes := #[] }, ty0, pos0, af0, none⟩).run P w = .ok .recover w := fun a => by
    simp [execOp, resolve, invoke, builtin]
  have hr1 : ∀ (a : Act), (execOp a.eval ⟨some t3, .assign (.tmp t6), ty1, pos1, af1, none⟩).run P w = .ok (.value (a.eval (.tmp t6))) w := fun a => by
    simp [execOp]
  have hcs : ({ c₀ with mode := u } : Frame) = c₀ := by subst hc₀; rfl
  rw [show List.range (#[(⟨some t6, .call { callee := .builtin .recover, args := #[], argTypes := #[] }, ty0, pos0, af0, none⟩ : Oper), ⟨some t3, .assign (.tmp t6), ty1, pos1, af1, none⟩] : Array Oper).size = [0, 1] from rfl]
  simp only [wpOpsSIn, List.getElem?_toArray, List.getElem?_cons_zero, List.getElem?_cons_succ, hr0, hr1]
  refine ⟨fun _ _ => trivial, ?_⟩
  rw [if_pos (by rfl)]
  rcases hu with rfl | ⟨pv, rfl⟩
  · have : recoverD (c₀ :: cs) = none := by simp [recoverD, hc₀]
    rw [this]
    refine ⟨fun _ _ => trivial, ?_⟩
    rw [if_pos (by rfl)]
    have hm := main c₀ cs .nilIface .returning hc₀ (.inl ⟨rfl, rfl, rfl⟩)
    rw [hcs] at hm
    rw [← step] at hm
    exact hm
  · have : recoverD (c₀ :: cs) = some (pv, { c₀ with mode := .panicking [{ v := pv, recovered := true }] } :: cs) := by simp [recoverD, hc₀, pch]
    rw [this]
    refine ⟨fun _ _ => trivial, ?_⟩
    rw [if_pos (by rfl)]
    have hm := main c₀ cs pv _ hc₀ (.inr ⟨pv, rfl, rfl, rfl⟩)
    rw [← step] at hm
    exact hm
end

/-! regions that draw their order, and may panic on the way -/
structure XP where
  keep : List (Nat × Value)
  dss : List Deferred
  XW : List PanicEntry → World → Prop
def XP.at (x : XP) : Exit → Act → World → Prop
  | .panic ch, a, w => (∀ p ∈ x.keep, a.tmps[p.1]? = some p.2) ∧ a.defers = x.dss ∧ x.XW ch w
  | _, _, _ => False
/-- what is kept is not written. -/
def XP.off (x : XP) (o : Oper) : Prop := ∀ p ∈ x.keep, o.dst ≠ some p.1
theorem XP.put {x : XP} {o : Oper} (h : x.off o) {ch : List PanicEntry} {a : Act} {v : Value} {w : World} (hp : x.at (.panic ch) (a.put o.dst v) w) : x.at (.panic ch) a w := by
  obtain ⟨h1, h2, h3⟩ := hp
  refine ⟨fun p hpk => ?_, ?_, h3⟩
  · have h1 := h1 p hpk
    have h0 := h p hpk
    cases hd : o.dst with
    | none => rw [hd] at h1; exact h1
    | some n =>
      rw [hd] at h1
      have hne : n ≠ p.1 := fun e => h0 (by rw [hd, e])
      simpa [Act.put, Array.getElem?_setIfInBounds, hne] using h1
  · cases hd : o.dst <;> rw [hd] at h2 <;> exact h2
section
variable {P : Program} {ops : Array Oper} {C : World → Prop} {X : XP}
abbrev WNX (P : Program) (ops : Array Oper) (X : XP) (i : Nat) (K : Act → World → Prop) (a : Act) (w : World) : Prop := wpOpIn (FW none) 0 P ops X.at i K a w
theorem YieldsC.wnx {i : Nat} {o : Oper} {v : Value} {a : Act} (hi : ops[i]? = some o) (hy : YieldsC P ops C o v a)
    {K : Act → World → Prop} {w : World} (hC : C w) (h : K (a.put o.dst v) w) : WNX P ops X i K a w := by
  unfold WNX wpOpIn
  simp only [hi]
  rcases hy with ⟨hw, hv⟩ | ⟨hw, rfl⟩
  · simp only [hw, if_true, Oper.wpIn, Oper.semAt_none, hv w hC, Oper.uponIn]; exact ⟨fun _ _ => trivial, h⟩
  · simp only [hw, Bool.false_eq_true, if_false]; exact ⟨fun _ _ => trivial, h⟩
theorem wnx_put {j : Nat} {oi oj : Oper} {v : Value} (hj : ops[j]? = some oj) (hap : oi.apart ops oj = true) (hoff : X.off oi)
    (hsi : ∀ cs b, oi.op ≠ .select cs b) (hsj : ∀ cs b, oj.op ≠ .select cs b) {K : Act → World → Prop} {a : Act} {w : World}
    (hy : YieldsC P ops C oi v a) (h : WNX P ops X j K (a.put oi.dst v) w) :
    WNX P ops X j (fun a' w' => YieldsC P ops C oi v a' ∧ K (a'.put oi.dst v) w') a w := by
  obtain ⟨h1, h2, h3⟩ := Oper.apart_spec hap
  have keep : ∀ (a : Act), YieldsC P ops C oi v a → ∀ u, YieldsC P ops C oi v (a.put oj.dst u) := fun a hy u =>
    hy.of_same (execOp_put oi hsi a oj.dst u h3) (wanted_put oi a oj.dst u h3)
  have keepD : ∀ d, YieldsC P ops C oi v { a with defers := d :: a.defers } := fun d => hy.of_same rfl rfl
  have lets : LetsOut X.at → LetsOut X.at := id
  unfold WNX wpOpIn at *
  simp only [hj] at *
  rw [wanted_put oj a oi.dst v h1] at h
  split
  · rename_i hw
    simp only [hw, if_true] at h
    unfold Oper.wpIn at *
    refine ⟨fun _ _ => trivial, ?_⟩
    have h := h.2
    rw [Oper.semAt_none, execOp_put oj hsj a oi.dst v h1] at h
    rw [Oper.semAt_none]
    generalize (execOp a.eval oj).run P w = r at *
    cases r with
    | ok x w' =>
      cases x <;> simp only [Oper.uponIn] at h ⊢
      case value u => exact ⟨keep a hy u, by rw [← Act.put_comm a v u h2]; exact h⟩
      case skip => exact ⟨keep a hy _, by rw [← Act.put_comm a v undef h2]; exact h⟩
      case defer d =>
        refine ⟨keep _ (keepD d) _, ?_⟩
        rw [← Act.put_comm _ v undef h2, ← Act.put_defers]
        exact h
      case enter f args =>
        refine ⟨h.1, CallsIn.mono h.2 fun e w'' he => ?_⟩
        cases e with
        | returned u => exact ⟨keep a hy u, by rw [← Act.put_comm a v u h2]; exact he⟩
        | panicked c => exact XP.put hoff he
        | outgrown => exact he
      case row row args => exact ⟨h.1, RowsIn.mono h.2 fun u w'' he => ⟨keep a hy u, by rw [← Act.put_comm a v u h2]; exact he⟩⟩
      case round l f tmps assign body =>
        refine ⟨h.1, RoundIn.mono h.2 fun e w'' he => ?_⟩
        cases e with
        | returned u => exact ⟨keep a hy u, by rw [← Act.put_comm a v u h2]; exact he⟩
        | panicked c => exact XP.put hoff he
        | outgrown => exact he
    | halt x w' =>
      cases x <;> simp only [Oper.uponIn] at h ⊢
      case panic u => exact XP.put hoff h
  · rename_i hw
    simp only [hw] at h
    exact ⟨fun _ _ => trivial, keep a hy _, by rw [← Act.put_comm a v undef h2]; exact h.2⟩
def ACX (P : Program) (ops : Array Oper) (X : XP) (C : World → Prop) (R : Act → World → Prop) : Nat → Array Bool → Act → World → Prop
  | 0, listed, a, w => Region.ready .any ops listed = [] ∧ R a w
  | fuel + 1, listed, a, w =>
    (Region.ready .any ops listed = [] → R a w) ∧
    ∀ i ∈ Region.ready .any ops listed, WNX P ops X i (fun a' w' => C w' ∧ ACX P ops X C R fuel (listed.setIfInBounds i true) a' w') a w
variable {R : Act → World → Prop}
theorem acx_first {i : Nat} {oi : Oper} {v : Value} (hi : ops[i]? = some oi) (hoff : X.off oi) (hsel : ∀ (j : Nat) (o : Oper) cs b, ops[j]? = some o → o.op ≠ .select cs b) :
    ∀ (fuel : Nat) (listed : Array Bool) (a : Act) (w : World),
      (∀ j oj, ops[j]? = some oj → j ≠ i → listed.getD j true = false → (∀ e ∈ oj.after, Region.binds .any e = true → e.on ≠ i) → oi.apart ops oj = true) →
      i ∈ Region.ready .any ops listed → YieldsC P ops C oi v a → C w →
      ACX P ops X C R fuel (listed.setIfInBounds i true) (a.put oi.dst v) w → ACX P ops X C R (fuel + 1) listed a w := by
  intro fuel
  induction fuel with
  | zero =>
    intro listed a w _ hr hy hS H
    refine ⟨fun h => (by rw [h] at hr; cases hr), fun j hj => ?_⟩
    by_cases hji : j = i
    · subst hji; exact hy.wnx hi hS ⟨hS, H⟩
    · have := ready_mono hj hji
      rw [H.1] at this
      cases this
  | succ fuel ih =>
    intro listed a w hfree hr hy hS H
    refine ⟨fun h => (by rw [h] at hr; cases hr), fun j hj => ?_⟩
    by_cases hji : j = i
    · subst hji; exact hy.wnx hi hS ⟨hS, H⟩
    · have h1 := H.2 j (ready_mono hj hji)
      obtain ⟨hjun, oj, hoj, hall⟩ := mem_ready.1 hj
      have hnot : ∀ e ∈ oj.after, Region.binds .any e = true → e.on ≠ i := fun e he hb heq => by
        have h1 := hall e he hb
        have h0 := (mem_ready.1 hr).1
        rw [heq] at h1
        rcases Nat.lt_or_ge i listed.size with h' | h'
        · simp [h'] at h0 h1; rw [h0] at h1; cases h1
        · simp [Array.getElem?_eq_none h'] at h1
      have h2 := wnx_put hoj (hfree j oj hoj hji hjun hnot) hoff (fun cs b => hsel i oi cs b hi) (fun cs b => hsel j oj cs b hoj) hy h1
      have hfree' : ∀ k ok, ops[k]? = some ok → k ≠ i → (listed.setIfInBounds j true).getD k true = false →
          (∀ e ∈ ok.after, Region.binds .any e = true → e.on ≠ i) → oi.apart ops ok = true := fun k ok hk hki hun hno => by
        refine hfree k ok hk hki ?_ hno
        by_cases hjk : j = k
        · subst hjk; exact hjun
        · rw [getD_set_ne true hjk] at hun; exact hun
      refine wpOpIn_mono (fun a' w' h3 => ⟨h3.2.1, ih (listed.setIfInBounds j true) a' w' hfree' (ready_mono hr (Ne.symm hji)) h3.1 h3.2.1 ?_⟩) h2
      rw [Array.setIfInBounds_comm _ _ hji]
      exact h3.2.2
variable {r : Option Nat} {Q : Exit → Act → World → Prop} {w0 : World} {M0 : Nat → Prop} {ds : List Deferred} {a : Act} {w : World} {l l' : List Value} {bs bs' bs0 : List Item} {fs fs0 : List (World → Prop)}
  {d : Option Nat} {op : Op} {ty : TypeId} {pos : String} {af : Array Edge} {rest : List Oper} {v v' G : Value} {j g : Nat} {pol : Bool} {cs : List Bool} {n : Nat} {listed : Array Bool}
def XP.offB (x : XP) (ops : Array Oper) : Bool := ops.toList.all fun o => x.keep.all fun p => match o.dst with | some n => !Nat.beq n p.1 | none => true
theorem XP.offB_spec {x : XP} {ops : Array Oper} (h : x.offB ops = true) {i : Nat} {o : Oper} (hi : ops[i]? = some o) : x.off o := by
  intro p hp e
  have h1 := List.all_eq_true.1 (List.all_eq_true.1 h o (by rw [← Array.getElem?_toList] at hi; exact List.mem_of_getElem? hi)) p hp
  rw [e] at h1
  simp at h1
/-- the region in one order that stands for all. -/
def AQX (P : Program) (ops : Array Oper) (X : XP) (C : World → Prop) (R : Act → World → Prop) (ord : List (Nat × Bool)) (a : Act) (w : World) : Prop :=
  ∀ listed, Region.noSelect ops = true → X.offB ops = true → flowFrom ops ord listed = true → ACX P ops X C R ord.length listed a w
variable {ord : List (Nat × Bool)} {i : Nat}
theorem dqX (S : St w0 M0 ds a w l bs fs) [hb : SubL bs0 bs] [hf : SubL fs0 fs] [ho : OpAt ops i ⟨d, op, ty, pos, af, none⟩] [hq : OpQ P op ty ⟨[], l⟩ bs0 fs0 v] [hp : PutO l d v l']
    (K : ∀ a, St w0 M0 ds a w l' bs fs → AQX P ops X (fun w => Wd w0 M0 w bs0 fs0) R ord a w) :
    AQX P ops X (fun w => Wd w0 M0 w bs0 fs0) R ((i, true) :: ord) a w := by
  intro listed hs hx hflow
  simp only [flowFrom, Bool.and_eq_true] at hflow
  refine acx_first ho.eq (XP.offB_spec hx ho.eq) (Region.noSelect_spec hs) _ listed a w (Region.free_spec ho.eq hflow.1.2) (by simpa using hflow.1.1) (v := v) (.inl ⟨rfl, fun w' hw' => ?_⟩) (S.wd.sub hb.sub hf.sub) (K _ S.put _ hs hx hflow.2)
  rw [execOp_eq]
  exact hq.run a.eval w' S.fr hw'.mem
theorem dqGX (S : St w0 M0 ds a w l bs fs) [hb : SubL bs0 bs] [hf : SubL fs0 fs] [ho : OpAt ops i ⟨d, op, ty, pos, af, some (j, pol)⟩] [hg : GSlot ops j g] [hn : Nth l g G] [hc : Conds G pol cs] [hq : OpQ P op ty ⟨cs, l⟩ bs0 fs0 v] [hv : GifV cs v v'] [hp : PutO l d v' l']
    (K : ∀ a, St w0 M0 ds a w l' bs fs → AQX P ops X (fun w => Wd w0 M0 w bs0 fs0) R ord a w) :
    AQX P ops X (fun w => Wd w0 M0 w bs0 fs0) R ((i, true) :: ord) a w := by
  intro listed hs hx hflow
  simp only [flowFrom, Bool.and_eq_true] at hflow
  have hw := wanted_iff (ops := ops) (d := d) (op := op) (ty := ty) (pos := pos) (af := af) (pol := pol) S hg.eq
  refine acx_first ho.eq (XP.offB_spec hx ho.eq) (Region.noSelect_spec hs) _ listed a w (Region.free_spec ho.eq hflow.1.2) (by simpa using hflow.1.1) (v := v') ?_ (S.wd.sub hb.sub hf.sub) (K _ S.put _ hs hx hflow.2)
  by_cases hall : ∀ c ∈ cs, c = true
  · refine .inl ⟨hw.2 hall, fun w' hw' => ?_⟩
    rw [execOp_eq, hv.eq, if_pos hall]
    exact hq.run a.eval w' (S.frc hall) hw'.mem
  · exact .inr ⟨by
      cases hx : Region.wanted _ (yielded ops a.tmps) with
      | true => exact absurd (hw.1 hx) hall
      | false => rfl, by rw [hv.eq, if_neg hall]⟩
/-- the one operation that may come up; it may panic. -/
theorem dlX {o : Oper} {C : World → Prop} [ho : OpAt ops i o] (h : WL P none ops (fun e a' w' => (e = .normal ∧ C w' ∧ AQX P ops X C R ord a' w') ∨ X.at e a' w') [o] a w) : AQX P ops X C R ((i, false) :: ord) a w := by
  intro listed hs hx hflow
  simp only [flowFrom, Bool.and_eq_true] at hflow
  have hr : Region.ready .any ops listed = [i] := by
    have := hflow.1
    split at this
    · rename_i k hk; rw [hk, Nat.eq_of_beq_eq_true this]
    · cases this
  refine ⟨fun h0 => (by rw [h0] at hr; cases hr), fun k hk => ?_⟩
  rw [hr] at hk
  obtain rfl : k = i := by simpa using hk
  have nor : ∀ {p : Prop} {a' : Act} {w' : World}, ((p ∧ C w' ∧ AQX P ops X C R ord a' w') ∨ X.at .normal a' w') → C w' ∧ ACX P ops X C R ord.length (listed.setIfInBounds k true) a' w' := by
    rintro p a' w' (⟨-, h1, h2⟩ | h)
    · exact ⟨h1, h2 _ hs hx hflow.2⟩
    · exact h.elim
  have pan : ∀ {c : List PanicEntry} {a' : Act} {w' : World}, ((Exit.panic c = Exit.normal ∧ C w' ∧ AQX P ops X C R ord a' w') ∨ X.at (.panic c) a' w') → X.at (.panic c) a' w' := by
    rintro c a' w' (⟨h, -⟩ | h)
    · cases h
    · exact h
  unfold WNX wpOpIn
  simp only [ho.eq]
  simp only [WL, wpListIn] at h
  split
  · rename_i hw
    rw [if_pos hw] at h
    refine ⟨fun _ _ => trivial, ?_⟩
    have h := h.2
    generalize (o.semAt (FW none).round a.eval).run P w = q at *
    cases q with
    | ok x w' =>
      cases x <;> simp only [Oper.uponIn] at h ⊢
      case value u => exact nor h
      case skip => exact nor h
      case defer d => exact nor h
      case enter f args =>
        refine ⟨h.1, CallsIn.mono h.2 fun e w'' he => ?_⟩
        cases e with
        | returned u => simp only [true_and] at he; exact nor (p := True) (by simpa using he)
        | panicked c => exact pan he
        | outgrown => obtain ⟨_, _, he⟩ := he; rcases he with ⟨he, _⟩ | he <;> first | cases he | exact he.elim
      case row row args => exact ⟨h.1, RowsIn.mono h.2 fun u w'' he => nor he⟩
      case round l f tmps assign body =>
        refine ⟨h.1, RoundIn.mono h.2 fun e w'' he => ?_⟩
        cases e with
        | returned u => simp only [true_and] at he; exact nor (p := True) (by simpa using he)
        | panicked c => exact pan he
        | outgrown => obtain ⟨_, _, he⟩ := he; rcases he with ⟨he, _⟩ | he <;> first | cases he | exact he.elim
    | halt x w' =>
      cases x <;> simp only [Oper.uponIn] at h ⊢
      case panic u => exact pan h
  · rename_i hw
    rw [if_neg hw] at h
    exact ⟨fun _ _ => trivial, nor h.2⟩
theorem deX [hb : SubL bs0 bs] [hf : SubL fs0 fs] (S : St w0 M0 ds a w l bs fs) (h : AQX P ops X (fun w => Wd w0 M0 w bs0 fs0) R ord a w) : WL P none ops (fun e a' w' => (e = .normal ∧ Wd w0 M0 w' bs0 fs0 ∧ AQX P ops X (fun w => Wd w0 M0 w bs0 fs0) R ord a' w') ∨ X.at e a' w') [] a w :=
  wl_nil (.inl ⟨rfl, S.wd.sub hb.sub hf.sub, h⟩)
theorem dnX {C : World → Prop} (h : R a w) : AQX P ops X C R [] a w := by
  intro listed hs _ hflow
  have hr : Region.ready .any ops listed = [] := by simpa [flowFrom] using hflow
  exact ⟨hr, h⟩
/-- the panic, as the region's law wants it. -/
theorem XP.of {ch : List PanicEntry} {K : Prop} (S : St w0 M0 ds a w l bs fs) (hk : ∀ p ∈ X.keep, l[p.1]? = some p.2) (hd : ds = X.dss) (h : X.XW ch w) : K ∨ X.at (.panic ch) a w :=
  .inr ⟨fun p hp => by rw [S.slots]; simpa using hk p hp, by rw [S.defers, hd], h⟩
theorem wnx_round {i : Nat} {K : Act → World → Prop} (hQ : ∀ ch a w, X.at (.panic ch) a w → Q (.panic ch) a w) (hd : ∀ (i : Nat) o, ops[i]? = some o → isDefer o.op = false) (h : WNX P ops X i K a w) : wpOpIn (FW r) 0 P ops Q i K a w := by
  unfold WNX wpOpIn at *
  cases ho : ops[i]? with
  | none => simp only [ho] at h ⊢; exact h
  | some o =>
    simp only [ho] at h ⊢
    split
    · rename_i hw
      rw [if_pos hw] at h
      refine ⟨fun _ _ => trivial, ?_⟩
      have h := h.2
      rw [show (FW none).round = none from rfl] at h
      rw [show (FW r).round = r from rfl, semAt_any (hd i o ho)]
      generalize (o.semAt none a.eval).run P w = q at *
      cases q with
      | ok x w' =>
        cases x <;> simp only [Oper.uponIn] at h ⊢ <;> first | exact h | skip
        case enter f args =>
          refine ⟨fun h => (by cases h), trivial, fun cs _ => ?_⟩
          obtain ⟨e, w', fr, hR, hcm, h1, h2⟩ := h.2.2 cs (room_wide _)
          refine ⟨e, w', fr, ?_, hcm, h1, h2⟩
          cases e with
          | returned v => exact hR
          | panicked c => exact hQ _ _ _ hR
          | outgrown => obtain ⟨_, _, hR⟩ := hR; exact hR.elim
        case round l f tmps assign body =>
          refine ⟨fun h => (by cases h), trivial, fun c cs _ => ?_⟩
          obtain ⟨e, w', hR, hcm⟩ := h.2.2 c cs (room_wide _)
          refine ⟨e, w', ?_, hcm⟩
          cases e with
          | returned v => exact hR
          | panicked c => exact hQ _ _ _ hR
          | outgrown => obtain ⟨_, _, hR⟩ := hR; exact hR.elim
      | halt x w' =>
        cases x <;> simp only [Oper.uponIn] at h ⊢
        case panic u => exact hQ _ _ _ h
    · rename_i hw
      rw [if_neg hw] at h
      exact ⟨fun _ _ => trivial, h.2⟩
theorem any_of_acx (hQ : ∀ ch a w, X.at (.panic ch) a w → Q (.panic ch) a w) (hd : ∀ (i : Nat) o, ops[i]? = some o → isDefer o.op = false) : ∀ (fuel : Nat) (listed : Array Bool) (a : Act) (w : World), ACX P ops X C (fun a w => Q .normal a w) fuel listed a w → wpAnyIn (FW r) 0 P .any ops Q fuel listed a w
  | 0, _, _, _, h => h
  | fuel + 1, _, _, _, h => ⟨h.1, fun i hi => wnx_round hQ hd (wpOpIn_mono (fun a' w' h' => any_of_acx hQ hd fuel _ a' w' h'.2) (h.2 i hi))⟩
/-- a region that draws its order, and may panic. -/
theorem c_drawX {id : Nat} {lo : List Oper} (ord : List (Nat × Bool)) (ids : List Nat) [DropBs bs ids bs0] (X : XP) (S : St w0 M0 ds a w l bs fs) (hQ : ∀ ch a w, X.at (.panic ch) a w → Q (.panic ch) a w)
    (h : ∀ w, St w0 M0 ds a w l bs fs → AQX P lo.toArray X (fun w => Wd w0 M0 w bs0 fs) (fun a w => Q .normal a w) ord a w)
    (hm : P.follows .mixedOrders = true := by kernel_rfl) (hx : X.offB lo.toArray = true := by kernel_rfl) (hd : ((lo.all fun o => !isDefer o.op) && (Nat.beq ord.length lo.length && (Region.noSelect lo.toArray && flowFrom lo.toArray ord (Array.replicate lo.length false)))) = true := by kernel_rfl) : Wp P r (.region id lo.toArray true) Q a w := by
  simp only [Bool.and_eq_true] at hd
  refine wpIn_region_any hm (any_of_acx (C := fun w => Wd w0 M0 w bs0 fs) hQ (fun i o ho => ?_) _ _ _ _ ?_)
  · have := List.all_eq_true.1 hd.1 o (by
      rw [List.getElem?_toArray] at ho
      exact List.mem_of_getElem? ho)
    simpa using this
  · have := h { w with drawn := w.drawn + 1 } ⟨S.slots, S.defers, S.wd.step (Agree.drawn _ w _)⟩ _ hd.2.2.1 hx hd.2.2.2
    rw [Nat.eq_of_beq_eq_true hd.2.1] at this
    simpa using this
end
end Go.Wk

namespace Go.Wk
open Go

/-! going over a string -/
theorem decode_lo (s : ByteArray) (i : Nat) (h : (s.get! i).toNat < 128) : Utf8.decode s i = ((s.get! i).toNat, 1) := by
  unfold Utf8.decode
  simp only [Nat.add_zero]
  rw [if_pos h]
theorem decode_hi (s : ByteArray) (i : Nat) (h : ¬ (s.get! i).toNat < 128) : 128 ≤ (Utf8.decode s i).1 ∧ 1 ≤ (Utf8.decode s i).2 := by
  unfold Utf8.decode
  simp only [Nat.add_zero]
  rw [if_neg h]
  repeat' split
  all_goals (try simp only [Bool.and_eq_true, decide_eq_true_eq, ge_iff_le] at *)
  all_goals (constructor <;> first | omega | (simp only [Utf8.runeError]; omega))
/-- a string, and the going over it: where it stands. -/
def sti (r : Nat) (s : List UInt8) (i : Nat) : Item where
  foot := fun k => k = r
  holds := fun w => w.heap[r]? = some (.stringIter ⟨s.toArray⟩ i)
theorem sti_loc (r : Nat) (s : List UInt8) (i : Nat) (w1 w2 : World) (h : ∀ k, (sti r s i).foot k → w2.heap[k]? = w1.heap[k]?) (h1 : (sti r s i).holds w1) : (sti r s i).holds w2 := (h r rfl).trans h1
class HasSti (bs : List Item) (r : Nat) (s : outParam (List UInt8)) (i : outParam Nat) : Prop where mem : sti r s i ∈ bs
instance hsti0 {r : Nat} {s : List UInt8} {i : Nat} {bs : List Item} : HasSti (sti r s i :: bs) r s i := ⟨List.mem_cons_self ..⟩
instance (priority := 900) hsti1 {r : Nat} {s : List UInt8} {i : Nat} {x : Item} {bs : List Item} [h : HasSti bs r s i] : HasSti (x :: bs) r s i := ⟨List.mem_cons_of_mem _ h.mem⟩
section
variable {P : Program} {r0 : Option Nat} {ops : Array Oper} {Q : Exit → Act → World → Prop} {w0 : World} {M0 : Nat → Prop} {ds : List Deferred} {a : Act} {w : World} {l : List Value} {bs : List Item} {fs : List (World → Prop)}
  {d : Option Nat} {op : Op} {ty : TypeId} {pos : String} {af : Array Edge} {rest : List Oper} {t kt et : TypeId} {x : Operand} {b r i : Nat} {s : List UInt8}
/-- a range over a string is begun. -/
theorem sstr0 {l' : Nat → List Value} (S : St w0 M0 ds a w l bs fs) [Ev ⟨[], l⟩ x (str s)] [ht : Und P t .string] [hp : ∀ r, PutO l d (.pointer (some ⟨r, 0, none⟩)) (l' r)]
    (K : ∀ r a w, St w0 M0 ds a w (l' r) (sti r s 0 :: bs) fs → WL P r0 ops Q rest a w) : WL P r0 ops Q (⟨d, .range t x, ty, pos, af, none⟩ :: rest) a w := by
  refine wl_plain rfl ?_
  rw [semAt_nd rfl]
  have e1 : (xop a.eval (.range t x) ty).run P w = .ok (.value (.pointer (some ⟨w.heap.size, 0, none⟩))) (w.alloc (.stringIter ⟨s.toArray⟩ 0)) := by
    have h2 : (Instr.range t (str s)).run P w = .ok (.pointer (some ⟨w.heap.size, 0, none⟩)) (w.alloc (.stringIter ⟨s.toArray⟩ 0)) := by
      simp [Instr.range, str, Sem.run_bind, run_und, newObj, Sem.run]
    simp [xop, execOp, S.fr.ev (x := x) (v := str s), Sem.run_bind, h2]
  simp only [e1, Oper.uponIn]
  have := hp w.heap.size
  have S' := S.put (d := d) (v := .pointer (some ⟨w.heap.size, 0, none⟩))
  refine K _ _ _ ⟨S'.slots, S'.defers, (S.wd.step (Agree.alloc _ w _)).more (y := sti w.heap.size s 0) (heap_alloc_new w _) (fun k hk => by cases hk; exact S.wd.agree.size) (fun k hk => by cases hk; simp) (fun it hi k hk hk' => by cases hk; exact absurd (S.wd.lt it hi _ hk') (Nat.lt_irrefl _)) ?_ (sti_loc _ _ _)⟩
  intro Φ hΦ w' hw'
  refine S.wd.facts Φ hΦ w' ((Agree.alloc _ w _).trans' hw' fun i hi => ?_)
  rintro ⟨it, hm, hf⟩
  rcases List.mem_cons.1 hm with rfl | hm
  · cases hf; omega
  · exact ⟨it, hm, hf⟩
def nxS (more : Bool) (i c : Nat) : Value := bif more then .tuple ⟨[.bool true, .int .i64 (i : Int), .int .i32 (c : Int)]⟩ else .tuple ⟨[.bool false]⟩
instance (priority := 1100) opExtNxS {l : Cx} {more : Bool} {i c : Nat} [Ev l x (nxS more i c)] : OpQ P (.extract x 0) ty l bs fs (.bool more) := ⟨fun ρ w h _ => by
  cases more <;> simp [xop, execOp, h.ev (x := x) (v := nxS _ i c), nxS, Instr.extract]⟩
/-- the next rune, or none is left. -/
theorem snxs {l' : Bool → Nat → List Value} {bs' : Nat → List Item} (S : St w0 M0 ds a w l bs fs) [Ev ⟨[], l⟩ x (.pointer (some ⟨r, 0, none⟩))] [hm : HasSti bs r s i] [hrep : ∀ j, ReplI bs (sti r s i) (sti r s j) (bs' j)] [hp : ∀ m c, PutO l d (nxS m i c) (l' m c)]
    (K : ∀ (more : Bool) (c wd : Nat) a w, (more = false → s.length ≤ i) → (more = true → i < s.length ∧ ((s.getD i 0).toNat < 128 → c = (s.getD i 0).toNat ∧ wd = 1) ∧ (¬ (s.getD i 0).toNat < 128 → 128 ≤ c)) → St w0 M0 ds a w (l' more c) (bs' (bif more then i + wd else i)) fs → WL P r0 ops Q rest a w) :
    WL P r0 ops Q (⟨d, .next x true, ty, pos, af, none⟩ :: rest) a w := by
  refine wl_plain rfl ?_
  rw [semAt_nd rfl]
  have hold : w.heap[r]? = some (.stringIter ⟨s.toArray⟩ i) := S.wd.held _ hm.mem
  have hx : a.eval x = .pointer (some ⟨r, 0, none⟩) := S.fr.ev
  have hlt : r < w.heap.size := (Array.getElem?_eq_some_iff.1 hold).1
  have hobj : (getObj r).run P w = .ok (.stringIter ⟨s.toArray⟩ i) w := by simp [getObj, Sem.run, hold]
  have hget : (⟨s.toArray⟩ : ByteArray).get! i = s.getD i 0 := by
    show s.toArray[i]! = _
    simp [List.getD_eq_getElem?_getD]
    rfl
  have hsz : (⟨s.toArray⟩ : ByteArray).size = s.length := by simp [ByteArray.size]
  by_cases hi : i < s.length
  · have e1 : (xop a.eval (.next x true) ty).run P w = .ok (.value (nxS true i (Utf8.decode ⟨s.toArray⟩ i).1)) (w.putObj r (.stringIter ⟨s.toArray⟩ (i + (Utf8.decode ⟨s.toArray⟩ i).2))) := by
      simp only [xop, execOp, hx, Instr.next, Sem.run_bind, hobj, Result.andThen, hsz, hi, if_true]
      simp [setObj, Sem.run, hold, World.putObj, nxS, goInt]
    simp only [e1, Oper.uponIn]
    have := hp true (Utf8.decode ⟨s.toArray⟩ i).1
    have S' := S.put (d := d) (v := nxS true i (Utf8.decode ⟨s.toArray⟩ i).1)
    refine K true _ _ _ _ (fun h => by cases h) (fun _ => ⟨hi, fun h => ?_, fun h => ?_⟩) (S.reput (x := sti r s i) (y := sti r s (i + (Utf8.decode ⟨s.toArray⟩ i).2)) S'.slots S'.defers (hr := hrep _) rfl (Agree.putObj w r _ rfl) (World.putObj_heap_same hlt) (fun k hk => .inl hk) (fun k hk => by cases hk; simpa using hlt) (sti_loc _ _ _))
    · rw [← hget] at h ⊢
      rw [decode_lo _ _ h]; exact ⟨rfl, rfl⟩
    · rw [← hget] at h
      exact (decode_hi _ _ h).1
  · have e1 : (xop a.eval (.next x true) ty).run P w = .ok (.value (nxS false i 0)) w := by
      simp only [xop, execOp, hx, Instr.next, Sem.run_bind, hobj, Result.andThen, hsz, hi, if_false]
      simp [nxS]
    simp only [e1, Oper.uponIn]
    have := hp false 0
    have S' := S.put (d := d) (v := nxS false i 0)
    have hr0 := hrep i
    obtain ⟨pre, post, rfl, hb⟩ := hr0.ex
    refine K false 0 0 _ _ (fun _ => by omega) (fun h => by cases h) ?_
    show St _ _ _ _ _ _ (bs' i) _
    rw [hb]
    exact S'
end
/-! arrays -/
section
variable {P : Program} {ls : Cx} {bs : List Item} {fs : List (World → Prop)} {x y : Operand} {b off k n sz o o' : Nat} {kk : IntKind} {m : Int} {t ty e : TypeId} {z : Value} {by_ : Nat}
/-- an element of an array that stands in a variable. -/
instance (priority := 860) opIdxArr [Ev ls x (.pointer (some ⟨b, off, none⟩))] [Ev ls y (.int kk m)] [hm : IsNat m k] [ht : Und P t (.array n e)] [TI P e z sz by_] [hk : KLt k n] [ho : MulN k sz o] [ho' : AddN off o o'] :
    OpQ P (.indexAddr t x y) ty ls bs fs (.pointer (some ⟨b, o', none⟩)) := ⟨fun ρ w h mm => by
  have e1 := hm.eq
  subst e1
  have h1 : (k : Int) < n := by have := hk.lt; omega
  have e2 : (⟨b, off, none⟩ : Addr).add (k * sz) = ⟨b, o', none⟩ := by rw [ho.eq, ← ho'.eq]; exact add_lit_off b off o
  simp [xop, execOp, h.ev (x := x) (v := .pointer (some ⟨b, off, none⟩)), h.ev (x := y) (v := .int kk (k : Int)), Instr.indexAt, asIntOf, Sem.run_bind, run_und, Instr.sureAddr, h1, run_size, e2, Int.natCast_nonneg]
  intro hle
  have := hk.lt
  omega⟩
instance kltS0 {n : Nat} : KLt 0 (n + 1) := ⟨by omega⟩
instance kltS {k n : Nat} [h : KLt k n] : KLt (k + 1) (n + 1) := ⟨by have := h.lt; omega⟩
end
end Go.Wk

namespace Go.Wk
open Go Go.Deep Go.ChangeShapes Go.WideShapes Go.ChangeAt Go.RowKit

/-! arrays of three that come in -/
structure A3 (α : Type) where
  a : α
  b : α
  c : α
def A3.l {α : Type} (x : A3 α) : List α := [x.a, x.b, x.c]
instance encA3 {α : Type} [i : Lay α] : Enc (A3 α) := ⟨3 * Enc.sz α, fun x => Enc.cells x.a ++ (Enc.cells x.b ++ Enc.cells x.c), fun x => by simp [Enc.len]; omega, fun x u hu => by
  simp only [List.mem_append] at hu
  rcases hu with h | h | h <;> exact Enc.one _ _ h⟩
instance layA3 {α : Type} [i : Lay α] : Lay (A3 α) := { encA3 with
  dflt := ⟨Lay.dflt, Lay.dflt, Lay.dflt⟩
  inn := fun w x => Lay.inn w x.a ∧ Lay.inn w x.b ∧ Lay.inn w x.c
  mono := fun w w' x h hx => ⟨Lay.mono w w' _ h hx.1, Lay.mono w w' _ h hx.2.1, Lay.mono w w' _ h hx.2.2⟩ }
theorem troA3 {P : Program} {T e : TypeId} {α : Type} [Lay α] [hT : Tro P e α] (hu : P.underlying T = some (.array 3 e)) (hs : P.cellsOf T = 3 * P.cellsOf e) : Tro P T (A3 α) := ⟨fun enc w base spare held fuel cs x h => by
  obtain ⟨xs, m, rfl, rfl, hlen, hxl, hx⟩ := DataW.trod_array hu h
  have key : ∀ i, i < 3 → ∃ a : α, (cs.drop (i * Enc.sz α)).take (Enc.sz α) = Enc.cells a ∧ Lay.inn w a := fun i hi => by
    have h1 := hx i hi
    rw [List.getElem?_eq_getElem (by omega), hT.size] at h1
    exact hT.of _ _ _ _ _ _ _ _ h1
  obtain ⟨a, ha, ia⟩ := key 0 (by omega)
  obtain ⟨b, hb, ib⟩ := key 1 (by omega)
  obtain ⟨c, hc, ic⟩ := key 2 (by omega)
  refine ⟨⟨a, b, c⟩, ?_, ia, ib, ic⟩
  rw [hs, hT.size] at hlen
  show cs = Enc.cells a ++ (Enc.cells b ++ Enc.cells c)
  rw [← ha, ← hb, ← hc]
  rw [show 0 * Enc.sz α = 0 from by omega, List.drop_zero, show 1 * Enc.sz α = Enc.sz α from by omega]
  have e3 : (cs.drop (2 * Enc.sz α)).take (Enc.sz α) = cs.drop (2 * Enc.sz α) := List.take_of_length_le (by rw [List.length_drop]; omega)
  rw [e3, show 2 * Enc.sz α = Enc.sz α + Enc.sz α from by omega, ← List.drop_drop, List.take_append_drop, List.take_append_drop],
  by rw [hs, hT.size]; rfl⟩
theorem arr3_of_Trod {P : Program} {T e : TypeId} {α : Type} [Lay α] [hT : Tro P T (A3 α)] {H : Type} {enc : TypeId × Value → H} {w : World} {base : Nat} {spare : Nat → Bool} {held : Bool} (hu : P.underlying T = some (.array 3 e)) {v : Value} {d : DataW H} {p : List MemPlace} {r : Reach} {W : World} {base' : Nat} (h : DataW.Trod enc P w base spare held T v d p) (hv : Value.okWide P W r base' T v) :
    ∃ a : A3 α, v = .agg ⟨Enc.cells a⟩ ∧ Lay.inn w a := by
  obtain ⟨cs, rfl⟩ : ∃ cs, v = .agg cs := by
    simp only [Value.okWide, hu] at hv
    obtain ⟨cs, h1, _⟩ := hv
    exact ⟨cs, h1⟩
  obtain ⟨fuel, hf⟩ := h
  obtain ⟨a, e, ha⟩ := hT.of _ _ _ _ _ _ _ _ hf
  refine ⟨a, ?_, ha⟩
  have : cs.toList = Enc.cells a := by simpa [Value.cells] using e
  rw [← this]
end Go.Wk

/- Layer 16: FreshBack. -/
namespace Go.Proofs.YtmngicgdgpimlaaGreatDoor
open Go Go.Wk
set_option synthInstance.maxSize 100000
set_option synthInstance.maxHeartbeats 400000
set_option maxRecDepth 100000

theorem small16_c (d : Nat) : ∀ (t : LTerm) (M : Nat → Prop) (w0 : World), d ≤ 30 → (∀ k, M k → k < w0.heap.size) → Stable M w0 (LtF t) → Ret Tryz.prog 14 [vL t, .int .i64 (d : Int)] w0 (fun _ => False) fun v w' => IsT M w' v (small14 d t.t) := by
  induction d using Nat.strongRecOn with
  | _ d ih =>
  intro t M w0 hd hM hf
  have hlen := LTerm.len_le hf
  refine enter Tryz.func14 rfl rfl (Wd.beginM (M := M) (fs := [LtF t]) hM (by simpa using hf)) (fun a S => ?_)
  simp only [Tryz.ntmps14, List.length_cons, List.length_nil, Nat.reduceAdd, Nat.reduceSub, List.replicate_succ, List.replicate_zero, List.cons_append, List.nil_append] at S
  refine c_seq ?_
  refine c_region ?_
  refine sa S ?_; clear S; intro b2 a w S
  refine sa S ?_; clear S; intro b4 a w S
  refine wl_nil ?_
  refine xtn ?_
  refine c_seq ?_
  refine c_region ?_
  iterate 7 (refine sq S ?_; clear S; intro a S)
  rw [show (t.text.take (min t.text.length 65)).drop 0 = t.text.take 65 from by rw [List.drop_zero, List.take_eq_take_iff]; omega] at S
  refine sq S ?_; clear S; intro a S
  refine sw S ?_; clear S; intro a w S
  refine wl_nil ?_
  refine xtn ?_
  refine c_seq ?_
  refine c_region ?_
  refine sq S ?_; clear S; intro a S
  refine wl_nil ?_
  refine xtn ?_
  iterate 2 (refine c_seq ?_)
  refine c_region ?_
  iterate 4 (refine sq S ?_; clear S; intro a S)
  refine wl_nil ?_
  refine xtn ?_
  refine c_block ?_
  replace S := S.addNil 26 5
  refine c_fore4 S (fun (k : Nat) (os : List LTerm) (p' : Option Addr) (c' : Nat) uu => [(5, .slice p' os.length c'), (0, uu 6), (0, uu 7), (11, .int .i64 (k : Nat)), (0, uu 20), (0, uu 21), (0, uu 22), (0, uu 23), (0, uu 24), (0, uu 25), (0, uu 26), (0, uu 27), (0, uu 28), (0, uu 29), (0, uu 30), (0, uu 31), (0, uu 32), (0, uu 33), (0, uu 34), (0, uu 35), (0, uu 36), (0, uu 37)]) (fun (k : Nat) (os : List LTerm) (p' : Option Addr) (c' : Nat) => [Wk.row 26 5 p' os.length c' (encL os), Wk.box b4 26 zeroL.cells, Wk.box b2 26 [.int .i64 t.kind, .int .i64 t.user, .int .i64 t.num, str (t.text.take 65), .slice t.p t.kids.length t.cap], ext M]) (fun (k : Nat) (os : List LTerm) (p' : Option Addr) (c' : Nat) => [AllI os, LtF t]) (fun (k : Nat) (os : List LTerm) (p' : Option Addr) (c' : Nat) => k ≤ t.kids.length ∧ os.map LTerm.t = small14K d ((t.kids.take k).map LTerm.t)) (fun (k : Nat) (os : List LTerm) (p' : Option Addr) (c' : Nat) => t.kids.length - k) (0) ([]) (none) (0) ?_ S.uu ?_ ?_
  · refine ⟨Nat.zero_le _, ?_⟩
    cases d <;> rfl
  · exact S.add (Φ := AllI (α := LTerm) []) AllI.nil
  · clear S; rintro k os p' c' uu a w ⟨hk, hrel⟩ S
    refine c_seq ?_
    refine c_region ?_
    refine sq S ?_; clear S; intro a S
    refine wl_nil ?_
    refine xtn ?_
    refine c_seq ?_
    refine c_cond S (fun h4 => ?_) (fun h4 => ?_)
    · refine c_skip ?_
      refine xtn ?_
      refine c_seq ?_
      refine c_block ?_
      refine c_seq ?_
      have hkl : k < t.kids.length := by simpa using h4
      have hK : KLt k t.kids.length := ⟨hkl⟩
      have hol : os.length ≤ 3 := by have := congrArg List.length hrel; rw [List.length_map] at this; have h2 := small14K_len d ((t.kids.take k).map LTerm.t); omega
      refine c_region ?_
      iterate 3 (refine sq S ?_; clear S; intro a S)
      refine sa S ?_; clear S; intro b7 a w S
      refine sq S ?_; clear S; intro a S
      refine sw S ?_; clear S; intro a w S
      refine wl_nil ?_
      refine xtn ?_
      refine c_seq ?_
      refine c_region ?_
      iterate 3 (refine sq S ?_; clear S; intro a S)
      iterate 2 (refine gQ S ?_; clear S; intro a S)
      refine sq S ?_; clear S; intro a S
      refine wl_nil ?_
      refine xtn ?_
      refine c_cond S (fun h6 => ?_) (fun h6 => ?_)
      · have h6' : k < 3 ∧ 0 < d := by simp at h6; omega
        obtain ⟨d', rfl⟩ : ∃ d', d = d' + 1 := ⟨d - 1, by omega⟩
        refine c_region ?_
        iterate 4 (refine sq S ?_; clear S; intro a S)
        rw [show IntKind.i64.wrap ((((d' + 1 : Nat) : Int)) - 1) = (d' : Int) from by rw [w64 _ (by omega) (by omega)]; omega] at S
        refine sr S (ih d' (by omega) (nthL t.kids k) _ w (by omega) (foots_lt S) (S.t (nthL t.kids k))) ?_; clear S; rintro _ a w ⟨r, rfl, hr, hrf⟩ S
        replace S := S.add hrf
        refine sn S ?_; clear S; intro b35 a w S
        refine sap S (by simp [maxLen]; omega) (by omega) ?_; clear S; rintro p7 c7 a w - S
        rw [show encL os ++ r.cells = encL (os ++ [r]) from by rw [encL_append os [r], encT_cells], show os.length + 1 = (os ++ [r]).length from by simp] at S
        refine sq S ?_; clear S; intro a S
        refine wl_nil ?_
        refine xbn ?_
        refine xtn ?_
        refine c_region ?_
        iterate 2 (refine sq S ?_; clear S; intro a S)
        refine wl_nil ?_
        refine xtn ?_
        rw [w64 ((k : Int) + 1) (by omega) (by omega)] at S
        have h1 : Stable _ _ (AllI os) := S.wd.facts (AllI os) (by simp)
        have h2 := S.t r
        replace S := S.add (AllI.snoc h1 h2)
        exact ⟨k + 1, os ++ [r], p7, c7, S.uu, ⟨hkl, by rw [small14K_more hkl h6'.1, List.map_append, hrel, List.map_singleton, hr]⟩, S.sub _ _, by omega⟩
      · refine c_skip ?_
        refine xbn ?_
        refine xtn ?_
        refine c_region ?_
        iterate 2 (refine sq S ?_; clear S; intro a S)
        refine wl_nil ?_
        refine xtn ?_
        have h6' : ¬ (k < 3 ∧ 0 < d) := fun h => by simp [h] at h6; omega
        rw [w64 ((k : Int) + 1) (by omega) (by omega)] at S
        exact ⟨k + 1, os, p', c', S.uu, ⟨hkl, by rw [small14K_same hkl h6']; exact hrel⟩, S.sub _ _, by omega⟩
    · refine c_exit ?_
      iterate 2 (refine xte ?_)
      refine xbe ?_
      refine xtn ?_
      refine c_seq ?_
      refine c_region ?_
      iterate 2 (refine sq S ?_; clear S; intro a S)
      refine sw S ?_; clear S; intro a w S
      refine wl_nil ?_
      refine xtn ?_
      refine c_seq ?_
      refine c_region ?_
      refine sq S ?_; clear S; intro a S
      refine sw S ?_; clear S; intro a w S
      refine wl_nil ?_
      refine xtn ?_
      refine c_ret ?_
      have hrow := S.row p' os.length
      have hnew := S.rowNew p' os.length
      have hall := S.laterFact (Φ := AllI os) (by simp)
      rw [List.take_of_length_le (by simp at h4; omega)] at hrel
      refine end1 S (fun _ => ?_)
      refine ⟨.mk t.kind t.user t.num (t.text.take 65) p' c' os, rfl, ?_, fun w' hw' => ?_⟩
      · rw [small14_eq, ← hrel]; exact LTerm.t_eq _
      · have hls := (gl_own hrow hall (fun ad h hm => (hnew ad h).elim id (fun h2 => by have := hM _ hm; omega))).imp fun _ h => gl_ls h
        exact ⟨own_le hrow, own_cap14 hrow, hls w' hw'⟩
theorem short_len16 (l : List LMark) : (shortL l).length ≤ 17 := by simp [shortL]; omega
end Go.Proofs.YtmngicgdgpimlaaGreatDoor

/- Layer 16: rows; FreshForged. -/
namespace Go.Proofs.YtmngicgdgpimlaaGreatDoor
open Go Go.Wk
set_option synthInstance.maxSize 100000
set_option synthInstance.maxHeartbeats 400000
set_option maxRecDepth 100000

structure LRow16 where
  user : Int
  signed : LTerm
  rows : LTerm
abbrev cRow16 (r : LRow16) : List Value := [.int .i64 r.user, .int .i64 r.signed.kind, .int .i64 r.signed.user, .int .i64 r.signed.num, str r.signed.text, .slice r.signed.p r.signed.kids.length r.signed.cap, .int .i64 r.rows.kind, .int .i64 r.rows.user, .int .i64 r.rows.num, str r.rows.text, .slice r.rows.p r.rows.kids.length r.rows.cap]
instance encRow16 : Enc LRow16 := ⟨11, cRow16, fun _ => rfl, fun x u hu => by simp only [List.mem_cons, List.not_mem_nil, or_false] at hu; rcases hu with rfl | rfl | rfl | rfl | rfl | rfl | rfl | rfl | rfl | rfl | rfl <;> rfl⟩
instance layRow16 : Lay LRow16 := { encRow16 with
  dflt := ⟨0, zeroL, zeroL⟩
  inn := fun w r => LtIn w r.signed ∧ LtIn w r.rows
  mono := fun w w' r h hw => ⟨LtIn.mono h r.signed hw.1, LtIn.mono h r.rows hw.2⟩ }
instance : SzE LRow16 11 := ⟨rfl, by decide⟩
instance {r : LRow16} : CellsOf r (cRow16 r) := ⟨rfl⟩
abbrev vRow16 (r : LRow16) : Value := .agg ⟨cRow16 r⟩
theorem row16_c (r : LRow16) (M : Nat → Prop) (w0 : World) (hM : ∀ k, M k → k < w0.heap.size) (hs : Stable M w0 (LtF r.signed)) (ht : Stable M w0 (LtF r.rows)) :
    Ret Tryz.prog 9 [vRow16 r] w0 (fun _ => False) fun v w' => ∃ s t, v = vRow16 ⟨r.user, s, t⟩ ∧ s.t = small14 24 r.signed.t ∧ t.t = small14 24 r.rows.t ∧ Stable M w' (LtF s) ∧ Stable M w' (LtF t) := by
  refine enter Tryz.func9 rfl rfl (Wd.beginM (M := M) (fs := [LtF r.signed, LtF r.rows]) hM (by simp; exact ⟨hs, ht⟩)) (fun a S => ?_)
  simp only [Tryz.ntmps9, List.length_cons, List.length_nil, Nat.reduceAdd, Nat.reduceSub, List.replicate_succ, List.replicate_zero, List.cons_append, List.nil_append] at S
  refine c_seq ?_
  refine c_region ?_
  refine sa S ?_; clear S; intro b1 a w S
  refine sa S ?_; clear S; intro b2 a w S
  refine wl_nil ?_
  refine xtn ?_
  refine c_seq ?_
  refine c_drawD [(0, true), (1, true), (2, true), (3, true), (5, true), (6, true), (4, false), (7, false), (8, true), (9, false)] [b2] S ?_; clear S; intro w S
  iterate 6 (refine dq S ?_; clear S; intro a S)
  refine dl ?_
  refine sr S (small16_c 24 r.signed _ w (by omega) (foots_lt S) (S.t r.signed)) ?_; clear S; rintro _ a w ⟨s, rfl, hst, hsf⟩ S
  replace S := S.add hsf
  refine de S ?_
  refine dl ?_
  refine sr S (small16_c 24 r.rows _ w (by omega) (foots_lt S) (S.t r.rows)) ?_; clear S; rintro _ a w ⟨t, rfl, htt, htf⟩ S
  replace S := S.add htf
  refine de S ?_
  refine dq S ?_; clear S; intro a S
  refine dl ?_
  refine sw S ?_; clear S; intro a w S
  refine de S ?_
  refine dn ?_
  refine xtn ?_
  refine c_ret ?_
  have h1 := S.laterT (M := M) s
  have h2 := S.laterT (M := M) t
  refine end1 S (fun _ => ?_)
  exact ⟨s, t, rfl, hst, htt, h1, h2⟩
theorem forged1_c (b : Nat) (r : LRow16) (x : LTerm) (w0 : World) (hb : Stable (fun _ => False) w0 (BoxF b 28 (cRow16 r))) (hr : Stable (fun _ => False) w0 (LtF r.signed)) (hx : Stable (fun _ => False) w0 (LtF x)) :
    Ret Tryz.prog 19 [vL x, .pointer (some ⟨b, 0, none⟩)] w0 (fun _ => False) fun v _ => v = .bool (sameF x.t r.signed.t) := by
  refine enter Tryz.func19 rfl rfl (Wd.begin (fs := [BoxF b 28 (cRow16 r), LtF r.signed, LtF x]) (by simp; exact ⟨hb, hr, hx⟩)) (fun a S => ?_)
  simp only [Tryz.ntmps19, List.length_cons, List.length_nil, Nat.reduceAdd, Nat.reduceSub, List.replicate_succ, List.replicate_zero, List.cons_append, List.nil_append] at S
  refine c_seq ?_
  refine c_region ?_
  refine sa S ?_; clear S; intro b2 a w S
  refine sq S ?_; clear S; intro a S
  refine wl_nil ?_
  refine xtn ?_
  refine c_seq ?_
  refine c_region ?_
  iterate 3 (refine sq S ?_; clear S; intro a S)
  refine sc S ?_; clear S; intro a w S
  refine sq S ?_; clear S; intro a S
  refine wl_nil ?_
  refine xtn ?_
  refine c_ret ?_
  refine end1 S (fun _ => rfl)
/-- who does not have a secret has no signed term that they do not know. -/
theorem forge_part {K : List Term} {km : List (List UInt8 × LTerm)} (A : Apart K km) {u n : Int} {a : Term} (hu : 1 ≤ u ∧ u ≤ 6) (h : Der K (signT u n a)) (hs : ¬ Der K (secretT u)) : ∃ e ∈ km, e.2.t = signT u n a := by
  have hc := der_can A h
  rcases can_cases A (show canF (inM km) (.mk 8 u n [] [a]) = true from hc) (by decide) with q | q
  · exact q
  · rw [signT, canF] at hc
    simp only [Bool.or_eq_true, Bool.and_eq_true, Bool.not_eq_true', decide_eq_true_eq, decide_eq_false_iff_not] at hc
    rcases hc with (hc | hc) | ⟨-, hc, -⟩
    · obtain ⟨e, he, h1⟩ := inM_iff.1 hc
      refine ⟨e, he, ?_⟩
      rw [A.names e he] at h1
      by_cases hG : Good (signT u n a)
      · exact name_inj (A.good e he).1 hG h1
      · have hG' : sizeF (signT u n a) = 0 := by
          unfold Good at hG
          exact Classical.not_not.1 hG
        rw [show nameF (.mk 8 u n [] [a]) = [] from by rw [nameF, if_pos (show sizeF (.mk 8 u n [] [a]) = 0 from hG')]] at h1
        exact absurd h1 (name_ne (A.good e he).1)
    · exact absurd hc (by decide)
    · rcases hc with hc | hc
      · exact absurd trivial hc
      · exact absurd (inM_der A.names A.good (good_secret hu) hc) hs
theorem freshforged_c (ts : List LTerm) (r : LRow16) (p : Option Addr) (c : Nat) (w0 : World) (htl : ts.length ≤ 9223372036854775807) (ht : Stable (fun _ => False) w0 LibF) (hts : Stable (fun _ => False) w0 (LsF p 0 ts)) (hs : Stable (fun _ => False) w0 (LtF r.signed)) (hr : Stable (fun _ => False) w0 (LtF r.rows)) :
    Ret Tryz.prog 4 [.slice p ts.length c, vRow16 r] w0 (fun _ => False) fun v _ => v = .bool true := by
  refine enter Tryz.func4 rfl rfl (Wd.begin (fs := [TabF, LibF, LsF p 0 ts, LtF r.signed, LtF r.rows]) (by simp; exact ⟨ht.imp fun _ h => h.1, ht, hts, hs, hr⟩)) (fun a S => ?_)
  simp only [Tryz.ntmps4, List.length_cons, List.length_nil, Nat.reduceAdd, Nat.reduceSub, List.replicate_succ, List.replicate_zero, List.cons_append, List.nil_append] at S
  refine c_seq ?_
  refine c_region ?_
  refine sa S ?_; clear S; intro b3 a w S
  refine sq S ?_; clear S; intro a S
  refine wl_nil ?_
  refine xtn ?_
  iterate 2 (refine c_seq ?_)
  refine c_region ?_
  refine sr S (wakes16_c _ (S.mem.fact0 LibF)) ?_; clear S; rintro _ a w rfl S
  refine sq S ?_; clear S; intro a S
  rw [show (!true) = false from rfl] at S
  refine wl_nil ?_
  refine xtn ?_
  refine c_condF S ?_
  refine c_skip ?_
  refine xtn ?_
  refine c_seq ?_
  refine c_region ?_
  refine sq S ?_; clear S; intro a S
  refine wl_nil ?_
  refine xtn ?_
  iterate 2 (refine c_seq ?_)
  refine c_region ?_
  iterate 3 (refine sq S ?_; clear S; intro a S)
  refine wl_nil ?_
  refine xtn ?_
  refine c_block ?_
  replace S := S.addNil 26 5
  refine c_fore4 S (fun (k : Nat) (os : List LTerm) (po : Option Addr) (co : Nat) uu => [(5, .slice po os.length co), (0, uu 6), (0, uu 7), (11, .int .i64 (k : Nat)), (0, uu 20), (0, uu 21), (0, uu 22), (0, uu 23), (0, uu 24), (0, uu 25), (0, uu 26), (0, uu 27), (0, uu 28), (0, uu 29), (0, uu 30), (0, uu 31)]) (fun (k : Nat) (os : List LTerm) (po : Option Addr) (co : Nat) => [Wk.row 26 5 po os.length co (encL os), Wk.box b3 28 (cRow16 r)]) (fun (k : Nat) (os : List LTerm) (po : Option Addr) (co : Nat) => [AllI os, TabF, LibF, LsF p 0 ts, LtF r.signed, LtF r.rows]) (fun (k : Nat) (os : List LTerm) (po : Option Addr) (co : Nat) => k ≤ ts.length ∧ os.length ≤ 8 ∧ os.length ≤ k) (fun (k : Nat) (os : List LTerm) (po : Option Addr) (co : Nat) => ts.length - k) (0) ([]) (none) (0) ?_ S.uu ?_ ?_
  · exact ⟨Nat.zero_le _, Nat.zero_le _, Nat.zero_le _⟩
  · exact S.add (Φ := AllI (α := LTerm) []) AllI.nil
  · clear S; rintro k os po co uu a w ⟨hk, ho8, hok⟩ S
    refine c_seq ?_
    refine c_region ?_
    refine sq S ?_; clear S; intro a S
    refine wl_nil ?_
    refine xtn ?_
    refine c_seq ?_
    refine c_cond S (fun h5 => ?_) (fun h5 => ?_)
    · refine c_skip ?_
      refine xtn ?_
      refine c_seq ?_
      refine c_block ?_
      refine c_seq ?_
      have hkl2 : k < ts.length := by simp at h5; omega
      have hK2 : KLt k ts.length := ⟨hkl2⟩
      refine c_region ?_
      iterate 3 (refine sq S ?_; clear S; intro a S)
      refine sa S ?_; clear S; intro b7 a w S
      refine sq S ?_; clear S; intro a S
      refine sw S ?_; clear S; intro a w S
      refine wl_nil ?_
      refine xtn ?_
      refine c_seq ?_
      refine c_region ?_
      iterate 2 (refine sq S ?_; clear S; intro a S)
      refine wl_nil ?_
      refine xtn ?_
      refine c_cond S (fun h7 => ?_) (fun h7 => ?_)
      · have hk8 : k < 8 := by simp at h7; omega
        refine c_region ?_
        iterate 2 (refine sq S ?_; clear S; intro a S)
        refine sr S (small16_c 12 (nthL ts k) _ w (by omega) (foots_lt S) (S.t (nthL ts k))) ?_; clear S; rintro _ a w ⟨q, rfl, hq, hqf⟩ S
        replace S := S.add hqf
        refine sn S ?_; clear S; intro b29 a w S
        refine sap S (by simp [maxLen]; omega) (by omega) ?_; clear S; rintro p7 c7 a w - S
        rw [show encL os ++ q.cells = encL (os ++ [q]) from by rw [encL_append os [q], encT_cells], show os.length + 1 = (os ++ [q]).length from by simp] at S
        refine sq S ?_; clear S; intro a S
        refine wl_nil ?_
        refine xbn ?_
        refine xtn ?_
        refine c_region ?_
        iterate 2 (refine sq S ?_; clear S; intro a S)
        refine wl_nil ?_
        refine xtn ?_
        rw [w64 ((k : Int) + 1) (by omega) (by omega)] at S
        have h1 : Stable _ _ (AllI os) := S.wd.facts (AllI os) (by simp)
        have h2 := S.t q
        replace S := S.add (AllI.snoc h1 h2)
        exact ⟨k + 1, os ++ [q], p7, c7, S.uu, ⟨hkl2, by simp; omega, by simp; omega⟩, S.sub _ _, by omega⟩
      · refine c_skip ?_
        refine xbn ?_
        refine xtn ?_
        refine c_region ?_
        iterate 2 (refine sq S ?_; clear S; intro a S)
        refine wl_nil ?_
        refine xtn ?_
        rw [w64 ((k : Int) + 1) (by omega) (by omega)] at S
        exact ⟨k + 1, os, po, co, S.uu, ⟨hkl2, ho8, by omega⟩, S.sub _ _, by omega⟩
    · refine c_exit ?_
      iterate 2 (refine xte ?_)
      refine xbe ?_
      refine xtn ?_
      refine c_seq ?_
      refine c_region ?_
      refine sq S ?_; clear S; intro a S
      replace S := S.rowToGl po os (e := 26) (sz := 5) (n := os.length) (c := co) (S.mem.fact (AllI os))
      replace S := S.add (Φ := LsF po 0 os) ((S.mem.fact (GlF po os)).imp fun _ h => gl_ls h)
      refine sr S (row16_c r _ w (foots_lt S) (S.t r.signed) (S.t r.rows)) ?_; clear S; rintro _ a w ⟨s, t, rfl, hss, htt, hsf, htf⟩ S
      replace S := (S.add hsf).add htf
      refine sw S ?_; clear S; intro a w S
      refine wl_nil ?_
      refine xtn ?_
      iterate 2 (refine c_seq ?_)
      refine c_region ?_
      iterate 6 (refine sq S ?_; clear S; intro a S)
      refine sr S (fread_c r.user s t _ w (foots_lt S) (S.mem.fact LibF) (S.t s) (S.t t)) ?_; clear S; rintro _ a w ⟨n1, p1, c1, m1, e1, rfl, hm1, -, h1a, h1b⟩ S
      iterate 7 (refine sq S ?_; clear S; intro a S)
      refine wl_nil ?_
      refine xtn ?_
      refine c_seq ?_
      refine c_region ?_
      iterate 2 (refine sq S ?_; clear S; intro a S)
      refine wl_nil ?_
      refine xtn ?_
      refine c_cond S (fun h12 => ?_) (fun h12 => ?_)
      · refine c_seq ?_
        refine c_region ?_
        refine sq S ?_; clear S; intro a S
        refine wl_nil ?_
        refine xtn ?_
        refine c_ret ?_
        refine xtr ?_
        refine end1 S (fun _ => rfl)
      · refine c_skip ?_
        refine xtn ?_
        refine c_seq ?_
        have he1 : e1 = 0 := by simpa using h12
        have hok1 := h1a he1
        obtain ⟨-, hom, hgs, ⟨leaf, hleaf⟩, -, -⟩ := hok1
        have hu : 1 ≤ r.user ∧ r.user ≤ 6 := by
          rw [hleaf] at hgs
          have := plain_shape (goodP hgs)
          omega
        refine c_region ?_
        iterate 3 (refine sq S ?_; clear S; intro a S)
        refine sc S ?_; clear S; intro a w S
        iterate 5 (refine sq S ?_; clear S; intro a S)
        refine wl_nil ?_
        refine xtn ?_
        iterate 2 (refine c_seq ?_)
        refine c_region ?_
        iterate 3 (refine sq S ?_; clear S; intro a S)
        iterate 2 (refine gQ S ?_; clear S; intro a S)
        refine sq S ?_; clear S; intro a S
        refine wl_nil ?_
        refine xtn ?_
        refine c_cond S (fun h15 => ?_) (fun h15 => ?_)
        · refine c_seq ?_
          refine c_region ?_
          refine sq S ?_; clear S; intro a S
          refine wl_nil ?_
          refine xtn ?_
          refine c_ret ?_
          refine xtr ?_
          refine end1 S (fun _ => rfl)
        · refine c_skip ?_
          refine xtn ?_
          refine c_seq ?_
          have h15' : chkF (os.map LTerm.t) [s.t] = 0 ∧ canB (os.map LTerm.t) s.t = true := by simpa using h15
          obtain ⟨hK, hG⟩ := chk_zero.1 h15'.1
          have hcs : chkF (os.map LTerm.t) [secretT r.user] = 0 := chk_zero.2 ⟨hK, fun x hx => by
            rcases List.mem_append.1 hx with hx | hx
            · exact hG x (List.mem_append_left _ hx)
            · obtain rfl := List.mem_singleton.1 hx
              exact good_secret hu⟩
          have hck : chkF (os.map LTerm.t) [] = 0 := chk_zero.2 ⟨hK, fun x hx => hG x (by simp at hx ⊢; exact .inl hx)⟩
          refine c_region ?_
          iterate 3 (refine sq S ?_; clear S; intro a S)
          iterate 2 (refine sc S ?_; clear S; intro a w S)
          iterate 5 (refine sq S ?_; clear S; intro a S)
          refine wl_nil ?_
          refine xtn ?_
          iterate 2 (refine c_seq ?_)
          refine c_region ?_
          iterate 3 (refine sq S ?_; clear S; intro a S)
          refine gQ S ?_; clear S; intro a S
          refine sq S ?_; clear S; intro a S
          refine wl_nil ?_
          refine xtn ?_
          refine c_cond S (fun h18 => ?_) (fun h18 => ?_)
          · refine c_seq ?_
            refine c_region ?_
            iterate 3 (refine sq S ?_; clear S; intro a S)
            refine wl_nil ?_
            refine xtn ?_
            refine c_ret ?_
            refine xtr ?_
            refine end1 S (fun _ => ?_)
            have h9 : chkF (os.map LTerm.t) [(secretL r.user).t] = 0 := hcs
            simp only [h9]; rfl
          · refine c_skip ?_
            refine xtn ?_
            refine c_seq ?_
            have hns : ¬ Der (os.map LTerm.t) (secretT r.user) := fun hd => by
              have h9 : chkF (os.map LTerm.t) [(secretL r.user).t] = 0 := hcs
              have h10 : canB (os.map LTerm.t) (secretL r.user).t = true := by
                unfold canB
                rw [if_pos h9]
                exact derB_iff.2 hd
              simp only [h9, h10] at h18
              simp at h18
            have hds : Der (os.map LTerm.t) s.t := by
              have := h15'.2
              unfold canB at this
              rw [if_pos h15'.1] at this
              exact derB_iff.1 this
            replace S := S.boxToF b3
            refine c_region ?_
            refine sq S ?_; clear S; intro a S
            refine srn S (parts_c sort_ok os po co _ (S.mem.fact0 (LsF po 0 os))) ?_; clear S; rintro _ a w ⟨pp, cp, ls, rfl, hown, hnew, hls, -, hyes, hll⟩ - S
            have hlx : ∀ x ∈ ls, Stable (fun _ => False) w (LtF x) := fun x hx => (hls x hx).less fun _ _ h => h.elim
            replace S := S.add (Φ := LsF pp 0 ls) (ls_of_own hown (fun x hx => (hls x hx).less fun k _ ⟨it, hi, _⟩ => by cases hi) (fun ad _ ⟨it, hi, _⟩ => by cases hi))
            obtain ⟨km, hA, -, hperm⟩ := hyes hck
            iterate 5 (refine sq S ?_; clear S; intro a S)
            refine wl_nil ?_
            refine xtn ?_
            refine c_seq ?_
            refine c_region ?_
            iterate 2 (refine sq S ?_; clear S; intro a S)
            rw [hck, show decide ((0 : Int) = 0) = true from rfl] at S
            refine sq S ?_; clear S; intro a S
            refine gT S ?_
            refine sq S ?_; clear S; intro a S
            refine gT S ?_
            refine sq S ?_; clear S; intro a S
            refine gT S ?_
            have hbx := S.mem.fact0 (BoxF b3 28 (cRow16 ⟨r.user, s, t⟩))
            have hsx := S.t0 s
            refine sr S (contains_c 19 [.pointer (some ⟨b3, 0, none⟩)] (fun x => sameF x.t s.t) ls pp ls.length cp _ rfl (by omega) (S.mem.fact0 (LsF pp 0 ls)) (fun x hx w' hw' => forged1_c b3 ⟨r.user, s, t⟩ x w' (hbx.later hw') (hsx.later hw') ((hlx x hx).later hw'))) ?_; clear S; rintro _ a w rfl S
            iterate 2 (refine sq S ?_; clear S; intro a S)
            refine wl_nil ?_
            refine xtn ?_
            refine c_ret ?_
            have hany : ls.any (fun x => sameF x.t s.t) = true := by
              rw [hleaf] at hds
              obtain ⟨e, he, h1⟩ := forge_part hA hu hds hns
              refine List.any_eq_true.2 ⟨e.2, hperm.mem_iff.2 (List.mem_map.2 ⟨e, he, rfl⟩), (sameF_iff _ _).2 ?_⟩
              rw [h1, hleaf]; rfl
            refine end1 S (fun _ => ?_)
            rw [hany]
end Go.Proofs.YtmngicgdgpimlaaGreatDoor

/- What rows of layer 16 are that come in. -/
namespace Go.Proofs.YtmngicgdgpimlaaGreatDoor
open Go Go.Wk
open Go.ChangeShapes Go.WideShapes Go.ChangeAt Go.RowKit
set_option maxRecDepth 100000

instance troRow16 : Tro Tryz.prog 28 LRow16 := ⟨fun enc w base spare held fuel cs x h => by
  obtain ⟨hlen, hf⟩ := trod_flds Tryz.underlying28 h
  rw [show Tryz.prog.cellsOf 28 = 11 from by kernel_rfl] at hlen
  obtain ⟨n0, y0, g0⟩ := hf 0 3 0 rfl
  obtain ⟨n1, y1, g1⟩ := hf 1 26 1 rfl
  obtain ⟨n2, y2, g2⟩ := hf 2 26 6 rfl
  obtain ⟨u, e0, i0⟩ := trod_fld (α := Int) g0 rfl
  obtain ⟨s, e1, i1⟩ := trod_fld (α := LTerm) g1 rfl
  obtain ⟨t, e2, i2⟩ := trod_fld (α := LTerm) g2 rfl
  refine ⟨⟨u, s, t⟩, ?_, i1, i2⟩
  match cs, hlen with
  | [c0, c1, c2, c3, c4, c5, d1, d2, d3, d4, d5], _ =>
    have q0 : [c0] = [.int .i64 u] := e0
    have q1 : [c1, c2, c3, c4, c5] = s.cells := e1
    have q2 : [d1, d2, d3, d4, d5] = t.cells := e2
    simp only [List.cons.injEq, and_true] at q0
    show [c0] ++ [c1, c2, c3, c4, c5] ++ [d1, d2, d3, d4, d5] = [.int .i64 u] ++ s.cells ++ t.cells
    rw [q0, q1, q2], by kernel_rfl⟩
instance troRows16 : Tro Tryz.prog 22 (Sl LRow16) := troSl Tryz.underlying22 (by kernel_rfl)
end Go.Proofs.YtmngicgdgpimlaaGreatDoor

/- FreshForged answers true at every input and leaves it as it was: the row, and the tied card. -/
namespace Go.Proofs.YtmngicgdgpimlaaGreatDoor
open Go Go.Wk
open Go.ChangeShapes Go.WideShapes Go.ChangeAt Go.RowKit
set_option maxRecDepth 100000

theorem freshforged_lifted (os : Os) (started : os.Started) (H : Type) (enc : TypeId × Value → H) :
    ReturnsInHanded {} Tryz.checked os 4 .any (fun w args => (Rows.freshForgedSpec.pre enc Tryz.prog Tryz.f4 Rows.freshForgedRow.domain false w args ∧ laidMet Tryz.prog laidL w) ∧ sizedMet enc Tryz.prog Tryz.f4 (OpenSpec.ofChange Rows.freshForgedSpec) false w args)
      (Rows.freshForgedSpec.post enc Tryz.prog Tryz.f4 false true false false) := by
  refine returnsInHanded_of_change_and (C := Tryz.checked) (X := fun w _ => laidMet Tryz.prog laidL w) (fun _ _ _ hh h => h.of_heap hh) own started (by kernel_rfl) Tryz.func4
    (ChangeSpec.witness_at (enc := enc) (C := Tryz.checked) (os := os) (X := fun w _ => laidMet Tryz.prog laidL w) false (laidWorld os) #[.slice none 0 0, .agg #[.int .i64 0, .int .i64 0, .int .i64 0, .int .i64 0, .string .empty, .slice none 0 0, .int .i64 0, .int .i64 0, .int .i64 0, .string .empty, .slice none 0 0]] 8 rfl (by kernel_rfl) (by kernel_rfl) (by kernel_rfl) (by kernel_rfl) (by kernel_rfl) (laidWorld_met os _)) ?_
  intro W base args ds gs before hval0 hW _ _ hL _
  have hval : ∀ (j : Nat) t v, Tryz.f4.params[j]? = some t → args[j]? = some v → Value.okWide Tryz.prog W .any base t v := hval0
  have hW2 := hW
  obtain ⟨p, q, hA0, hV, rfl, _, _⟩ := hW
  have hA : DataW.TrodAll enc Tryz.prog W 0 (fun _ => true) true Tryz.f4.params.toList args.toList ds p := hA0
  rw [Tryz.params4] at hA hval
  obtain ⟨v0, v1, d0, d1, p0, p1, rfl, rfl, rfl, h0, h1⟩ := trodAll_two hA
  obtain ⟨rfl, rfl⟩ := trodVars_none hV
  obtain ⟨p_ts, c_ts, ts, rfl, l_ts, m_ts, h_ts⟩ := terms_of_Trod (T := 26) Tryz.underlying24 h0 (hval 0 24 v0 rfl rfl)
  obtain ⟨r, rfl, h_r⟩ := struct_of_Trod (α := LRow16) Tryz.underlying28 h1 (hval 1 28 v1 rfl rfl)
  refine Ret.law (freshforged_c ts r p_ts c_ts W (by unfold maxLen at *; omega) (lib_of_laid hL).stable h_ts.stable (LtIn.stable h_r.1) (LtIn.stable h_r.2)) fun W1 hag => ?_
  exact ⟨_, rfl, law_post (B := 4) laidOut (by kernel_rfl) rfl rfl rfl hW2 rfl rfl rfl hag⟩
theorem freshforged_row : Rows.FreshForgedSaid :=
  OpenClaim.holds_of_wide 4 Tryz.f4 rfl rfl rfl rfl rfl rfl rfl ⟨rfl, rfl, rfl, rfl, rfl⟩ rfl rfl rfl rfl rfl (by kernel_rfl) Tryz.func4 (by kernel_rfl)
    (of_decide_eq_true (by kernel_rfl)) (by unfold Func.isWrapper; rw [if_neg (of_decide_eq_false (by kernel_rfl))]; exact ⟨rfl, rfl⟩)
    (fun os started H enc _ => freshforged_lifted os started H enc)
theorem freshforged_holds : Rows.FreshForgedCardSaid :=
  Claim7.holds_tied_plain_at .later [] [.data, .data, .data, .sentinel, .sentinel] true (true, "568664cdf213a6f988d49b98798be88feec63ce67a43b6947ef138986e76622d") true
    freshforged_row (fun _ h => by cases h) (by kernel_rfl) (fun _ h => by cases h) freshForged_row_tie rfl ⟨rfl, rfl⟩ (by kernel_rfl) rfl
    (fun f fn hf hfn => by
      obtain rfl : f = 4 := Option.some.inj ((show Tryz.prog.funcNamed "safehouse/safehouselaw16.FreshForged" = some 4 by kernel_rfl).symm.trans hf) |>.symm
      obtain rfl : fn = Tryz.f4 := (Option.some.inj (Tryz.func4.symm.trans hfn)).symm
      exact ⟨by kernel_rfl, fun j t ht => by
        rw [Tryz.params4] at ht
        have h3 : t = 24 ∨ t = 28 := by
          rcases j with _ | _ | j
          · exact .inl (by simpa using ht.symm)
          · exact .inr ((by simpa using ht.symm))
          · simp at ht
        rcases h3 with rfl | rfl
        · exact (show Tryz.prog.wantsStandIn 24 = false by kernel_rfl)
        · exact (show Tryz.prog.wantsStandIn 28 = false by kernel_rfl)⟩)
    (by kernel_rfl)
end Go.Proofs.YtmngicgdgpimlaaGreatDoor
