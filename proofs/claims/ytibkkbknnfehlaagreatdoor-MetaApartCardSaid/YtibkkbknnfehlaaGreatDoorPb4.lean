/- 4: a part of this claim's texts, joined: TreeH FreshS LaidB TreeI W7 DataA DataB MetaB MetaC MetaD RefMetaA RefNum RefNumB RefNumC RefMetaB MetaE. -/
import Derived.Test.YtibkkbknnfehlaaGreatDoorPb3
import Derived.Lib.LaidTab
import Derived.SizedLaws
import Derived.ChangeVars
import Derived.JoinedOf
import Derived.JoinedAt
import Derived.RecoverIn
import Derived.OpenShut
namespace Go.Proofs.YtibkkbknnfehlaaGreatDoor
open Go Go.Wk
set_option synthInstance.maxSize 100000
set_option synthInstance.maxHeartbeats 400000
set_option maxRecDepth 100000
def signT (u n : Int) (a : Term) : Term := .mk 8 u n [] [a]
theorem good_signK {x : LTerm} (h : Good x.t) (hk : x.kind = 8) : x.kids.length = 1 ∧ x.t = signT x.user x.num (nthL x.kids 0).t ∧ (1 ≤ x.user ∧ x.user ≤ 6) ∧ (0 ≤ x.num ∧ x.num ≤ 65535) := by
  have h' := h
  rw [x.t_eq] at h
  have hp := plain_shape (goodP h)
  rw [hk] at hp
  have hq : 1 ≤ x.user ∧ x.user ≤ 6 ∧ 0 ≤ x.num ∧ x.num ≤ 65535 ∧ x.text = [] ∧ x.kids.length = 1 := by
    rcases hp with q | q | q | q | q | q | q
    all_goals first | (obtain ⟨-, q⟩ := q; simpa using q) | omega
  obtain ⟨q1, q2, q3, q4, q5, q6⟩ := hq
  refine ⟨q6, ?_, ⟨q1, q2⟩, ⟨q3, q4⟩⟩
  obtain ⟨u, hu⟩ : ∃ u, x.kids = [u] := by
    match h : x.kids, q6 with
    | [u], _ => exact ⟨u, rfl⟩
  rw [x.t_eq, hk, q5, hu]; rfl
theorem good_sign {u n : Int} {a : Term} (hu : 1 ≤ u ∧ u ≤ 6) (hn : 0 ≤ n ∧ n ≤ 65535) (ha : Good a) (hc : cnt a ≤ 1199) (h1 : dpt a ≤ 59) : Good (signT u n a) := by
  refine good_mk ?_ (by simp; exact ha) (by simp [cntL]; omega) (by simp [dptL]; omega)
  simp [plainF, show fieldsOf 8 = 14 from rfl, show hasF 14 1 = false from by decide, show hasF 14 2 = true from by decide, show hasF 14 4 = true from by decide, show kidsF 14 = 1 from by decide, knownF, hu.1, hu.2, hn.1, hn.2]
theorem sign_c (u n : Int) (x : LTerm) (M : Nat → Prop) (w0 : World) (hM : ∀ k, M k → k < w0.heap.size) (hx : Stable M w0 (LtF x)) : Ret Tryz.prog 15 [.int .i64 u, .int .i64 n, vL x] w0 (fun _ => False) fun v w' => IsT M w' v (signT u n x.t) := by
  refine enter Tryz.func15 rfl rfl (Wd.beginM (M := M) (fs := [LtF x]) hM (by simpa using hx)) (fun a S => ?_)
  simp only [Tryz.ntmps15, List.length_cons, List.length_nil, Nat.reduceAdd, Nat.reduceSub, List.replicate_succ, List.replicate_zero, List.cons_append, List.nil_append] at S
  refine c_seq ?_; refine c_region ?_
  refine sa S ?_; clear S; intro b5 a w S
  refine sa S ?_; clear S; intro b6 a w S
  refine wl_nil ?_; refine xtn ?_; refine c_seq ?_; refine c_region ?_; refine sq S ?_; clear S; intro a S
  refine sn S ?_; clear S; intro b9 a w S
  refine sc S ?_; clear S; intro a w S
  refine sa S ?_; clear S; intro b7 a w S
  refine sw S ?_; clear S; intro a w S; refine wl_nil ?_; refine xtn ?_; refine c_seq ?_; refine c_region ?_; (iterate 3 (refine sq S ?_; clear S; intro a S)); refine sw S ?_; clear S; intro a w S; refine sq S ?_; clear S; intro a S; refine sw S ?_; clear S; intro a w S; refine wl_nil ?_; refine xtn ?_; refine c_seq ?_; refine c_region ?_; refine sq S ?_; clear S; intro a S; refine sw S ?_; clear S; intro a w S
  refine wl_nil ?_; refine xtn ?_; refine c_ret ?_
  refine end1 S (fun _ => ?_)
  refine ⟨.mk 8 u n [] (some ⟨b9, 0, none⟩) 1 [x], rfl, rfl, fun w' hw' => ?_⟩
  have h1 := S.laterFact (Φ := LtF x) (by simp) w' hw'
  exact ⟨by simp, by simp [maxLen], LsIn.of_block [x] (S.laterBox hw' b9) (fun y hy => by obtain rfl := List.mem_singleton.1 hy; exact h1)⟩
theorem good_textK {x : LTerm} (h : Good x.t) (hk : x.kind = 1) : x.t = textT x.text ∧ x.text.length ≤ 64 := by
  rw [x.t_eq] at h
  have hp := plain_shape (goodP h)
  rw [hk] at hp
  have hq : x.user = 0 ∧ x.num = 0 ∧ x.text.length ≤ 64 ∧ x.kids.length = 0 := by
    rcases hp with q | q | q | q | q | q | q
    all_goals first | (obtain ⟨-, q⟩ := q; simpa using q) | omega
  have h0 : x.kids = [] := List.eq_nil_of_length_eq_zero hq.2.2.2
  refine ⟨?_, hq.2.2.1⟩
  rw [x.t_eq, hk, hq.1, hq.2.1, h0]; rfl
open Go.ChangeShapes Go.WideShapes Go.ChangeAt Go.RowKit
theorem starE : "*" ++ "errors.errorString" = "*errors.errorString" := by decide
theorem rowE (u : TypeId) (h : Tryz.prog.typeName? 3 u = some "*errors.errorString") : u = 182 :=
  typeName_ptr_named (nm := "errors.errorString") (by rw [starE]; kernel_rfl) (by kernel_rfl) (by decide) u (by rw [starE]; exact h)
theorem pow10_data : (Rows.laid_internal_strconv_uint64pow10 : DataW Unit) = Lib.tabData .u64 Lib.pow10Tab := by kernel_rfl
theorem lib_of_laid {W : World} (h : laidMet Tryz.prog laidL W) : LibF W := by
  have h3 := h.tail.tail
  have h4 := h3.tail
  have h5 := h4.tail
  refine ⟨?_, ?_, ?_⟩
  · refine Lib.tabIs_of_head (rest := [("strconv.ErrRange", Rows.laid_strconv_ErrRange), ("strconv.ErrSyntax", Rows.laid_strconv_ErrSyntax)]) (g := 2) (t := 178) (e := 139) (n := 20) (by kernel_rfl) (by kernel_rfl) (by kernel_rfl) (by kernel_rfl) (by kernel_rfl) (by kernel_rfl) ?_
    rw [← pow10_data]; exact h3
  · obtain ⟨a, s, hv, -⟩ := laid_sentinel h5 (g := 0) (ti := 116) (by kernel_rfl) (by kernel_rfl) Tryz.underlying116 rowE Tryz.underlying182 Tryz.underlying184 rfl rfl Tryz.underlying9 (by kernel_rfl) (by kernel_rfl)
    exact ⟨_, _, hv⟩
  · obtain ⟨a, s, hv, -⟩ := laid_sentinel h4 (g := 1) (ti := 116) (by kernel_rfl) (by kernel_rfl) Tryz.underlying116 rowE Tryz.underlying182 Tryz.underlying184 rfl rfl Tryz.underlying9 (by kernel_rfl) (by kernel_rfl)
    exact ⟨_, _, hv⟩
end Go.Proofs.YtibkkbknnfehlaaGreatDoor
namespace Go.Wk
open Go
def RetP (P : Program) (f : Nat) (args : List Value) (w : World) (M : Nat → Prop) (R : Value → World → Prop) (X : List PanicEntry → World → Prop) : Prop :=
  Calls P f args.toArray w fun e w' => (∃ v, e = .returned v ∧ Agree M w w' ∧ R v w') ∨ ∃ ch, e = .panicked ch ∧ Agree M w w' ∧ X ch w'
def pch (v : Value) : List PanicEntry := [{ v := v, recovered := false }]
section
variable {P : Program} {r : Option Nat} {ops : Array Oper} {Q : Exit → Act → World → Prop} {w0 : World} {M0 : Nat → Prop} {ds : List Deferred} {a : Act} {w : World} {l l' : List Value} {bs bs' : List Item} {fs : List (World → Prop)}
  {d : Option Nat} {op : Op} {ty : TypeId} {pos : String} {af : Array Edge} {rest : List Oper} {v v' G : Value} {f : Nat} {x : Operand} {xs : List Operand} {args : List Value} {ts : Array TypeId} {j g : Nat} {pol : Bool} {cs : List Bool}
theorem cv_anyP [EntF P f] [CallTo ⟨[], l⟩ x xs f args] (S : St w0 M0 ds a w l bs fs) {R : Ending → World → Prop} (hc : Calls P f args.toArray w R)
    (K : ∀ e w', R e w' → (∃ v, e = .returned v ∧ WL P r ops Q rest (a.put d v) w') ∨ ∃ ch, e = .panicked ch ∧ Q (.panic ch) a w') :
    WL P r ops Q (⟨d, .call { callee := .value x, args := xs.toArray, argTypes := ts }, ty, pos, af, none⟩ :: rest) a w := by
  refine wl_plain rfl ?_
  rw [semAt_nd rfl]
  simp only [run_callto (f := f) (args := args) S.fr, Oper.uponIn]
  refine ⟨fun h => (by cases h), trivial, fun cs _ => ?_⟩
  obtain ⟨e, w', fr, hR, hcm, h1, h2⟩ := hc cs
  rcases K e w' hR with ⟨v, rfl, hk⟩ | ⟨ch, rfl, hk⟩
  · exact ⟨.returned v, w', fr, hk, (comesIn_wide (m := lone (Frame.enter P f args.toArray .normal) cs w) (e := .returned v)).2 hcm, h1, h2⟩
  · exact ⟨.panicked ch, w', fr, hk, (comesIn_wide (m := lone (Frame.enter P f args.toArray .normal) cs w) (e := .panicked ch)).2 hcm, h1, h2⟩
theorem srP {l' : Value → List Value} [EntF P f] [CallTo ⟨[], l⟩ x xs f args] [hp : ∀ v, PutO l d v (l' v)] (S : St w0 M0 ds a w l bs fs) {R : Value → World → Prop} {X : List PanicEntry → World → Prop} (hc : RetP P f args w (fun _ => False) R X)
    (Kp : ∀ ch w', X ch w' → St w0 M0 ds a w' l bs fs → Q (.panic ch) a w')
    (K : ∀ v a w', R v w' → St w0 M0 ds a w' (l' v) bs fs → WL P r ops Q rest a w') :
    WL P r ops Q (⟨d, .call { callee := .value x, args := xs.toArray, argTypes := ts }, ty, pos, af, none⟩ :: rest) a w := by
  refine cv_anyP S hc ?_
  rintro e w' (⟨v, rfl, ha, hR⟩ | ⟨ch, rfl, ha, hX⟩)
  · have := hp v
    have S' := S.put (d := d) (v := v)
    exact .inl ⟨v, rfl, K v _ w' hR ⟨S'.slots, S'.defers, S'.wd.step ha⟩⟩
  · exact .inr ⟨ch, rfl, Kp ch w' hX ⟨S.slots, S.defers, S.wd.step ha⟩⟩
theorem sPan {tp : TypeId} [hx : Ev ⟨[], l⟩ x (.iface tp v)] (S : St w0 M0 ds a w l bs fs) (h : St w0 M0 ds a w l bs fs → Q (.panic (pch (.iface tp v))) a w) : WL P r ops Q (⟨d, .panic x, ty, pos, af, none⟩ :: rest) a w := by
  refine wl_plain rfl ?_
  rw [semAt_nd rfl]
  have hf : a.eval x = .iface tp v := S.fr.ev
  have : (xop a.eval (.panic x) ty).run P w = .halt (.panic (.iface tp v)) w := by
    simp [xop, execOp, hf, Instr.panic, goPanic, Sem.run]
  rw [this]
  exact h S
variable {fn : Func} {R : Value → World → Prop} {X : List PanicEntry → World → Prop} {e : Exit}
theorem endP (h : bodyPost P fn (fun e w' => ∃ v, e = .returned v ∧ Agree M0 w0 w' ∧ R v w') e a w) :
    bodyPost P fn (fun e w' => (∃ v, e = .returned v ∧ Agree M0 w0 w' ∧ R v w') ∨ ∃ ch, e = .panicked ch ∧ Agree M0 w0 w' ∧ X ch w') e a w := by
  cases e <;> simp only [bodyPost] at h ⊢ <;> first | exact h | skip
  · exact ⟨h.1, h.2.choose, h.2.choose_spec.1, .inl h.2.choose_spec.2⟩
  · exact ⟨h.1, h.2.choose, h.2.choose_spec.1, .inl h.2.choose_spec.2⟩
  · exact ⟨h.1, .inl h.2⟩
  · exact .inl h
theorem endX {ch : List PanicEntry} (S : St w0 M0 [] a w l bs fs) (h : X ch w) :
    bodyPost P fn (fun e w' => (∃ v, e = .returned v ∧ Agree M0 w0 w' ∧ R v w') ∨ ∃ ch, e = .panicked ch ∧ Agree M0 w0 w' ∧ X ch w') (.panic ch) a w :=
  ⟨S.defers, .inr ⟨ch, rfl, S.wd.agree, h⟩⟩
theorem enterD {f : Nat} {fn : Func} {c : Code} {args : List Value} {l : List Value} {R : Ending → World → Prop} {M0 : Nat → Prop} {bs : List Item} {fs : List (World → Prop)}
    (hf : P.funcs[f]? = some fn) (hb : fn.body = some c) (hl : args ++ List.replicate (fn.ntmps - args.length) undef = l) (hw : Wd w M0 w bs fs)
    (h : ∀ a, St w M0 [] a w l bs fs → Wp P none c (bodyPostDIn (FW none) 0 P fn R) a w) : Calls P f args.toArray w R := by
  refine (callsIn_wide (n := 0)).1 (callsIn_of_wp_defers (F := FW none) (n := 0) hf hb trivial (h _ ⟨?_, rfl, hw⟩))
  simp [← hl]
theorem sdef {fi ca : List Value} {l' : List Value} [hx : Ev ⟨[], l⟩ x (.func (.func f) ⟨fi⟩ ⟨ca⟩)] [hp : PutO l d undef l'] (S : St w0 M0 ds a w l bs fs)
    (K : ∀ a, St w0 M0 ({ target := .fn (.func f) ⟨ca⟩, args := ⟨fi⟩ } :: ds) a w l' bs fs → WL P none ops Q rest a w) :
    WL P none ops Q (⟨d, .defer { callee := .value x, args := #[], argTypes := ts }, ty, pos, af, none⟩ :: rest) a w := by
  refine wl_plain rfl ?_
  have hf : a.eval x = .func (.func f) ⟨fi⟩ ⟨ca⟩ := S.fr.ev
  rw [Oper.semAt_none]
  have : (execOp a.eval ⟨d, .defer { callee := .value x, args := #[], argTypes := ts }, ty, pos, af, none⟩).run P w = .ok (.defer { target := .fn (.func f) ⟨ca⟩, args := ⟨fi⟩ }) w := by
    simp [execOp, resolve, hf, Deferred.ofValue]
  rw [this]
  obtain ⟨t, dd⟩ := a
  have := S.slots; simp at this; subst this
  have hd := S.defers; simp at hd; subst hd
  show WL P none ops Q rest _ w
  rw [hp.eq]
  exact K _ ⟨rfl, rfl, S.wd⟩
theorem leaveRet {g : Nat} {ca : List Value} {K : World → Prop} {Rr : Ending → World → Prop} [he : EntF P g] (hd : a.defers = [{ target := .fn (.func g) ⟨ca⟩, args := #[] }])
    (hc : CallsDIn (FW none) 0 P g ca.toArray .returning w fun e u' w' => (∃ v, e = .returned v) ∧ u' = .returning ∧ K w')
    (hk : ∀ w', K w' → ∃ v, (results fn a.tmps).run P w' = .ok v w' ∧ Rr (.returned v) w') (hx : e = .ret ∨ e = .normal := by simp) : bodyPostDIn (FW none) 0 P fn Rr e a w := by
  have key : LeavesIn (FW none) 0 P fn a.tmps Rr a.defers .returning w := by
    rw [hd]
    refine leavesIn_cons (f := g) (args := ca.toArray) (by simp) (fun h => by cases h) ?_ (fun _ _ => trivial) (hc.mono ?_)
    · have := he.run ca.toArray w
      simpa [invoke] using this
    · rintro e u' w' ⟨⟨v, rfl⟩, rfl, hK⟩
      obtain ⟨v, h1, h2⟩ := hk w' hK
      exact ⟨v, h1, h2⟩
  rcases hx with rfl | rfl <;> exact key
theorem leavePan {g : Nat} {ca : List Value} {pv : Value} {K : World → Prop} {Rr : Ending → World → Prop} [he : EntF P g] (hd : a.defers = [{ target := .fn (.func g) ⟨ca⟩, args := #[] }])
    (hc : CallsDIn (FW none) 0 P g ca.toArray (.panicking (pch pv)) w fun e u' w' => (∃ v, e = .returned v) ∧ u' = .panicking [{ v := pv, recovered := true }] ∧ K w')
    (hk : ∀ w', K w' → ∃ v, (results fn a.tmps).run P w' = .ok v w' ∧ Rr (.returned v) w') : bodyPostDIn (FW none) 0 P fn Rr (.panic (pch pv)) a w := by
  show LeavesIn (FW none) 0 P fn a.tmps Rr a.defers (.panicking (pch pv)) w
  rw [hd]
  refine leavesIn_cons (f := g) (args := ca.toArray) (by simp) (fun h => by cases h) ?_ (fun _ _ => trivial) (hc.mono ?_)
  · have := he.run ca.toArray w
    simpa [invoke] using this
  · rintro e u' w' ⟨⟨v, rfl⟩, rfl, hK⟩
    obtain ⟨v, h1, h2⟩ := hk w' hK
    exact ⟨v, h1, h2⟩
theorem callsD_catch {f : Nat} {fn : Func} {rest : Code} {id t6 t3 : Nat} {ty0 ty1 : TypeId} {pos0 pos1 : String} {af0 af1 : Array Edge} {args l : List Value} {l1 l2 : Value → List Value} {u : FrameMode} {w0 : World} {M0 : Nat → Prop} {bs : List Item} {fs : List (World → Prop)} {Rr : Ending → FrameMode → World → Prop}
    (hf : P.funcs[f]? = some fn) (hb : fn.body = some (.seq (.region id #[⟨some t6, .call { callee := .builtin .recover, args := #[], argTypes := #[] }, ty0, pos0, af0, none⟩, ⟨some t3, .assign (.tmp t6), ty1, pos1, af1, none⟩] false) rest))
    (hl : args ++ List.replicate (fn.ntmps - args.length) undef = l) (hw : Wd w0 M0 w bs fs) [hp1 : ∀ x, PutAt l t6 x (l1 x)] [hn1 : ∀ x, Nth (l1 x) t6 x] [hp2 : ∀ x, PutAt (l1 x) t3 x (l2 x)]
    (hu : u = .returning ∨ ∃ pv, u = .panicking (pch pv))
    (h : ∀ (x : Value) (u' : FrameMode), (u = .returning ∧ x = .nilIface ∧ u' = u ∨ ∃ pv, u = .panicking (pch pv) ∧ x = pv ∧ u' = .panicking [{ v := pv, recovered := true }]) →
      ∀ a, St w0 M0 [] a w (l2 x) bs fs → Wp P none rest (fun e a' w' => (e = .normal ∨ e = .ret) ∧ a'.defers = [] ∧ ∃ v, (results fn a'.tmps).run P w' = .ok v w' ∧ Rr (.returned v) u' w') a w) :
    CallsDIn (FW none) 0 P f args.toArray u w Rr := by
  have main : ∀ (c₀ : Frame) (cs : List Frame) (x : Value) (u' : FrameMode), c₀.mode = u →
      (u = .returning ∧ x = .nilIface ∧ u' = u ∨ ∃ pv, u = .panicking (pch pv) ∧ x = pv ∧ u' = .panicking [{ v := pv, recovered := true }]) →
      rest.wpSIn (FW none) 0 P (bodyPostS P fn c₀ cs Rr) ⟨(l2 x).toArray, []⟩ ({ c₀ with mode := u' } :: cs) w := by
    intro c₀ cs x u' _ hx
    refine wpSIn_of_wpIn rfl (wpIn_mono (h x u' hx ⟨(l2 x).toArray, []⟩ ⟨rfl, rfl, hw⟩) fun e a' w' hq => ?_)
    obtain ⟨he, hd, v, h1, h2⟩ := hq
    rcases he with rfl | rfl <;> exact ⟨hd, u', rfl, v, h1, h2⟩
  refine callsDIn_of_wpSIn hf hb trivial fun c₀ cs hc₀ => wpSIn_seq (wpSIn_region ?_)
  have hl' : args.toArray ++ Array.replicate (fn.ntmps - args.toArray.size) undef = l.toArray := by rw [← hl]; simp
  rw [hl']
  have step : ∀ x, ((⟨l.toArray, []⟩ : Act).put (some t6) x).put (some t3) (((⟨l.toArray, []⟩ : Act).put (some t6) x).eval (.tmp t6)) = ⟨(l2 x).toArray, []⟩ := fun x => by
    have e1 : (⟨l.toArray, []⟩ : Act).put (some t6) x = ⟨(l1 x).toArray, []⟩ := (puto1 (l := l) (l' := l1 x) (v := x) (n := t6)).eq []
    have e2 : (⟨(l1 x).toArray, []⟩ : Act).eval (.tmp t6) = x := by
      have := (hn1 x).eq
      simp [Act.eval, Array.getD_eq_getD_getElem?, this]
    rw [e1, e2]
    exact (puto1 (l := l1 x) (l' := l2 x) (v := x) (n := t3)).eq []
  have hr0 : ∀ (a : Act), (execOp a.eval ⟨some t6, .call { callee := .builtin .recover, args := #[], argTypes := #[] }, ty0, pos0, af0, none⟩).run P w = .ok .recover w := fun a => by
    simp [execOp, resolve, invoke, builtin]
  have hr1 : ∀ (a : Act), (execOp a.eval ⟨some t3, .assign (.tmp t6), ty1, pos1, af1, none⟩).run P w = .ok (.value (a.eval (.tmp t6))) w := fun a => by
    simp [execOp]
  have hcs : ({ c₀ with mode := u } : Frame) = c₀ := by subst hc₀; rfl
  rw [show List.range (#[(⟨some t6, .call { callee := .builtin .recover, args := #[], argTypes := #[] }, ty0, pos0, af0, none⟩ : Oper), ⟨some t3, .assign (.tmp t6), ty1, pos1, af1, none⟩] : Array Oper).size = [0, 1] from rfl]
  simp only [wpOpsSIn, List.getElem?_toArray, List.getElem?_cons_zero, List.getElem?_cons_succ, hr0, hr1]
  refine ⟨fun _ _ => trivial, ?_⟩
  rw [if_pos (by rfl)]
  rcases hu with rfl | ⟨pv, rfl⟩
  · have : recoverD (c₀ :: cs) = none := by simp [recoverD, hc₀]
    rw [this]
    refine ⟨fun _ _ => trivial, ?_⟩
    rw [if_pos (by rfl)]
    have hm := main c₀ cs .nilIface .returning hc₀ (.inl ⟨rfl, rfl, rfl⟩)
    rw [hcs] at hm
    rw [← step] at hm
    exact hm
  · have : recoverD (c₀ :: cs) = some (pv, { c₀ with mode := .panicking [{ v := pv, recovered := true }] } :: cs) := by simp [recoverD, hc₀, pch]
    rw [this]
    refine ⟨fun _ _ => trivial, ?_⟩
    rw [if_pos (by rfl)]
    have hm := main c₀ cs pv _ hc₀ (.inr ⟨pv, rfl, rfl, rfl⟩)
    rw [← step] at hm
    exact hm
end
theorem resC {P : Program} {fn : Func} {w0 : World} {M0 : Nat → Prop} {a : Act} {w : World} {l : List Value} {bs : List Item} {fs : List (World → Prop)} [hr : FnRes fn []] (S : St w0 M0 [] a w l bs fs) : (results fn a.tmps).run P w = .ok (.tuple #[]) w := by
  rw [S.slots, results_eq (rs := [])]; simp
theorem res3 {P : Program} {fn : Func} {t : Array Value} {w : World} {l : List Value} {bs : List Item} {r1 r2 r3 : ResultVar} {v1 v2 v3 : Value} [hr : FnRes fn [r1, r2, r3]] (hs : t = l.toArray) [h1 : ResV P l bs r1 v1] [h2 : ResV P l bs r2 v2] [h3 : ResV P l bs r3 v3] (hh : ∀ it ∈ bs, it.holds w) : (results fn t).run P w = .ok (.tuple ⟨[v1, v2, v3]⟩) w := by
  rw [hs, results_eq (rs := [r1, r2, r3])]
  simp [run_res (P := P) (l := l) (bs := bs) (rv := r1) (v := v1) w hh, run_res (P := P) (l := l) (bs := bs) (rv := r2) (v := v2) w hh, run_res (P := P) (l := l) (bs := bs) (rv := r3) (v := v3) w hh]
structure XP where
  keep : List (Nat × Value)
  dss : List Deferred
  XW : List PanicEntry → World → Prop
def XP.at (x : XP) : Exit → Act → World → Prop
  | .panic ch, a, w => (∀ p ∈ x.keep, a.tmps[p.1]? = some p.2) ∧ a.defers = x.dss ∧ x.XW ch w
  | _, _, _ => False
def XP.off (x : XP) (o : Oper) : Prop := ∀ p ∈ x.keep, o.dst ≠ some p.1
theorem XP.put {x : XP} {o : Oper} (h : x.off o) {ch : List PanicEntry} {a : Act} {v : Value} {w : World} (hp : x.at (.panic ch) (a.put o.dst v) w) : x.at (.panic ch) a w := by
  obtain ⟨h1, h2, h3⟩ := hp
  refine ⟨fun p hpk => ?_, ?_, h3⟩
  · have h1 := h1 p hpk
    have h0 := h p hpk
    cases hd : o.dst with
    | none => rw [hd] at h1; exact h1
    | some n =>
      rw [hd] at h1
      have hne : n ≠ p.1 := fun e => h0 (by rw [hd, e])
      simpa [Act.put, Array.getElem?_setIfInBounds, hne] using h1
  · cases hd : o.dst <;> rw [hd] at h2 <;> exact h2
section
variable {P : Program} {ops : Array Oper} {C : World → Prop} {X : XP}
abbrev WNX (P : Program) (ops : Array Oper) (X : XP) (i : Nat) (K : Act → World → Prop) (a : Act) (w : World) : Prop := wpOpIn (FW none) 0 P ops X.at i K a w
theorem YieldsC.wnx {i : Nat} {o : Oper} {v : Value} {a : Act} (hi : ops[i]? = some o) (hy : YieldsC P ops C o v a)
    {K : Act → World → Prop} {w : World} (hC : C w) (h : K (a.put o.dst v) w) : WNX P ops X i K a w := by
  unfold WNX wpOpIn
  simp only [hi]
  rcases hy with ⟨hw, hv⟩ | ⟨hw, rfl⟩
  · simp only [hw, if_true, Oper.wpIn, Oper.semAt_none, hv w hC, Oper.uponIn]; exact ⟨fun _ _ => trivial, h⟩
  · simp only [hw, Bool.false_eq_true, if_false]; exact ⟨fun _ _ => trivial, h⟩
theorem wnx_put {j : Nat} {oi oj : Oper} {v : Value} (hj : ops[j]? = some oj) (hap : oi.apart ops oj = true) (hoff : X.off oi)
    (hsi : ∀ cs b, oi.op ≠ .select cs b) (hsj : ∀ cs b, oj.op ≠ .select cs b) {K : Act → World → Prop} {a : Act} {w : World}
    (hy : YieldsC P ops C oi v a) (h : WNX P ops X j K (a.put oi.dst v) w) :
    WNX P ops X j (fun a' w' => YieldsC P ops C oi v a' ∧ K (a'.put oi.dst v) w') a w := by
  obtain ⟨h1, h2, h3⟩ := Oper.apart_spec hap
  have keep : ∀ (a : Act), YieldsC P ops C oi v a → ∀ u, YieldsC P ops C oi v (a.put oj.dst u) := fun a hy u =>
    hy.of_same (execOp_put oi hsi a oj.dst u h3) (wanted_put oi a oj.dst u h3)
  have keepD : ∀ d, YieldsC P ops C oi v { a with defers := d :: a.defers } := fun d => hy.of_same rfl rfl
  have lets : LetsOut X.at → LetsOut X.at := id
  unfold WNX wpOpIn at *
  simp only [hj] at *
  rw [wanted_put oj a oi.dst v h1] at h
  split
  · rename_i hw
    simp only [hw, if_true] at h
    unfold Oper.wpIn at *
    refine ⟨fun _ _ => trivial, ?_⟩
    have h := h.2
    rw [Oper.semAt_none, execOp_put oj hsj a oi.dst v h1] at h
    rw [Oper.semAt_none]
    generalize (execOp a.eval oj).run P w = r at *
    cases r with
    | ok x w' =>
      cases x <;> simp only [Oper.uponIn] at h ⊢
      case value u => exact ⟨keep a hy u, by rw [← Act.put_comm a v u h2]; exact h⟩
      case skip => exact ⟨keep a hy _, by rw [← Act.put_comm a v undef h2]; exact h⟩
      case defer d =>
        refine ⟨keep _ (keepD d) _, ?_⟩
        rw [← Act.put_comm _ v undef h2, ← Act.put_defers]
        exact h
      case enter f args =>
        refine ⟨h.1, CallsIn.mono h.2 fun e w'' he => ?_⟩
        cases e with
        | returned u => exact ⟨keep a hy u, by rw [← Act.put_comm a v u h2]; exact he⟩
        | panicked c => exact XP.put hoff he
        | outgrown => exact he
      case row row args => exact ⟨h.1, RowsIn.mono h.2 fun u w'' he => ⟨keep a hy u, by rw [← Act.put_comm a v u h2]; exact he⟩⟩
      case round l f tmps assign body =>
        refine ⟨h.1, RoundIn.mono h.2 fun e w'' he => ?_⟩
        cases e with
        | returned u => exact ⟨keep a hy u, by rw [← Act.put_comm a v u h2]; exact he⟩
        | panicked c => exact XP.put hoff he
        | outgrown => exact he
    | halt x w' =>
      cases x <;> simp only [Oper.uponIn] at h ⊢
      case panic u => exact XP.put hoff h
  · rename_i hw
    simp only [hw] at h
    exact ⟨fun _ _ => trivial, keep a hy _, by rw [← Act.put_comm a v undef h2]; exact h.2⟩
def ACX (P : Program) (ops : Array Oper) (X : XP) (C : World → Prop) (R : Act → World → Prop) : Nat → Array Bool → Act → World → Prop
  | 0, listed, a, w => Region.ready .any ops listed = [] ∧ R a w
  | fuel + 1, listed, a, w =>
    (Region.ready .any ops listed = [] → R a w) ∧
    ∀ i ∈ Region.ready .any ops listed, WNX P ops X i (fun a' w' => C w' ∧ ACX P ops X C R fuel (listed.setIfInBounds i true) a' w') a w
variable {R : Act → World → Prop}
theorem acx_first {i : Nat} {oi : Oper} {v : Value} (hi : ops[i]? = some oi) (hoff : X.off oi) (hsel : ∀ (j : Nat) (o : Oper) cs b, ops[j]? = some o → o.op ≠ .select cs b) :
    ∀ (fuel : Nat) (listed : Array Bool) (a : Act) (w : World),
      (∀ j oj, ops[j]? = some oj → j ≠ i → listed.getD j true = false → (∀ e ∈ oj.after, Region.binds .any e = true → e.on ≠ i) → oi.apart ops oj = true) →
      i ∈ Region.ready .any ops listed → YieldsC P ops C oi v a → C w →
      ACX P ops X C R fuel (listed.setIfInBounds i true) (a.put oi.dst v) w → ACX P ops X C R (fuel + 1) listed a w := by
  intro fuel
  induction fuel with
  | zero =>
    intro listed a w _ hr hy hS H
    refine ⟨fun h => (by rw [h] at hr; cases hr), fun j hj => ?_⟩
    by_cases hji : j = i
    · subst hji; exact hy.wnx hi hS ⟨hS, H⟩
    · have := ready_mono hj hji
      rw [H.1] at this
      cases this
  | succ fuel ih =>
    intro listed a w hfree hr hy hS H
    refine ⟨fun h => (by rw [h] at hr; cases hr), fun j hj => ?_⟩
    by_cases hji : j = i
    · subst hji; exact hy.wnx hi hS ⟨hS, H⟩
    · have h1 := H.2 j (ready_mono hj hji)
      obtain ⟨hjun, oj, hoj, hall⟩ := mem_ready.1 hj
      have hnot : ∀ e ∈ oj.after, Region.binds .any e = true → e.on ≠ i := fun e he hb heq => by
        have h1 := hall e he hb
        have h0 := (mem_ready.1 hr).1
        rw [heq] at h1
        rcases Nat.lt_or_ge i listed.size with h' | h'
        · simp [h'] at h0 h1; rw [h0] at h1; cases h1
        · simp [Array.getElem?_eq_none h'] at h1
      have h2 := wnx_put hoj (hfree j oj hoj hji hjun hnot) hoff (fun cs b => hsel i oi cs b hi) (fun cs b => hsel j oj cs b hoj) hy h1
      have hfree' : ∀ k ok, ops[k]? = some ok → k ≠ i → (listed.setIfInBounds j true).getD k true = false →
          (∀ e ∈ ok.after, Region.binds .any e = true → e.on ≠ i) → oi.apart ops ok = true := fun k ok hk hki hun hno => by
        refine hfree k ok hk hki ?_ hno
        by_cases hjk : j = k
        · subst hjk; exact hjun
        · rw [getD_set_ne true hjk] at hun; exact hun
      refine wpOpIn_mono (fun a' w' h3 => ⟨h3.2.1, ih (listed.setIfInBounds j true) a' w' hfree' (ready_mono hr (Ne.symm hji)) h3.1 h3.2.1 ?_⟩) h2
      rw [Array.setIfInBounds_comm _ _ hji]
      exact h3.2.2
variable {r : Option Nat} {Q : Exit → Act → World → Prop} {w0 : World} {M0 : Nat → Prop} {ds : List Deferred} {a : Act} {w : World} {l l' : List Value} {bs bs' bs0 : List Item} {fs fs0 : List (World → Prop)}
  {d : Option Nat} {op : Op} {ty : TypeId} {pos : String} {af : Array Edge} {rest : List Oper} {v v' G : Value} {j g : Nat} {pol : Bool} {cs : List Bool} {n : Nat} {listed : Array Bool}
def XP.offB (x : XP) (ops : Array Oper) : Bool := ops.toList.all fun o => x.keep.all fun p => match o.dst with | some n => !Nat.beq n p.1 | none => true
theorem XP.offB_spec {x : XP} {ops : Array Oper} (h : x.offB ops = true) {i : Nat} {o : Oper} (hi : ops[i]? = some o) : x.off o := by
  intro p hp e
  have h1 := List.all_eq_true.1 (List.all_eq_true.1 h o (by rw [← Array.getElem?_toList] at hi; exact List.mem_of_getElem? hi)) p hp
  rw [e] at h1
  simp at h1
def AQX (P : Program) (ops : Array Oper) (X : XP) (C : World → Prop) (R : Act → World → Prop) (ord : List (Nat × Bool)) (a : Act) (w : World) : Prop :=
  ∀ listed, Region.noSelect ops = true → X.offB ops = true → flowFrom ops ord listed = true → ACX P ops X C R ord.length listed a w
variable {ord : List (Nat × Bool)} {i : Nat}
theorem dqX (S : St w0 M0 ds a w l bs fs) [hb : SubL bs0 bs] [hf : SubL fs0 fs] [ho : OpAt ops i ⟨d, op, ty, pos, af, none⟩] [hq : OpQ P op ty ⟨[], l⟩ bs0 fs0 v] [hp : PutO l d v l']
    (K : ∀ a, St w0 M0 ds a w l' bs fs → AQX P ops X (fun w => Wd w0 M0 w bs0 fs0) R ord a w) :
    AQX P ops X (fun w => Wd w0 M0 w bs0 fs0) R ((i, true) :: ord) a w := by
  intro listed hs hx hflow
  simp only [flowFrom, Bool.and_eq_true] at hflow
  refine acx_first ho.eq (XP.offB_spec hx ho.eq) (Region.noSelect_spec hs) _ listed a w (Region.free_spec ho.eq hflow.1.2) (by simpa using hflow.1.1) (v := v) (.inl ⟨rfl, fun w' hw' => ?_⟩) (S.wd.sub hb.sub hf.sub) (K _ S.put _ hs hx hflow.2)
  rw [execOp_eq]
  exact hq.run a.eval w' S.fr hw'.mem
theorem dlX {o : Oper} {C : World → Prop} [ho : OpAt ops i o] (h : WL P none ops (fun e a' w' => (e = .normal ∧ C w' ∧ AQX P ops X C R ord a' w') ∨ X.at e a' w') [o] a w) : AQX P ops X C R ((i, false) :: ord) a w := by
  intro listed hs hx hflow
  simp only [flowFrom, Bool.and_eq_true] at hflow
  have hr : Region.ready .any ops listed = [i] := by
    have := hflow.1
    split at this
    · rename_i k hk; rw [hk, Nat.eq_of_beq_eq_true this]
    · cases this
  refine ⟨fun h0 => (by rw [h0] at hr; cases hr), fun k hk => ?_⟩
  rw [hr] at hk
  obtain rfl : k = i := by simpa using hk
  have nor : ∀ {p : Prop} {a' : Act} {w' : World}, ((p ∧ C w' ∧ AQX P ops X C R ord a' w') ∨ X.at .normal a' w') → C w' ∧ ACX P ops X C R ord.length (listed.setIfInBounds k true) a' w' := by
    rintro p a' w' (⟨-, h1, h2⟩ | h)
    · exact ⟨h1, h2 _ hs hx hflow.2⟩
    · exact h.elim
  have pan : ∀ {c : List PanicEntry} {a' : Act} {w' : World}, ((Exit.panic c = Exit.normal ∧ C w' ∧ AQX P ops X C R ord a' w') ∨ X.at (.panic c) a' w') → X.at (.panic c) a' w' := by
    rintro c a' w' (⟨h, -⟩ | h)
    · cases h
    · exact h
  unfold WNX wpOpIn
  simp only [ho.eq]
  simp only [WL, wpListIn] at h
  split
  · rename_i hw
    rw [if_pos hw] at h
    refine ⟨fun _ _ => trivial, ?_⟩
    have h := h.2
    generalize (o.semAt (FW none).round a.eval).run P w = q at *
    cases q with
    | ok x w' =>
      cases x <;> simp only [Oper.uponIn] at h ⊢
      case value u => exact nor h
      case skip => exact nor h
      case defer d => exact nor h
      case enter f args =>
        refine ⟨h.1, CallsIn.mono h.2 fun e w'' he => ?_⟩
        cases e with
        | returned u => simp only [true_and] at he; exact nor (p := True) (by simpa using he)
        | panicked c => exact pan he
        | outgrown => obtain ⟨_, _, he⟩ := he; rcases he with ⟨he, _⟩ | he <;> first | cases he | exact he.elim
      case row row args => exact ⟨h.1, RowsIn.mono h.2 fun u w'' he => nor he⟩
      case round l f tmps assign body =>
        refine ⟨h.1, RoundIn.mono h.2 fun e w'' he => ?_⟩
        cases e with
        | returned u => simp only [true_and] at he; exact nor (p := True) (by simpa using he)
        | panicked c => exact pan he
        | outgrown => obtain ⟨_, _, he⟩ := he; rcases he with ⟨he, _⟩ | he <;> first | cases he | exact he.elim
    | halt x w' =>
      cases x <;> simp only [Oper.uponIn] at h ⊢
      case panic u => exact pan h
  · rename_i hw
    rw [if_neg hw] at h
    exact ⟨fun _ _ => trivial, nor h.2⟩
theorem deX [hb : SubL bs0 bs] [hf : SubL fs0 fs] (S : St w0 M0 ds a w l bs fs) (h : AQX P ops X (fun w => Wd w0 M0 w bs0 fs0) R ord a w) : WL P none ops (fun e a' w' => (e = .normal ∧ Wd w0 M0 w' bs0 fs0 ∧ AQX P ops X (fun w => Wd w0 M0 w bs0 fs0) R ord a' w') ∨ X.at e a' w') [] a w :=
  wl_nil (.inl ⟨rfl, S.wd.sub hb.sub hf.sub, h⟩)
theorem dnX {C : World → Prop} (h : R a w) : AQX P ops X C R [] a w := by
  intro listed hs _ hflow
  have hr : Region.ready .any ops listed = [] := by simpa [flowFrom] using hflow
  exact ⟨hr, h⟩
theorem XP.of {ch : List PanicEntry} {K : Prop} (S : St w0 M0 ds a w l bs fs) (hk : ∀ p ∈ X.keep, l[p.1]? = some p.2) (hd : ds = X.dss) (h : X.XW ch w) : K ∨ X.at (.panic ch) a w :=
  .inr ⟨fun p hp => by rw [S.slots]; simpa using hk p hp, by rw [S.defers, hd], h⟩
theorem wnx_round {i : Nat} {K : Act → World → Prop} (hQ : ∀ ch a w, X.at (.panic ch) a w → Q (.panic ch) a w) (hd : ∀ (i : Nat) o, ops[i]? = some o → isDefer o.op = false) (h : WNX P ops X i K a w) : wpOpIn (FW r) 0 P ops Q i K a w := by
  unfold WNX wpOpIn at *
  cases ho : ops[i]? with
  | none => simp only [ho] at h ⊢; exact h
  | some o =>
    simp only [ho] at h ⊢
    split
    · rename_i hw
      rw [if_pos hw] at h
      refine ⟨fun _ _ => trivial, ?_⟩
      have h := h.2
      rw [show (FW none).round = none from rfl] at h
      rw [show (FW r).round = r from rfl, semAt_any (hd i o ho)]
      generalize (o.semAt none a.eval).run P w = q at *
      cases q with
      | ok x w' =>
        cases x <;> simp only [Oper.uponIn] at h ⊢ <;> first | exact h | skip
        case enter f args =>
          refine ⟨fun h => (by cases h), trivial, fun cs _ => ?_⟩
          obtain ⟨e, w', fr, hR, hcm, h1, h2⟩ := h.2.2 cs (room_wide _)
          refine ⟨e, w', fr, ?_, hcm, h1, h2⟩
          cases e with
          | returned v => exact hR
          | panicked c => exact hQ _ _ _ hR
          | outgrown => obtain ⟨_, _, hR⟩ := hR; exact hR.elim
        case round l f tmps assign body =>
          refine ⟨fun h => (by cases h), trivial, fun c cs _ => ?_⟩
          obtain ⟨e, w', hR, hcm⟩ := h.2.2 c cs (room_wide _)
          refine ⟨e, w', ?_, hcm⟩
          cases e with
          | returned v => exact hR
          | panicked c => exact hQ _ _ _ hR
          | outgrown => obtain ⟨_, _, hR⟩ := hR; exact hR.elim
      | halt x w' =>
        cases x <;> simp only [Oper.uponIn] at h ⊢
        case panic u => exact hQ _ _ _ h
    · rename_i hw
      rw [if_neg hw] at h
      exact ⟨fun _ _ => trivial, h.2⟩
theorem any_of_acx (hQ : ∀ ch a w, X.at (.panic ch) a w → Q (.panic ch) a w) (hd : ∀ (i : Nat) o, ops[i]? = some o → isDefer o.op = false) : ∀ (fuel : Nat) (listed : Array Bool) (a : Act) (w : World), ACX P ops X C (fun a w => Q .normal a w) fuel listed a w → wpAnyIn (FW r) 0 P .any ops Q fuel listed a w
  | 0, _, _, _, h => h
  | fuel + 1, _, _, _, h => ⟨h.1, fun i hi => wnx_round hQ hd (wpOpIn_mono (fun a' w' h' => any_of_acx hQ hd fuel _ a' w' h'.2) (h.2 i hi))⟩
theorem c_drawX {id : Nat} {lo : List Oper} (ord : List (Nat × Bool)) (ids : List Nat) [DropBs bs ids bs0] (X : XP) (S : St w0 M0 ds a w l bs fs) (hQ : ∀ ch a w, X.at (.panic ch) a w → Q (.panic ch) a w)
    (h : ∀ w, St w0 M0 ds a w l bs fs → AQX P lo.toArray X (fun w => Wd w0 M0 w bs0 fs) (fun a w => Q .normal a w) ord a w)
    (hm : P.follows .mixedOrders = true := by kernel_rfl) (hx : X.offB lo.toArray = true := by kernel_rfl) (hd : ((lo.all fun o => !isDefer o.op) && (Nat.beq ord.length lo.length && (Region.noSelect lo.toArray && flowFrom lo.toArray ord (Array.replicate lo.length false)))) = true := by kernel_rfl) : Wp P r (.region id lo.toArray true) Q a w := by
  simp only [Bool.and_eq_true] at hd
  refine wpIn_region_any hm (any_of_acx (C := fun w => Wd w0 M0 w bs0 fs) hQ (fun i o ho => ?_) _ _ _ _ ?_)
  · have := List.all_eq_true.1 hd.1 o (by
      rw [List.getElem?_toArray] at ho
      exact List.mem_of_getElem? ho)
    simpa using this
  · have := h { w with drawn := w.drawn + 1 } ⟨S.slots, S.defers, S.wd.step (Agree.drawn _ w _)⟩ _ hd.2.2.1 hx hd.2.2.2
    rw [Nat.eq_of_beq_eq_true hd.2.1] at this
    simpa using this
end
theorem decode_lo (s : ByteArray) (i : Nat) (h : (s.get! i).toNat < 128) : Utf8.decode s i = ((s.get! i).toNat, 1) := by
  unfold Utf8.decode
  simp only [Nat.add_zero]
  rw [if_pos h]
theorem decode_hi (s : ByteArray) (i : Nat) (h : ¬ (s.get! i).toNat < 128) : 128 ≤ (Utf8.decode s i).1 ∧ 1 ≤ (Utf8.decode s i).2 := by
  unfold Utf8.decode
  simp only [Nat.add_zero]
  rw [if_neg h]
  repeat' split
  all_goals (try simp only [Bool.and_eq_true, decide_eq_true_eq, ge_iff_le] at *)
  all_goals (constructor <;> first | omega | (simp only [Utf8.runeError]; omega))
def sti (r : Nat) (s : List UInt8) (i : Nat) : Item where
  foot := fun k => k = r
  holds := fun w => w.heap[r]? = some (.stringIter ⟨s.toArray⟩ i)
theorem sti_loc (r : Nat) (s : List UInt8) (i : Nat) (w1 w2 : World) (h : ∀ k, (sti r s i).foot k → w2.heap[k]? = w1.heap[k]?) (h1 : (sti r s i).holds w1) : (sti r s i).holds w2 := (h r rfl).trans h1
class HasSti (bs : List Item) (r : Nat) (s : outParam (List UInt8)) (i : outParam Nat) : Prop where mem : sti r s i ∈ bs
instance hsti0 {r : Nat} {s : List UInt8} {i : Nat} {bs : List Item} : HasSti (sti r s i :: bs) r s i := ⟨List.mem_cons_self ..⟩
section
variable {P : Program} {r0 : Option Nat} {ops : Array Oper} {Q : Exit → Act → World → Prop} {w0 : World} {M0 : Nat → Prop} {ds : List Deferred} {a : Act} {w : World} {l : List Value} {bs : List Item} {fs : List (World → Prop)}
  {d : Option Nat} {op : Op} {ty : TypeId} {pos : String} {af : Array Edge} {rest : List Oper} {t kt et : TypeId} {x : Operand} {b r i : Nat} {s : List UInt8}
theorem sstr0 {l' : Nat → List Value} (S : St w0 M0 ds a w l bs fs) [Ev ⟨[], l⟩ x (str s)] [ht : Und P t .string] [hp : ∀ r, PutO l d (.pointer (some ⟨r, 0, none⟩)) (l' r)]
    (K : ∀ r a w, St w0 M0 ds a w (l' r) (sti r s 0 :: bs) fs → WL P r0 ops Q rest a w) : WL P r0 ops Q (⟨d, .range t x, ty, pos, af, none⟩ :: rest) a w := by
  refine wl_plain rfl ?_
  rw [semAt_nd rfl]
  have e1 : (xop a.eval (.range t x) ty).run P w = .ok (.value (.pointer (some ⟨w.heap.size, 0, none⟩))) (w.alloc (.stringIter ⟨s.toArray⟩ 0)) := by
    have h2 : (Instr.range t (str s)).run P w = .ok (.pointer (some ⟨w.heap.size, 0, none⟩)) (w.alloc (.stringIter ⟨s.toArray⟩ 0)) := by
      simp [Instr.range, str, Sem.run_bind, run_und, newObj, Sem.run]
    simp [xop, execOp, S.fr.ev (x := x) (v := str s), h2]
  simp only [e1, Oper.uponIn]
  have := hp w.heap.size
  have S' := S.put (d := d) (v := .pointer (some ⟨w.heap.size, 0, none⟩))
  refine K _ _ _ ⟨S'.slots, S'.defers, (S.wd.step (Agree.alloc _ w _)).more (y := sti w.heap.size s 0) (heap_alloc_new w _) (fun k hk => by cases hk; exact S.wd.agree.size) (fun k hk => by cases hk; simp) (fun it hi k hk hk' => by cases hk; exact absurd (S.wd.lt it hi _ hk') (Nat.lt_irrefl _)) ?_ (sti_loc _ _ _)⟩
  intro Φ hΦ w' hw'
  refine S.wd.facts Φ hΦ w' ((Agree.alloc _ w _).trans' hw' fun i hi => ?_)
  rintro ⟨it, hm, hf⟩
  rcases List.mem_cons.1 hm with rfl | hm
  · cases hf; omega
  · exact ⟨it, hm, hf⟩
def nxS (more : Bool) (i c : Nat) : Value := bif more then .tuple ⟨[.bool true, .int .i64 (i : Int), .int .i32 (c : Int)]⟩ else .tuple ⟨[.bool false]⟩
instance (priority := 1100) opExtNxS {l : Cx} {more : Bool} {i c : Nat} [Ev l x (nxS more i c)] : OpQ P (.extract x 0) ty l bs fs (.bool more) := ⟨fun ρ w h _ => by
  cases more <;> simp [xop, execOp, h.ev (x := x) (v := nxS _ i c), nxS, Instr.extract]⟩
instance (priority := 1100) opExtNxS2 {l : Cx} {i c : Nat} [Ev l x (nxS true i c)] : OpQ P (.extract x 2) ty l bs fs (.int .i32 (c : Int)) := ⟨fun ρ w h _ => by
  simp [xop, execOp, h.ev (x := x) (v := nxS true i c), nxS, Instr.extract]⟩
theorem snxs {l' : Bool → Nat → List Value} {bs' : Nat → List Item} (S : St w0 M0 ds a w l bs fs) [Ev ⟨[], l⟩ x (.pointer (some ⟨r, 0, none⟩))] [hm : HasSti bs r s i] [hrep : ∀ j, ReplI bs (sti r s i) (sti r s j) (bs' j)] [hp : ∀ m c, PutO l d (nxS m i c) (l' m c)]
    (K : ∀ (more : Bool) (c wd : Nat) a w, (more = false → s.length ≤ i) → (more = true → i < s.length ∧ ((s.getD i 0).toNat < 128 → c = (s.getD i 0).toNat ∧ wd = 1) ∧ (¬ (s.getD i 0).toNat < 128 → 128 ≤ c)) → St w0 M0 ds a w (l' more c) (bs' (bif more then i + wd else i)) fs → WL P r0 ops Q rest a w) :
    WL P r0 ops Q (⟨d, .next x true, ty, pos, af, none⟩ :: rest) a w := by
  refine wl_plain rfl ?_
  rw [semAt_nd rfl]
  have hold : w.heap[r]? = some (.stringIter ⟨s.toArray⟩ i) := S.wd.held _ hm.mem
  have hx : a.eval x = .pointer (some ⟨r, 0, none⟩) := S.fr.ev
  have hlt : r < w.heap.size := (Array.getElem?_eq_some_iff.1 hold).1
  have hobj : (getObj r).run P w = .ok (.stringIter ⟨s.toArray⟩ i) w := by simp [getObj, Sem.run, hold]
  have hget : (⟨s.toArray⟩ : ByteArray).get! i = s.getD i 0 := by
    show s.toArray[i]! = _
    simp [List.getD_eq_getElem?_getD]
    rfl
  have hsz : (⟨s.toArray⟩ : ByteArray).size = s.length := by simp [ByteArray.size]
  by_cases hi : i < s.length
  · have e1 : (xop a.eval (.next x true) ty).run P w = .ok (.value (nxS true i (Utf8.decode ⟨s.toArray⟩ i).1)) (w.putObj r (.stringIter ⟨s.toArray⟩ (i + (Utf8.decode ⟨s.toArray⟩ i).2))) := by
      simp only [xop, execOp, hx, Instr.next, Sem.run_bind, hobj, Result.andThen, hsz, hi, if_true]
      simp [setObj, Sem.run, hold, World.putObj, nxS, goInt]
    simp only [e1, Oper.uponIn]
    have := hp true (Utf8.decode ⟨s.toArray⟩ i).1
    have S' := S.put (d := d) (v := nxS true i (Utf8.decode ⟨s.toArray⟩ i).1)
    refine K true _ _ _ _ (fun h => by cases h) (fun _ => ⟨hi, fun h => ?_, fun h => ?_⟩) (S.reput (x := sti r s i) (y := sti r s (i + (Utf8.decode ⟨s.toArray⟩ i).2)) S'.slots S'.defers (hr := hrep _) rfl (Agree.putObj w r _ rfl) (World.putObj_heap_same hlt) (fun k hk => .inl hk) (fun k hk => by cases hk; simpa using hlt) (sti_loc _ _ _))
    · rw [← hget] at h ⊢
      rw [decode_lo _ _ h]; exact ⟨rfl, rfl⟩
    · rw [← hget] at h
      exact (decode_hi _ _ h).1
  · have e1 : (xop a.eval (.next x true) ty).run P w = .ok (.value (nxS false i 0)) w := by
      simp only [xop, execOp, hx, Instr.next, Sem.run_bind, hobj, Result.andThen, hsz, hi, if_false]
      simp [nxS]
    simp only [e1, Oper.uponIn]
    have := hp false 0
    have S' := S.put (d := d) (v := nxS false i 0)
    have hr0 := hrep i
    obtain ⟨pre, post, rfl, hb⟩ := hr0.ex
    refine K false 0 0 _ _ (fun _ => by omega) (fun h => by cases h) ?_
    show St _ _ _ _ _ _ (bs' i) _
    rw [hb]
    exact S'
end
instance opErrN {P : Program} {l : Cx} {bs : List Item} {fs : List (World → Prop)} {x : Operand} {t t' ty : TypeId} {b : Bool} {te : TypeId} {pe : Value} [Ev l x (errV b te pe)] [hi : IfT P t] : OpQ P (.binOp .neq t x (.const .nilIface) t') ty l bs fs (.bool (!b)) := ⟨fun ρ w h _ => by
  have e2 : ρ (.const .nilIface) = .nilIface := h.ev (x := .const .nilIface) (v := .nilIface)
  cases b <;> simp [xop, execOp, h.ev (x := x) (v := errV _ te pe), e2, errV, eqGuard, binOp, Sem.run_bind, run_equal_held_nil w t te pe hi.eq, run_equal_nil_nil w t hi.eq]⟩
instance opNilN {P : Program} {l : Cx} {bs : List Item} {fs : List (World → Prop)} {x : Operand} {t t' ty : TypeId} [Ev l x .nilIface] [hi : IfT P t] : OpQ P (.binOp .neq t x (.const .nilIface) t') ty l bs fs (.bool false) := ⟨fun ρ w h _ => by
  have e2 : ρ (.const .nilIface) = .nilIface := h.ev (x := .const .nilIface) (v := .nilIface)
  simp [xop, execOp, h.ev (x := x) (v := .nilIface), e2, eqGuard, binOp, run_equal_nil_nil w t hi.eq]⟩
instance opIfN {P : Program} {l : Cx} {bs : List Item} {fs : List (World → Prop)} {x : Operand} {t t' ty : TypeId} {te : TypeId} {pe : Value} [Ev l x (.iface te pe)] [hi : IfT P t] : OpQ P (.binOp .neq t x (.const .nilIface) t') ty l bs fs (.bool true) := ⟨fun ρ w h _ => by
  have e2 : ρ (.const .nilIface) = .nilIface := h.ev (x := .const .nilIface) (v := .nilIface)
  simp [xop, execOp, h.ev (x := x) (v := .iface te pe), e2, eqGuard, binOp, run_equal_held_nil w t te pe hi.eq]⟩
class StT (P : Program) (t : TypeId) : Prop where ex : ∃ fs, P.underlying t = some (.struct fs)
instance opAssert {P : Program} {l : Cx} {bs : List Item} {fs : List (World → Prop)} {x : Operand} {tx t ty : TypeId} {pe : Value} [Ev l x (.iface t pe)] [hs : StT P t] : OpQ P (.typeAssert x tx t true) ty l bs fs (.tuple ⟨[pe, .bool true]⟩) := ⟨fun ρ w h _ => by
  obtain ⟨fs, hf⟩ := hs.ex
  simp [xop, execOp, h.ev (x := x) (v := .iface t pe), Instr.typeAssert, Sem.run_bind, run_underlying hf w]⟩
instance opMkIf {P : Program} {l : Cx} {bs : List Item} {fs : List (World → Prop)} {x : Operand} {t ty : TypeId} {v : Value} [Ev l x v] [hs : StT P t] : OpQ P (.makeInterface t x) ty l bs fs (.iface t v) := ⟨fun ρ w h _ => by
  obtain ⟨fs, hf⟩ := hs.ex
  simp [xop, execOp, h.ev (x := x) (v := v), Instr.makeInterface, Sem.run_bind, run_underlying hf w]⟩
section
variable {P : Program} {ls : Cx} {bs : List Item} {fs : List (World → Prop)} {x y : Operand} {b off k n sz o o' : Nat} {kk : IntKind} {m : Int} {t ty e : TypeId} {z : Value} {by_ : Nat}
end
open Go Go.Deep Go.ChangeShapes Go.WideShapes Go.ChangeAt Go.RowKit
structure A3 (α : Type) where
  a : α
  b : α
  c : α
def A3.l {α : Type} (x : A3 α) : List α := [x.a, x.b, x.c]
instance encA3 {α : Type} [i : Lay α] : Enc (A3 α) := ⟨3 * Enc.sz α, fun x => Enc.cells x.a ++ (Enc.cells x.b ++ Enc.cells x.c), fun x => by simp [Enc.len]; omega, fun x u hu => by
  simp only [List.mem_append] at hu
  rcases hu with h | h | h <;> exact Enc.one _ _ h⟩
instance layA3 {α : Type} [i : Lay α] : Lay (A3 α) := { encA3 with
  dflt := ⟨Lay.dflt, Lay.dflt, Lay.dflt⟩
  inn := fun w x => Lay.inn w x.a ∧ Lay.inn w x.b ∧ Lay.inn w x.c
  mono := fun w w' _x h hx => ⟨Lay.mono w w' _ h hx.1, Lay.mono w w' _ h hx.2.1, Lay.mono w w' _ h hx.2.2⟩ }
end Go.Wk
namespace Go.Proofs.YtibkkbknnfehlaaGreatDoor
open Go Go.Wk
set_option synthInstance.maxSize 100000
set_option synthInstance.maxHeartbeats 400000
set_option maxRecDepth 100000
def chB (c : UInt8) : Bool := decide (33 ≤ c.toNat) && decide (c.toNat ≤ 126)
def nameB (s : List UInt8) : Bool := s.all chB && decide (1 ≤ s.length) && decide (s.length ≤ 24)
theorem mname_c (s : List UInt8) (hl : s.length ≤ 1000000) (w0 : World) : Ret Tryz.prog 58 [str s] w0 (fun _ => False) fun v _ => v = .bool (nameB s) := by
  refine enter Tryz.func58 rfl rfl (Wd.start w0) (fun a S => ?_)
  simp only [Tryz.ntmps58, List.length_cons, List.length_nil, Nat.reduceAdd, Nat.reduceSub, List.replicate_succ, List.replicate_zero, List.cons_append, List.nil_append] at S
  refine c_seq ?_; refine c_region ?_; refine sq S ?_; clear S; intro a S; refine wl_nil ?_; refine xtn ?_; (iterate 2 (refine c_seq ?_)); refine c_region ?_; refine sq S ?_; clear S; intro a S
  refine sstr0 S ?_; clear S; intro b6 a w S
  refine wl_nil ?_; refine xtn ?_; refine c_block ?_
  refine c_forf1 S (fun (i : Nat) uu => [(2, uu 2), (1, uu 4), (2, uu 7), (0, uu 8), (0, uu 9), (0, uu 10), (0, uu 11), (0, uu 12), (0, uu 13), (0, uu 14), (0, uu 15)]) (fun (i : Nat) => [Wk.sti b6 s i]) (fun (i : Nat) => i ≤ s.length ∧ ∀ j, j < i → chB (s.getD j 0) = true) (fun (i : Nat) => s.length - i) (0) ?_ S.uu ?_ ?_
  · exact ⟨Nat.zero_le _, fun j hj => by omega⟩
  · first | exact S | exact S.sub _ _
  · clear S; rintro i uu a w ⟨hi, hrel⟩ S
    refine c_seq ?_; refine c_region ?_
    refine snxs S ?_; clear S; intro more c wd a w hmf hmt S
    refine sq S ?_; clear S; intro a S; refine wl_nil ?_; refine xtn ?_; refine c_seq ?_
    refine c_cond S (fun h2 => ?_) (fun h2 => ?_)
    · refine c_skip ?_; refine xtn ?_; refine c_block ?_; refine c_seq ?_
      obtain rfl : more = true := h2
      obtain ⟨hil, hlo, hhi⟩ := hmt rfl
      refine c_region ?_; (iterate 2 (refine sq S ?_; clear S; intro a S)); refine wl_nil ?_; refine xtn ?_; refine c_seq ?_; refine c_region ?_; (iterate 3 (refine sq S ?_; clear S; intro a S)); (iterate 2 (refine gQ S ?_; clear S; intro a S)); refine sq S ?_; clear S; intro a S; refine wl_nil ?_; refine xtn ?_
      refine c_cond S (fun h4 => ?_) (fun h4 => ?_)
      · refine c_seq ?_; refine c_region ?_; refine sq S ?_; clear S; intro a S; refine wl_nil ?_; refine xtn ?_; refine c_ret ?_; refine xbr ?_; refine xtr ?_; refine xbr ?_; refine xtr ?_
        have hbad : chB (s.getD i 0) = false := by
          simp only [Bool.or_eq_true, decide_eq_true_eq] at h4
          by_cases hc : (s.getD i 0).toNat < 128
          · obtain ⟨rfl, -⟩ := hlo hc
            simp only [chB, Bool.and_eq_false_iff, decide_eq_false_iff_not]
            omega
          · simp only [chB, Bool.and_eq_false_iff, decide_eq_false_iff_not]
            omega
        refine end1 S (fun _ => ?_)
        have : nameB s = false := by
          have hall : s.all chB = false := List.all_eq_false.2 ⟨s.getD i 0, by rw [List.getD_eq_getElem?_getD, List.getElem?_eq_getElem hil]; exact List.getElem_mem hil, by rw [hbad]; simp⟩
          rw [nameB, hall]; rfl
        rw [this]
      · refine c_skip ?_; refine xbn ?_; refine xtn ?_
        simp only [Bool.or_eq_false_iff, decide_eq_false_iff_not] at h4
        have hc : (s.getD i 0).toNat < 128 := Classical.byContradiction fun hc => by have := hhi hc; omega
        obtain ⟨rfl, rfl⟩ := hlo hc
        rw [show (bif true then i + 1 else i) = i + 1 from rfl] at S
        refine ⟨i + 1, S.uu, ⟨hil, fun j hj => ?_⟩, S.sub _ _, by omega⟩
        rcases Nat.lt_or_ge j i with h | h
        · exact hrel j h
        · obtain rfl : j = i := by omega
          simp only [chB, Bool.and_eq_true, decide_eq_true_eq]
          omega
    · refine c_exit ?_; (iterate 2 (refine xte ?_)); refine xbe ?_; refine xtn ?_; refine c_seq ?_; refine c_region ?_; (iterate 4 (refine sq S ?_; clear S; intro a S)); (iterate 3 (refine gQ S ?_; clear S; intro a S)); (iterate 2 (refine sq S ?_; clear S; intro a S)); refine wl_nil ?_; refine xtn ?_; refine c_ret ?_
      have hall : s.all chB = true := by
        have hle := hmf h2
        refine List.all_eq_true.2 fun x hx => ?_
        obtain ⟨j, hj, rfl⟩ := List.getElem_of_mem hx
        have := hrel j (by omega)
        rwa [List.getD_eq_getElem?_getD, List.getElem?_eq_getElem hj] at this
      refine end1 S (fun _ => ?_)
      rw [nameB, hall, Bool.true_and]
      congr 1
      rw [Bool.eq_iff_iff]
      simp only [Bool.and_eq_true, decide_eq_true_eq]
      omega
theorem mdigits_c (n : Int) (hI : -9223372036854775808 ≤ n ∧ n ≤ 9223372036854775807) (w0 : World) (ht : Stable (fun _ => False) w0 TabF) : Ret Tryz.prog 38 [.int .i64 n] w0 (fun _ => False) fun v _ => v = vL (textL (Lib.itoa (max n 0))) := by
  refine enter Tryz.func38 rfl rfl (Wd.begin (fs := [TabF]) (by simpa using ht)) (fun a S => ?_)
  simp only [Tryz.ntmps38, List.length_cons, List.length_nil, Nat.reduceAdd, Nat.reduceSub, List.replicate_succ, List.replicate_zero, List.cons_append, List.nil_append] at S
  refine c_seq ?_; refine c_region ?_
  refine sa S ?_; clear S; intro b2 a w S
  refine wl_nil ?_; refine xtn ?_; refine c_seq ?_; refine c_region ?_; (iterate 2 (refine sq S ?_; clear S; intro a S))
  refine sr S (itoa_c (max n 0) ⟨by omega, by omega⟩ _ (S.mem.fact0 TabF).now) ?_; clear S; rintro _ a w rfl S
  refine sc S ?_; clear S; intro a w S; refine sw S ?_; clear S; intro a w S; refine wl_nil ?_; refine xtn ?_; refine c_ret ?_
  refine end1 S (fun _ => rfl)
instance {n : Int} {bs fs} [h : I64 n] [hf : HasFact fs TabF] : CallV Tryz.prog 38 [.int .i64 n] bs fs (vL (textL (Lib.itoa (max n 0)))) := ⟨fun w m => mdigits_c n ⟨h.lo, h.hi⟩ w (m.fact0 TabF)⟩
theorem textL_t (s : List UInt8) : (textL s).t = textT s := rfl
theorem mnumber_c (t : LTerm) (most : Int) (hs : t.text.length ≤ 1000) (hm : most ≤ 65535) (w0 : World) (ht : Stable (fun _ => False) w0 LibF) (hf : Stable (fun _ => False) w0 (LtF t)) :
    Ret Tryz.prog 57 [vL t, .int .i64 most] w0 (fun _ => False) fun v _ => ∃ (n : Int) (b : Bool), v = .tuple ⟨[.int .i64 n, .bool b]⟩ ∧ (b = true → (0 ≤ n ∧ n ≤ most) ∧ t.t = textT (Lib.itoa n)) ∧ (b = false → n = 0 ∧ ∀ m, 0 ≤ m → m ≤ most → t.t ≠ textT (Lib.itoa m)) := by
  refine enter Tryz.func57 rfl rfl (Wd.begin (fs := [TabF, LibF, LtF t]) (by simp; exact ⟨ht.imp fun _ h => h.1, ht, hf⟩)) (fun a S => ?_)
  simp only [Tryz.ntmps57, List.length_cons, List.length_nil, Nat.reduceAdd, Nat.reduceSub, List.replicate_succ, List.replicate_zero, List.cons_append, List.nil_append] at S
  refine c_seq ?_; refine c_region ?_
  refine sa S ?_; clear S; intro b2 a w S
  (iterate 2 (refine sq S ?_; clear S; intro a S)); refine wl_nil ?_; refine xtn ?_; refine c_seq ?_; refine c_region ?_; (iterate 2 (refine sq S ?_; clear S; intro a S))
  refine sr S (atoi_c t.text hs _ (S.mem.fact0 LibF).now.2.1 (S.mem.fact0 LibF).now.2.2) ?_; clear S; rintro _ a w ⟨n, b1, te, pe, rfl, hn, hbn, hv⟩ S
  have hI : I64 n := ⟨hn.1, hn.2⟩
  replace S := S.add (Φ := LtF (textL (Lib.itoa (max n 0)))) (fun _ _ => by simp [LtIn, textL, LsIn, LtF])
  (iterate 5 (refine sq S ?_; clear S; intro a S)); refine wl_nil ?_; refine xtn ?_; (iterate 2 (refine c_seq ?_))
  refine c_drawD [(0, true), (1, true), (2, true), (3, true), (4, true), (5, true), (6, true), (7, true), (8, true), (9, true), (10, true), (11, true), (12, true), (13, true), (14, false), (15, false), (16, true), (17, true)] [] S ?_; clear S; intro w S
  (iterate 3 (refine dq S ?_; clear S; intro a S)); (iterate 2 (refine dqG S ?_; clear S; intro a S)); (iterate 2 (refine dq S ?_; clear S; intro a S)); (iterate 3 (refine dqG S ?_; clear S; intro a S)); (iterate 2 (refine dq S ?_; clear S; intro a S)); (iterate 2 (refine dqG S ?_; clear S; intro a S)); refine dl ?_; refine gC S ?_; clear S; intro a w S; refine de S ?_; refine dl ?_; refine gC S ?_; clear S; intro a w S
  refine de S ?_; refine dqG S ?_; clear S; intro a S; refine dq S ?_; clear S; intro a S; refine dn ?_; refine xtn ?_
  refine c_cond S (fun h2 => ?_) (fun h2 => ?_)
  · refine c_seq ?_; refine c_region ?_; (iterate 2 (refine sq S ?_; clear S; intro a S)); refine wl_nil ?_; refine xtn ?_; refine c_ret ?_; refine xtr ?_
    have hno : ∀ m, 0 ≤ m → m ≤ most → t.t ≠ textT (Lib.itoa m) := by
      intro m h0 h1 he
      have e1 : t.text = Lib.itoa m := by
        rw [t.t_eq] at he
        simp only [textT, Term.mk.injEq] at he
        exact he.2.2.2.1
      have ha := atoi_itoa (n := m) ⟨h0, by omega⟩
      rw [← e1] at ha
      have e2 := hv _ ha
      have e3 := hbn.2 ⟨_, ha⟩
      subst e2
      have e4 : sameF t.t (textL (Lib.itoa (max n 0))).t = true := (sameF_iff _ _).2 (by rw [textL_t, he, show max n 0 = n from by omega])
      rw [e3, e4] at h2
      simp at h2
      omega
    refine end2 S (fun _ => ?_)
    exact ⟨0, false, rfl, nofun, fun _ => ⟨rfl, hno⟩⟩
  · refine c_skip ?_; refine xtn ?_; refine c_seq ?_; refine c_region ?_; (iterate 3 (refine sq S ?_; clear S; intro a S)); refine wl_nil ?_; refine xtn ?_; refine c_ret ?_
    simp only [Bool.or_eq_false_iff, decide_eq_false_iff_not, Bool.not_eq_false'] at h2
    refine end2 S (fun _ => ?_)
    refine ⟨n, true, rfl, fun _ => ⟨⟨by omega, by omega⟩, ?_⟩, nofun⟩
    have := (sameF_iff _ _).1 h2.2
    rw [this, textL_t, show max n 0 = n from by omega]
structure LMeta where
  name : List UInt8
  version : Int
  perm : LPerm
  past : Sl (Sl Int)
  boxes : LTerm
abbrev cMeta (m : LMeta) : List Value := [str m.name, .int .i64 m.version, .int .i64 m.perm.owner, .int .i64 m.perm.epoch, .slice m.perm.rd.p m.perm.rd.xs.length m.perm.rd.cap, .slice m.perm.wr.p m.perm.wr.xs.length m.perm.wr.cap, .slice m.perm.gr.p m.perm.gr.xs.length m.perm.gr.cap,
  .slice m.past.p m.past.xs.length m.past.cap, .int .i64 m.boxes.kind, .int .i64 m.boxes.user, .int .i64 m.boxes.num, str m.boxes.text, .slice m.boxes.p m.boxes.kids.length m.boxes.cap]
abbrev vMeta (m : LMeta) : Value := .agg ⟨cMeta m⟩
instance encMeta : Enc LMeta := ⟨13, fun m => str m.name :: .int .i64 m.version :: (Enc.cells m.perm ++ m.past.v :: m.boxes.cells), fun _ => rfl, fun x u hu => by
  rcases List.mem_cons.1 hu with rfl | hu
  · rfl
  rcases List.mem_cons.1 hu with rfl | hu
  · rfl
  rcases List.mem_append.1 hu with hu | hu
  · exact encPerm.one x.perm u hu
  rcases List.mem_cons.1 hu with rfl | hu
  · rfl
  · exact encT.one x.boxes u hu⟩
instance layMeta : Lay LMeta := { encMeta with
  dflt := ⟨[], 0, Lay.dflt, Lay.dflt, zeroL⟩
  inn := fun w m => Lay.inn w m.perm ∧ Lay.inn w m.past ∧ LtIn w m.boxes
  mono := fun w w' x h hx => ⟨Lay.mono w w' _ h hx.1, Lay.mono w w' _ h hx.2.1, LtIn.mono h x.boxes hx.2.2⟩ }
instance (priority := 850) hasi_mperm {fs : List (World → Prop)} {m : LMeta} [h : HasI fs m] : HasI fs m.perm := ⟨fun M w hf => (h.of M w hf).imp fun _ h => h.1⟩
instance (priority := 850) hasi_mpast {fs : List (World → Prop)} {m : LMeta} [h : HasI fs m] : HasI fs m.past := ⟨fun M w hf => (h.of M w hf).imp fun _ h => h.2.1⟩
instance (priority := 850) hast_mbox {fs : List (World → Prop)} {m : LMeta} [h : HasI fs m] : HasT fs m.boxes := ⟨fun M w hf => (h.of M w hf).imp fun _ h => h.2.2⟩
structure Met where
  name : List UInt8
  version : Int
  owner : Int
  epoch : Int
  rd : List Int
  wr : List Int
  gr : List Int
  past : List (List Int)
  boxes : Term
def LMeta.m (m : LMeta) : Met := ⟨m.name, m.version, m.perm.owner, m.perm.epoch, m.perm.rd.xs, m.perm.wr.xs, m.perm.gr.xs, m.past.xs.map Sl.xs, m.boxes.t⟩
def riseB (l : List Int) (no : Int) : Bool := risF (fun x => okU x && decide (x ≠ no)) none l
theorem gif_predM {c b : Bool} {k : Nat} (hb : b = true → 1 ≤ k) (hk : k ≤ 9223372036854775807) : gif c (gif b (.int .i64 (IntKind.i64.wrap ((k : Int) - 1)))) = gif c (gif b (.int .i64 ((k - 1 : Nat) : Int))) := by
  cases b with
  | false => rfl
  | true => rw [w64 _ (by omega) (by omega), show (k : Int) - 1 = ((k - 1 : Nat) : Int) from by have := hb rfl; omega]
def lastOk (o : Option Int) (x : Int) : Bool := match o with | none => true | some y => decide (y < x)
theorem risF_consL (q : Int → Bool) (o : Option Int) (x : Int) (xs : List Int) : risF q o (x :: xs) = ((q x && lastOk o x) && risF q (some x) xs) := rfl
theorem last_l (l : List Int) (k : Nat) : lastOk (lastG l k) (nthG l k) = !(decide (0 < (k : Int)) && decide (nthG l k ≤ nthG l (k - 1))) := by
  cases k with
  | zero => rfl
  | succ j =>
    rw [show lastG l (j + 1) = some (nthG l j) from rfl, show j + 1 - 1 = j from by omega, decide_eq_true (show (0 : Int) < ((j + 1 : Nat) : Int) by omega), Bool.true_and]
    by_cases h : nthG l j < nthG l (j + 1)
    · simp [lastOk, h]
    · simp [lastOk, h]; omega
theorem rise_step {a b c x y : Int} {k : Nat} : (!(((decide (x < a) || decide (b < x)) || decide (x = c)) || (decide (0 < (k : Int)) && decide (x ≤ y)))) = ((decide (a ≤ x) && decide (x ≤ b) && decide (x ≠ c)) && !(decide (0 < (k : Int)) && decide (x ≤ y))) := by
  by_cases h1 : x < a
  · simp [h1, show ¬ a ≤ x from by omega]
  · by_cases h2 : b < x
    · simp [h2, show ¬ x ≤ b from by omega]
    · by_cases h3 : x = c
      · simp [h3]
      · simp [h1, h2, h3, show a ≤ x from by omega, show x ≤ b from by omega]
theorem mrising_c (l : List Int) (no : Int) (p : Option Addr) (c : Nat) (w0 : World) (hl : l.length ≤ 9223372036854775807) (hx : Stable (fun _ => False) w0 (GlF p l)) :
    Ret Tryz.prog 61 [.slice p l.length c, .int .i64 no] w0 (fun _ => False) fun v _ => v = .bool (riseB l no) := by
  refine enter Tryz.func61 rfl rfl (Wd.begin (fs := [GlF p l]) (by simpa using hx)) (fun a S => ?_)
  simp only [Tryz.ntmps61, List.length_cons, List.length_nil, Nat.reduceAdd, Nat.reduceSub, List.replicate_succ, List.replicate_zero, List.cons_append, List.nil_append] at S
  refine c_seq ?_; refine c_region ?_; refine sq S ?_; clear S; intro a S; refine wl_nil ?_; refine xtn ?_; (iterate 2 (refine c_seq ?_)); refine c_region ?_; (iterate 3 (refine sq S ?_; clear S; intro a S)); refine wl_nil ?_; refine xtn ?_; refine c_block ?_
  refine c_fore1 S (fun (k : Nat) uu => [(4, uu 4), (0, uu 5), (0, uu 6), (2, .int .i64 (k : Nat)), (0, uu 10), (0, uu 11), (0, uu 12), (0, uu 13), (0, uu 14), (0, uu 15), (0, uu 16), (0, uu 17), (0, uu 18), (0, uu 19), (0, uu 20), (0, uu 21), (0, uu 22), (0, uu 23), (0, uu 24), (0, uu 25), (0, uu 26), (0, uu 27), (0, uu 28), (0, uu 29), (0, uu 30), (0, uu 31), (0, uu 32), (0, uu 33), (0, uu 34), (0, uu 35), (0, uu 36), (0, uu 37), (0, uu 38)]) (fun (k : Nat) => []) (fun (k : Nat) => [GlF p l]) (fun (k : Nat) => k ≤ l.length ∧ risF (fun x => okU x && decide (x ≠ no)) (lastG l k) (l.drop k) = riseB l no) (fun (k : Nat) => l.length - k) (0) ?_ S.uu ?_ ?_
  · exact ⟨Nat.zero_le _, rfl⟩
  · first | exact S | exact S.sub _ _
  · clear S; rintro k uu a w ⟨hk, hrel⟩ S
    refine c_seq ?_; refine c_region ?_; refine sq S ?_; clear S; intro a S; refine wl_nil ?_; refine xtn ?_; refine c_seq ?_
    refine c_cond S (fun h2 => ?_) (fun h2 => ?_)
    · refine c_skip ?_; refine xtn ?_; refine c_seq ?_; refine c_block ?_; refine c_seq ?_
      have hkl : k < l.length := by have := of_decide_eq_true h2; omega
      have hK : KLt k l.length := ⟨hkl⟩
      have hK1 : KLt (k - 1) l.length := ⟨by omega⟩
      rw [nthG_drop hkl, risF_consL, last_l l k] at hrel
      refine c_region ?_; (iterate 5 (refine sq S ?_; clear S; intro a S)); refine wl_nil ?_; refine xtn ?_; refine c_seq ?_; refine c_region ?_; (iterate 3 (refine sq S ?_; clear S; intro a S)); (iterate 2 (refine gQ S ?_; clear S; intro a S)); (iterate 2 (refine sq S ?_; clear S; intro a S)); (iterate 3 (refine gQ S ?_; clear S; intro a S)); (iterate 2 (refine sq S ?_; clear S; intro a S)); (iterate 6 (refine gQ S ?_; clear S; intro a S))
      rw [gif_predM (by simp; omega) (by omega)] at S
      (iterate 5 (refine gQ S ?_; clear S; intro a S)); refine sq S ?_; clear S; intro a S; refine wl_nil ?_; refine xtn ?_
      refine c_cond S (fun h4 => ?_) (fun h4 => ?_)
      · refine c_seq ?_; refine c_region ?_; refine sq S ?_; clear S; intro a S; refine wl_nil ?_; refine xtn ?_; refine c_ret ?_; refine xbr ?_; (iterate 2 (refine xtr ?_)); refine xbr ?_; refine xtr ?_
        refine end1 S (fun _ => ?_)
        have e := rise_step (a := 1) (b := 6) (c := no) (x := nthG l k) (y := nthG l (k - 1)) (k := k)
        rw [h4] at e
        have e2 : (okU (nthG l k) && decide (nthG l k ≠ no) && !(decide (0 < (k : Int)) && decide (nthG l k ≤ nthG l (k - 1)))) = _ := e.symm
        rw [← hrel, e2]; rfl
      · refine c_skip ?_; refine xbn ?_; refine xtn ?_; refine c_region ?_; (iterate 2 (refine sq S ?_; clear S; intro a S)); refine wl_nil ?_; refine xtn ?_
        rw [w64 ((k : Int) + 1) (by omega) (by omega)] at S
        refine ⟨k + 1, S.uu, ⟨hkl, ?_⟩, S.sub _ _, by omega⟩
        have e := rise_step (a := 1) (b := 6) (c := no) (x := nthG l k) (y := nthG l (k - 1)) (k := k)
        rw [h4] at e
        have e2 : (okU (nthG l k) && decide (nthG l k ≠ no) && !(decide (0 < (k : Int)) && decide (nthG l k ≤ nthG l (k - 1)))) = _ := e.symm
        rw [← hrel, e2]; rfl
    · refine c_exit ?_; (iterate 2 (refine xte ?_)); refine xbe ?_; refine xtn ?_; refine c_seq ?_; refine c_region ?_; refine sq S ?_; clear S; intro a S; refine wl_nil ?_; refine xtn ?_; refine c_ret ?_
      refine end1 S (fun _ => ?_)
      have hke : k = l.length := by have := of_decide_eq_false h2; omega
      rw [← hrel, hke, List.drop_length]; rfl
theorem equalI_c (xs ys : List Int) (p q : Option Addr) (c e : Nat) (w0 : World) (hl : xs.length ≤ 1000000000) (hx : Stable (fun _ => False) w0 (GlF p xs)) (hy : Stable (fun _ => False) w0 (GlF q ys)) :
    Ret Tryz.prog 76 [.slice p xs.length c, .slice q ys.length e] w0 (fun _ => False) fun v _ => v = .bool (decide (xs = ys)) := by
  refine enter Tryz.func76 rfl rfl (Wd.begin (fs := [GlF p xs, GlF q ys]) (by simp; exact ⟨hx, hy⟩)) (fun a S => ?_)
  simp only [Tryz.ntmps76, List.length_cons, List.length_nil, Nat.reduceAdd, Nat.reduceSub, List.replicate_succ, List.replicate_zero, List.cons_append, List.nil_append] at S
  refine c_seq ?_; refine c_region ?_; refine sq S ?_; clear S; intro a S; refine wl_nil ?_; refine xtn ?_; (iterate 2 (refine c_seq ?_)); refine c_region ?_; (iterate 5 (refine sq S ?_; clear S; intro a S)); refine wl_nil ?_; refine xtn ?_
  refine c_cond S (fun h1 => ?_) (fun h1 => ?_)
  · refine c_seq ?_; refine c_region ?_; refine sq S ?_; clear S; intro a S; refine wl_nil ?_; refine xtn ?_; refine c_ret ?_; refine xtr ?_
    have hne : xs ≠ ys := fun h => by rw [h] at h1; simp at h1
    refine end1 S (fun _ => ?_)
    rw [decide_eq_false hne]
  · refine c_skip ?_; refine xtn ?_; (iterate 2 (refine c_seq ?_)); refine c_region ?_; (iterate 3 (refine sq S ?_; clear S; intro a S)); refine wl_nil ?_; refine xtn ?_; refine c_block ?_
    have hle : xs.length = ys.length := by simp at h1; omega
    refine c_forb1 S (fun (k : Nat) uu => [(4, uu 4), (0, uu 5), (7, .int .i64 (k : Nat)), (0, uu 14), (0, uu 15), (0, uu 16), (0, uu 17), (0, uu 18), (0, uu 19), (0, uu 20), (0, uu 21), (0, uu 22), (0, uu 23), (0, uu 24), (0, uu 25)]) (fun (k : Nat) => k ≤ xs.length ∧ xs.take k = ys.take k) (fun (k : Nat) => xs.length - k) (0) ?_ S.uu ?_ ?_
    · exact ⟨Nat.zero_le _, rfl⟩
    · first | exact S | exact S.sub _ _
    · clear S; rintro k uu a w ⟨hk, hrel⟩ S
      refine c_seq ?_; refine c_region ?_; refine sq S ?_; clear S; intro a S; refine wl_nil ?_; refine xtn ?_; refine c_seq ?_
      refine c_cond S (fun h4 => ?_) (fun h4 => ?_)
      · refine c_skip ?_; refine xtn ?_; refine c_seq ?_; refine c_block ?_; refine c_seq ?_
        have hkl : k < xs.length := by simpa using h4
        have hK1 : KLt k xs.length := ⟨hkl⟩
        have hK2 : KLt k ys.length := ⟨by omega⟩
        refine c_region ?_; (iterate 2 (refine sq S ?_; clear S; intro a S)); refine wl_nil ?_; refine xtn ?_; refine c_seq ?_
        refine c_drawD [(0, true), (1, true), (2, true), (3, true), (4, true), (5, true), (6, true), (7, true), (8, true)] [] S ?_; clear S; intro w S
        (iterate 9 (refine dq S ?_; clear S; intro a S)); refine dn ?_; refine xtn ?_
        refine c_cond S (fun h6 => ?_) (fun h6 => ?_)
        · refine c_seq ?_; refine c_region ?_; refine sq S ?_; clear S; intro a S; refine wl_nil ?_; refine xtn ?_; refine c_ret ?_; refine xbr ?_; (iterate 2 (refine xtr ?_)); refine xbr ?_; refine xtr ?_
          have h9 : nthG xs k ≠ nthG ys k := by simpa using h6
          have hne : xs ≠ ys := fun h => h9 (by rw [h])
          refine end1 S (fun _ => ?_)
          rw [decide_eq_false hne]
        · refine c_skip ?_; refine xbn ?_; refine xtn ?_; refine c_region ?_; (iterate 2 (refine sq S ?_; clear S; intro a S)); refine wl_nil ?_; refine xtn ?_
          have h9 : nthG xs k = nthG ys k := by simpa using h6
          rw [w64 ((k : Int) + 1) (by omega) (by omega)] at S
          exact ⟨k + 1, S.uu, ⟨hkl, by rw [nthG_take hkl, nthG_take (show k < ys.length by omega), hrel, h9]⟩, S.sub _ _, by omega⟩
      · refine c_exit ?_; (iterate 2 (refine xte ?_)); refine xbe ?_; refine xtn ?_; refine c_seq ?_; refine c_region ?_; refine sq S ?_; clear S; intro a S; refine wl_nil ?_; refine xtn ?_; refine c_ret ?_
        have h9 : xs.length ≤ k := by simpa using h4
        rw [List.take_of_length_le h9, List.take_of_length_le (by omega)] at hrel
        refine end1 S (fun _ => ?_)
        rw [decide_eq_true hrel]
theorem mequal_c (xs ys : List Int) (p q : Option Addr) (c e : Nat) (w0 : World) (hl : xs.length ≤ 1000000000) (hx : Stable (fun _ => False) w0 (GlF p xs)) (hy : Stable (fun _ => False) w0 (GlF q ys)) :
    Ret Tryz.prog 42 [.slice p xs.length c, .slice q ys.length e] w0 (fun _ => False) fun v _ => v = .bool (decide (xs = ys)) := by
  refine enter Tryz.func42 rfl rfl (Wd.begin (fs := [GlF p xs, GlF q ys]) (by simp; exact ⟨hx, hy⟩)) (fun a S => ?_)
  simp only [Tryz.ntmps42, List.length_cons, List.length_nil, Nat.reduceAdd, Nat.reduceSub, List.replicate_succ, List.replicate_zero, List.cons_append, List.nil_append] at S
  refine c_seq ?_; refine c_region ?_; refine sq S ?_; clear S; intro a S; refine wl_nil ?_; refine xtn ?_; refine c_seq ?_; refine c_region ?_; (iterate 2 (refine sq S ?_; clear S; intro a S))
  refine sr S (equalI_c xs ys p q c e _ hl (S.mem.fact0 (GlF p xs)) (S.mem.fact0 (GlF q ys))) ?_; clear S; rintro _ a w rfl S
  refine sq S ?_; clear S; intro a S; refine wl_nil ?_; refine xtn ?_; refine c_ret ?_
  refine end1 S (fun _ => rfl)
def IsCap (t : Term) (sb : List SBox) : Prop := Good t ∧ t = listT (sb.map SBox.t) ∧ (∀ b ∈ sb, b.ok) ∧ (sb.map SBox.place).Pairwise (· < ·) ∧ sb ≠ []
theorem listT_injC : ∀ {a b : List Term}, listT a = listT b → a = b
  | [], [], _ => rfl
  | [], y :: ys, h => by simp [listT, textT, Term.pair] at h
  | x :: xs, [], h => by simp [listT, textT, Term.pair] at h
  | x :: xs, y :: ys, h => by
    simp only [listT, Term.pair, Term.mk.injEq, true_and, List.cons.injEq, and_true] at h
    rw [h.1, listT_injC h.2]
theorem box_s {x : LTerm} {b : LBox} (h : IsBox x.t b.user b.group) (ht : b.term = nthL x.kids 1) : b.s.ok ∧ x.t = b.s.t := by
  rcases h with ⟨h1, h2, h3, s, h⟩ | ⟨h1, h2, h3, s, kt, h⟩
  · obtain ⟨-, -, -, q⟩ := pair_shape (a := textT (rowS [117] b.user)) h
    rw [← ht] at q
    refine ⟨.inl ⟨h1, h2, h3, s, q⟩, ?_⟩
    rw [h, SBox.t, if_pos (show 0 < b.s.user by show 0 < b.user; omega)]
    show _ = rowT (rowS [117] b.user) b.term.t
    rw [q]; rfl
  · obtain ⟨-, -, -, q⟩ := pair_shape (a := textT (rowS [103] b.group)) h
    rw [← ht] at q
    refine ⟨.inr ⟨h3, h1, h2, _, _, q⟩, ?_⟩
    rw [h, SBox.t, if_neg (show ¬ 0 < b.s.user by show ¬ 0 < b.user; omega)]
    show _ = rowT (rowS [103] b.group) b.term.t
    rw [q]; rfl
theorem rowT_inj {s s' : List UInt8} {t t' : Term} (h : rowT s t = rowT s' t') : s = s' ∧ t = t' := by
  simp only [rowT, Term.pair, textT, Term.mk.injEq, true_and, List.cons.injEq, and_true] at h
  exact h
theorem sbox_inj {a b : SBox} (ha : a.ok) (hb : b.ok) (h : a.t = b.t) : a = b := by
  obtain ⟨a1, a2, a3⟩ := a
  obtain ⟨b1, b2, b3⟩ := b
  rcases ha with ⟨h1, h2, h3, s, h4⟩ | ⟨h1, h2, h3, k, s, h4⟩ <;> rcases hb with ⟨g1, g2, g3, s', g4⟩ | ⟨g1, g2, g3, k', s', g4⟩ <;> simp only at h1 h2 h3 h4 g1 g2 g3 g4 <;> simp only [SBox.t] at h
  · rw [if_pos (by omega), if_pos (by omega)] at h
    obtain ⟨q1, q2⟩ := rowT_inj h
    rw [rowS_inj (by omega) (by omega)] at q1
    rw [q1.2, q2, h3, g3]
  · rw [if_pos (by omega), if_neg (by omega)] at h
    obtain ⟨q1, q2⟩ := rowT_inj h
    rw [rowS_inj (by omega) (by omega)] at q1
    exact absurd q1.1 (by decide)
  · rw [if_neg (by omega), if_pos (by omega)] at h
    obtain ⟨q1, q2⟩ := rowT_inj h
    rw [rowS_inj (by omega) (by omega)] at q1
    exact absurd q1.1 (by decide)
  · rw [if_neg (by omega), if_neg (by omega)] at h
    obtain ⟨q1, q2⟩ := rowT_inj h
    rw [rowS_inj (by omega) (by omega)] at q1
    rw [q1.2, q2, h1, g1]
theorem maps_inj : ∀ {a b : List SBox}, (∀ x ∈ a, x.ok) → (∀ x ∈ b, x.ok) → a.map SBox.t = b.map SBox.t → a = b
  | [], [], _, _, _ => rfl
  | [], y :: ys, _, _, h => by simp at h
  | x :: xs, [], _, _, h => by simp at h
  | x :: xs, y :: ys, ha, hb, h => by
    simp only [List.map_cons, List.cons.injEq] at h
    rw [sbox_inj (ha x (by simp)) (hb y (by simp)) h.1, maps_inj (fun z hz => ha z (by simp [hz])) (fun z hz => hb z (by simp [hz])) h.2]
theorem IsCap.uniq {t : Term} {a b : List SBox} (ha : IsCap t a) (hb : IsCap t b) : a = b :=
  maps_inj ha.2.2.1 hb.2.2.1 (listT_injC (ha.2.1.symm.trans hb.2.1))
theorem list_good : ∀ {ts : List Term} {t : Term}, Good t → t = listT ts → ∀ {x : Term}, x ∈ ts → Good x
  | [], _, _, _, _, hx => by cases hx
  | y :: ys, t, hg, ht, x, hx => by
    rw [ht, listT, Term.pair] at hg
    rcases List.mem_cons.1 hx with rfl | hx
    · exact good_kid hg (by simp)
    · exact list_good (good_kid hg (by simp : listT ys ∈ [y, listT ys])) rfl hx
structure SoFar (os : List LTerm) (i : Nat) (bx : List LBox) : Prop where
  len : bx.length = i
  ok : ∀ j, j < i → IsBox (nthL os j).t (nthG bx j).user (nthG bx j).group ∧ (nthG bx j).term = nthL (nthL os j).kids 1
  grp : ∀ b ∈ bx, GrpOk b
  rise : (bx.map placeF).Pairwise (· < ·)
theorem SoFar.same {os : List LTerm} {i : Nat} {bx : List LBox} (h : SoFar os i bx) {sb : List SBox} (hsb : os.map LTerm.t = sb.map SBox.t) (hok : ∀ b ∈ sb, b.ok) {j : Nat} (hj : j < i) (hjo : j < os.length) : sb[j]? = some (nthG bx j).s := by
  have hl : os.length = sb.length := by have := congrArg List.length hsb; simpa using this
  have h1 := congrArg (fun l => l[j]?) hsb
  simp only [List.getElem?_map] at h1
  rw [nth_get hjo, List.getElem?_eq_getElem (show j < sb.length by omega)] at h1
  simp only [Option.map_some, Option.some.injEq] at h1
  obtain ⟨q1, q2⟩ := h.ok j hj
  obtain ⟨q3, q4⟩ := box_s q1 q2
  rw [List.getElem?_eq_getElem (show j < sb.length by omega)]
  exact congrArg some (sbox_inj (hok _ (List.getElem_mem _)) q3 (h1.symm.trans q4))
theorem SoFar.push {os : List LTerm} {i : Nat} {bx : List LBox} (h : SoFar os i bx) {y : LBox} (hi : i < os.length) (k1 : IsBox (nthL os i).t y.user y.group) (k2 : y.term = nthL (nthL os i).kids 1) (hg : GrpOk y) (hp : 0 < i → placeF (nthG bx (i - 1)) < placeF y) : SoFar os (i + 1) (bx ++ [y]) := by
  have hl := h.len
  have hn : ∀ j, j < i → nthG (bx ++ [y]) j = nthG bx j := fun j hj => by
    simp only [nthG, List.getD_eq_getElem?_getD]
    rw [List.getElem?_append_left (by omega)]
  have hy : nthG (bx ++ [y]) i = y := by
    simp only [nthG, List.getD_eq_getElem?_getD]
    rw [List.getElem?_append_right (by omega), hl, Nat.sub_self]; rfl
  refine ⟨by simp [hl], fun j hj => ?_, fun b hb => ?_, ?_⟩
  · rcases Nat.lt_or_ge j i with hj2 | hj2
    · rw [hn j hj2]; exact h.ok j hj2
    · obtain rfl : j = i := by omega
      rw [hy]; exact ⟨k1, k2⟩
  · rcases List.mem_append.1 hb with hb | hb
    · exact h.grp b hb
    · rw [List.mem_singleton.1 hb]; exact hg
  · rw [List.map_append, List.pairwise_append]
    refine ⟨h.rise, by simp, fun u hu v hv => ?_⟩
    obtain rfl : v = placeF y := by simpa using hv
    obtain ⟨j, hj⟩ := List.getElem?_of_mem hu
    have hjl : j < bx.length := by have := (List.getElem?_eq_some_iff.1 hj).1; simpa using this
    have hlast := hp (by omega)
    have hi1 : i - 1 < bx.length := by omega
    have e1 : (bx.map placeF)[i - 1]? = some (placeF (nthG bx (i - 1))) := by rw [List.getElem?_map, nthG_get hi1]; rfl
    obtain ⟨q1, q2⟩ := List.getElem?_eq_some_iff.1 e1
    obtain ⟨q3, q4⟩ := List.getElem?_eq_some_iff.1 hj
    rcases Nat.lt_or_ge j (i - 1) with h9 | h9
    · have := List.pairwise_iff_getElem.1 h.rise j (i - 1) q3 q1 h9
      rw [q4, q2] at this
      omega
    · have : j = i - 1 := by omega
      subst this
      rw [q4] at q2
      omega
theorem SoFar.fin {t : LTerm} {os : List LTerm} {bx : List LBox} (h : SoFar os os.length bx) (hg : Good t.t) (ht : t.t = listT (os.map LTerm.t)) (hne : 0 < os.length) : IsCap t.t (bx.map LBox.s) := by
  refine ⟨hg, ?_, fun b hb => ?_, ?_, fun he => ?_⟩
  · rw [ht]
    congr 1
    rw [List.map_map]
    refine List.ext_getElem? fun j => ?_
    rw [List.getElem?_map, List.getElem?_map]
    rcases Nat.lt_or_ge j os.length with hj | hj
    · rw [nth_get hj, nthG_get (by rw [h.len]; exact hj)]
      obtain ⟨q1, q2⟩ := h.ok j hj
      simp only [Option.map_some, Function.comp]
      rw [(box_s q1 q2).2]
    · rw [List.getElem?_eq_none hj, List.getElem?_eq_none (by rw [h.len]; exact hj)]; rfl
  · obtain ⟨b', hb', rfl⟩ := List.mem_map.1 hb
    obtain ⟨j, hj⟩ := List.getElem?_of_mem hb'
    have hjl := (List.getElem?_eq_some_iff.1 hj).1
    have e1 : nthG bx j = b' := by rw [nthG_get hjl] at hj; simpa using hj
    obtain ⟨q1, q2⟩ := h.ok j (by rw [← h.len]; exact hjl)
    rw [← e1]
    exact (box_s q1 q2).1
  · rw [List.map_map]; exact h.rise
  · have : (bx.map LBox.s).length = 0 := by rw [he]; rfl
    rw [List.length_map, h.len] at this
    omega
theorem gif_predC {c b : Bool} {k : Nat} (hb : b = true → 1 ≤ k) (hk : k ≤ 1000000) : gif c (gif b (.int .i64 (IntKind.i64.wrap ((k : Int) - 1)))) = gif c (gif b (.int .i64 ((k - 1 : Nat) : Int))) := by
  cases b with
  | false => rfl
  | true => rw [w64 _ (by omega) (by omega), show (k : Int) - 1 = ((k - 1 : Nat) : Int) from by have := hb rfl; omega]
def ReadG (M : Nat → Prop) (T : Term) (v : Value) (w : World) : Prop := ∃ (p : Option Addr) (c : Nat) (bx : List LBox) (ok : Bool), v = .tuple ⟨[.slice p bx.length c, .bool ok]⟩ ∧ Stable M w (GlF p bx) ∧ bx.length ≤ 1200 ∧ (ok = true → IsCap T (bx.map LBox.s)) ∧ (ok = false → bx = [] ∧ ∀ sb, ¬ IsCap T sb)
set_option maxHeartbeats 1000000 in
theorem readG_c (t : LTerm) (M : Nat → Prop) (w0 : World) (hM : ∀ k, M k → k < w0.heap.size) (hf : Stable M w0 (LtF t)) : Ret Tryz.prog 89 [vL t] w0 (fun _ => False) fun v w' => ReadG M t.t v w' := by
  refine enterM Tryz.func89 rfl rfl (Wd.beginM (M := M) (fs := [LtF t]) hM (by simpa using hf)) (fun a S => ?_)
  simp only [Tryz.ntmps89, List.length_cons, List.length_nil, Nat.reduceAdd, Nat.reduceSub, List.replicate_succ, List.replicate_zero, List.cons_append, List.nil_append] at S
  refine c_seq ?_; refine c_region ?_
  refine sa S ?_; clear S; intro b1 a w S
  refine sa S ?_; clear S; intro b2 a w S
  refine sa S ?_; clear S; intro b3 a w S
  refine wl_nil ?_; refine xtn ?_; refine c_seq ?_; refine c_region ?_; refine sq S ?_; clear S; intro a S
  refine sr S (unlist2_c t _ w (foots_lt S) (S.t t)) ?_; clear S; rintro _ a w ⟨p, c, os, b, rfl, hls, hol, hub1, hub2⟩ S
  replace S := S.add hls
  (iterate 5 (refine sq S ?_; clear S; intro a S)); refine wl_nil ?_; refine xtn ?_; (iterate 2 (refine c_seq ?_)); refine c_region ?_; (iterate 3 (refine sq S ?_; clear S; intro a S)); (iterate 3 (refine gQ S ?_; clear S; intro a S)); refine sq S ?_; clear S; intro a S; refine wl_nil ?_; refine xtn ?_
  refine c_cond S (fun h2 => ?_) (fun h2 => ?_)
  · refine c_seq ?_; refine c_region ?_; (iterate 2 (refine sw S ?_; clear S; intro a w S)); refine wl_nil ?_; refine xtn ?_; refine c_ret ?_; refine xtr ?_
    refine endM2 S (fun w hw => ⟨none, 0, [], false, rfl, fun _ _ => gl_nil, by simp, nofun, fun _ => ⟨rfl, fun sb hsb => ?_⟩⟩)
    cases b with
    | false => exact (hub2 rfl).2 _ hsb.2.1 hsb.1
    | true =>
      have hl0 : os.length = 0 := by simpa using h2
      have h3 := (hub1 rfl).2
      rw [List.length_eq_zero_iff.1 hl0, hsb.2.1] at h3
      have := listT_injC h3
      exact hsb.2.2.2.2 (by simpa using this)
  · refine c_skip ?_; refine xtn ?_; refine c_seq ?_
    obtain ⟨hbt, hpos⟩ : b = true ∧ 0 < os.length := by
      cases b with
      | false => simp at h2
      | true => exact ⟨rfl, by have : ¬ os.length = 0 := (by simpa using h2); omega⟩
    obtain ⟨hg, htl⟩ := hub1 hbt
    have hgo : ∀ x ∈ os, Good x.t := fun x hx => list_good hg htl (List.mem_map.2 ⟨x, hx, rfl⟩)
    refine c_region ?_
    refine sa S ?_; clear S; intro b6 a w S
    refine wl_nil ?_; refine xtn ?_; (iterate 2 (refine c_seq ?_)); refine c_region ?_; refine sq S ?_; clear S; intro a S
    have hlt := foots_lt S
    refine sr S (boxes_f p os.length c w) ?_; clear S; rintro _ a w ⟨g, rfl, n1, f1⟩ S
    replace S := S.add (Φ := BoxF g 22 [.slice p os.length c]) (BoxF.stable f1 (fun hm => by have := hlt _ hm; omega))
    clear hlt n1 f1
    refine wl_nil ?_; refine xtn ?_; refine c_block ?_
    replace S := S.addNil 124 7
    replace S := S.add (Φ := AllI (α := LBox) []) AllI.nil
    replace S := S.sub [Wk.row 124 7 none 0 0 [], Wk.box b6 120 [.slice none 0 0], Wk.box b3 4 [.bool false], Wk.box b2 120 [.slice none 0 0], marks [], ext M] [AllI (α := LBox) [], BoxF g 22 [.slice p os.length c], LsF p 0 os]
    refine c_range (κ := Option Addr × Nat × List LBox) (κx := Unit) (Ds := []) os
      (fun i k => [Wk.row 124 7 k.1 i k.2.1 (encL k.2.2), Wk.box b6 120 [.slice k.1 i k.2.1], Wk.box b3 4 [.bool false], Wk.box b2 120 [.slice none 0 0], marks [], ext M]) (fun _ k => [AllI k.2.2, BoxF g 22 [.slice p os.length c], LsF p 0 os]) (fun i k => SoFar os i k.2.2)
      (fun _ => [Wk.box b3 4 [.bool false], Wk.box b2 120 [.slice none 0 0], marks [], ext M]) (fun _ => []) (fun c _ => c = .ret ∧ ∀ sb, ¬ IsCap t.t sb) (none, 0, []) S
      (fun M w1 hM hF _ => boxesG_it g os hgo p c (by omega) w1 M hM (hF _ (by simp)) (hF _ (by simp))) ⟨⟨rfl, fun j h => absurd h (Nat.not_lt_zero _), nofun, .nil⟩, rfl, rfl⟩ ?_ ?_ ?_ ?_
    · clear S
      rintro L D bL M' w1 i x vs ⟨q, e, bx⟩ W0 w hx hso hW0 hgr ⟨y, ok, rfl, hgy, hby⟩
      have hi : i < os.length := (List.getElem?_eq_some_iff.1 hx).1
      have hxe : x = nthL os i := by rw [nth_get hi] at hx; exact (Option.some.inj hx).symm
      refine ⟨_, inferInstance, fun a S => ?_⟩
      simp only at S hso
      refine c_seq ?_; refine c_region ?_
      refine sa S ?_; clear S; intro b7 a w S
      refine sw S ?_; clear S; intro a w S; refine wl_nil ?_; refine xtn ?_; refine c_region ?_; refine sq S ?_; clear S; intro a S; refine wl_nil ?_; refine xtn ?_
      refine rbegin (D := D) (b := bL) S ?_; clear S; intro a w S
      refine c_block ?_; (iterate 2 (refine c_seq ?_))
      obtain ⟨S1, hback⟩ := S.borrow (e := 124) (sz := 7) (n := i) (c := e) q bx (S.wd.facts (AllI bx) (by simp))
      have S := S1
      clear S1
      have hbl : bx.length = i := hso.len
      have hC1 : CLt [!(!ok), decide (0 < (i : Int))] (i - 1) i := ⟨fun h => by have := h (decide (0 < (i : Int))) (by simp); simp at this; omega⟩
      have hC2 : CLt [!(!ok), decide (0 < (i : Int))] (i - 1) bx.length := ⟨fun h => by have := h (decide (0 < (i : Int))) (by simp); simp at this; omega⟩
      have hG1 : GrpOk y := hgy
      have hG2 : GrpOk (nthG bx (i - 1)) := by
        by_cases h0 : i = 0
        · have : bx = [] := List.length_eq_zero_iff.1 (by omega)
          rw [this]; exact ⟨by simp [nthG, Lay.dflt], by simp [nthG, Lay.dflt]⟩
        · exact hso.grp _ (nthG_mem (by omega))
      refine c_drawD [(0, true), (1, true), (2, true), (3, true), (4, true), (5, true), (6, true), (7, true), (8, true), (9, true), (10, true), (11, true), (12, true), (14, true), (13, false), (15, false), (16, true), (17, true), (18, true)] [] S ?_; clear S; intro w S
      (iterate 3 (refine dq S ?_; clear S; intro a S)); (iterate 8 (refine dqG S ?_; clear S; intro a S))
      rw [gif_predC (by simp; omega) (by omega)] at S
      (iterate 3 (refine dqG S ?_; clear S; intro a S)); refine dl ?_; refine gC S ?_; clear S; intro a w S; refine de S ?_; refine dl ?_; refine gC S ?_; clear S; intro a w S; refine de S ?_; (iterate 2 (refine dqG S ?_; clear S; intro a S)); refine dq S ?_; clear S; intro a S; refine dn ?_; refine xtn ?_
      refine c_cond S (fun h8 => ?_) (fun h8 => ?_)
      · refine c_seq ?_; refine c_region ?_; (iterate 2 (refine sw S ?_; clear S; intro a w S)); refine wl_nil ?_; refine xtn ?_; refine c_ret ?_; refine xtr ?_; refine xbr ?_
        have hno : ∀ sb, ¬ IsCap t.t sb := fun sb hsb => by
          have hsbm : os.map LTerm.t = sb.map SBox.t := listT_injC (htl.symm.trans hsb.2.1)
          have hl : os.length = sb.length := by have := congrArg List.length hsbm; simpa using this
          have his : i < sb.length := by omega
          have hxb : (nthL os i).t = sb[i].t := by
            have h1 := congrArg (fun l => l[i]?) hsbm
            simp only [List.getElem?_map] at h1
            rw [nth_get hi, List.getElem?_eq_getElem his] at h1
            simpa using h1
          have hsi := hsb.2.2.1 _ (List.getElem_mem his)
          cases ok with
          | false => exact hby.2 rfl _ _ (by rw [hxe, hxb]; exact SBox.isBox hsi)
          | true =>
            obtain ⟨h0, hle⟩ : 0 < i ∧ placeF y ≤ placeF (nthG bx (i - 1)) := by simpa using h8
            obtain ⟨k1, k2⟩ := hby.1 rfl
            obtain ⟨k3, k4⟩ := box_s k1 k2
            have e1 : sb[i] = y.s := sbox_inj hsi k3 (by rw [← hxb, ← hxe]; exact k4)
            have e2 := hso.same hsbm hsb.2.2.1 (show i - 1 < i by omega) (by omega)
            have hi1 : i - 1 < sb.length := by omega
            rw [List.getElem?_eq_getElem hi1] at e2
            have e3 : sb[i - 1] = (nthG bx (i - 1)).s := Option.some.inj e2
            have := List.pairwise_iff_getElem.1 hsb.2.2.2.1 (i - 1) i (by simpa using hi1) (by simpa using his) (by omega)
            rw [List.getElem_map, List.getElem_map, e1, e3, place_s, place_s] at this
            omega
        exact rret (D := D) (b := bL) (S.sub [lpI L D (lpR bL .busy none), Wk.box b3 4 [.bool false], Wk.box b2 120 [.slice none 0 0], marks [], ext M] []) fun W hW => ⟨.inl rfl, (), ⟨rfl, hno⟩, hW⟩
      · refine c_skip ?_; refine xtn ?_
        replace S := hback _ _ _ _ S (by simp)
        clear hback
        refine c_region ?_; (iterate 2 (refine sq S ?_; clear S; intro a S))
        refine sn S ?_; clear S; intro b46 a w S
        refine sap S (by simp [maxLen]; omega) (by omega) ?_; clear S; rintro p10 c10 a w - S
        refine sw S ?_; clear S; intro a w S; refine wl_nil ?_; refine xbn ?_
        have hok : ok = true := by
          cases ok with
          | true => rfl
          | false => simp at h8
        subst hok
        obtain ⟨k1, k2⟩ := hby.1 rfl
        have hpl : 0 < i → placeF (nthG bx (i - 1)) < placeF y := by simpa using h8
        rw [show encL bx ++ [Value.int .i64 y.user, .int .i64 y.group, .int .i64 y.term.kind, .int .i64 y.term.user, .int .i64 y.term.num, str y.term.text, .slice y.term.p y.term.kids.length y.term.cap] = encL (bx ++ [y]) from by rw [encL_append]; simp [encL, Enc.cells]] at S
        replace S := S.add (Φ := AllI (bx ++ [y])) (AllI.snoc (S.wd.facts (AllI bx) (by simp)) ((S.wd.facts (LsF p 0 os) (by simp)).imp fun w' h => by
          show LtIn w' y.term
          rw [k2, hxe]
          have h2 := (LsIn.get h (nth_get hi)).2
          refine kid_in h2 (nth_mem ?_)
          rw [hxe] at k1
          rw [(isBox_pair k1).2.1]; omega))
        replace S := S.sub [lpI L D (lpR bL .busy none), Wk.row 124 7 p10 (i + 1) c10 (encL (bx ++ [y])), Wk.box b6 120 [.slice p10 (i + 1) c10], Wk.box b3 4 [.bool false], Wk.box b2 120 [.slice none 0 0], marks [], ext M] [AllI (bx ++ [y]), BoxF g 22 [.slice p os.length c], LsF p 0 os]
        have hso2 : SoFar os (i + 1) (bx ++ [y]) := hso.push hi (hxe ▸ k1) (hxe ▸ k2) hgy hpl
        exact rnext (D := D) (b := bL) S fun W hW => ⟨(p10, c10, bx ++ [y]), hso2, hW⟩
    · clear S
      rintro D ⟨q, e, bx⟩ a w hso S
      refine xbn ?_; refine xtn ?_; refine c_seq ?_; refine c_region ?_; refine sq S ?_; clear S; intro a S; (iterate 2 (refine sw S ?_; clear S; intro a w S)); refine wl_nil ?_; refine xtn ?_; refine c_ret ?_
      simp only at S hso
      have hbl := hso.len
      have hrow := S.row q os.length
      have hnew := S.rowNew q os.length
      replace S := S.join (Ds := [])
      refine endM2 S (fun w hw => ?_)
      have h1 := hw.held (Wk.row 124 7 q os.length e (encL bx)) (by simp)
      have h2 : Stable M w (AllI bx) := (hw.facts (AllI bx) (by simp)).less fun k _ hk => ⟨ext M, by simp, hk⟩
      refine ⟨q, e, bx, true, by rw [hbl], gl_own h1 h2 (fun ad h hm => (hnew ad h).elim (fun h => h.elim) (fun h2 => by have := hM _ hm; omega)), by omega, fun _ => hso.fin hg htl hpos, nofun⟩
    · clear S
      rintro D ⟨⟩ a w ⟨-, hno⟩ S
      replace S := S.join (Ds := [])
      repeat (first | refine xbr ?_ | refine xtr ?_)
      refine endM2 S (fun w hw => ⟨none, 0, [], false, rfl, fun _ _ => gl_nil, by simp, nofun, fun _ => ⟨rfl, hno⟩⟩)
    · intro id D k a w h; cases h.1
def usOf (sb : List SBox) : List Int := (sb.filter fun b => decide (0 < b.user)).map SBox.user
def gsOf (sb : List SBox) : List Int := (sb.filter fun b => !decide (0 < b.user)).map SBox.group
def UsersR (M : Nat → Prop) (T : Term) (v : Value) (w : World) : Prop := ∃ (us gs : List Int) (pu pg : Option Addr) (cu cg : Nat) (e : Int), v = .tuple ⟨[.slice pu us.length cu, .slice pg gs.length cg, .int .i64 e]⟩ ∧ Stable M w (GlF pu us) ∧ Stable M w (GlF pg gs) ∧ us.length ≤ 1200 ∧ gs.length ≤ 1200 ∧
  (e = 0 → ∃ sb, IsCap T sb ∧ us = usOf sb ∧ gs = gsOf sb) ∧ (e ≠ 0 → ∀ sb, ¬ IsCap T sb)
theorem usersG_c (t : LTerm) (M : Nat → Prop) (w0 : World) (hM : ∀ k, M k → k < w0.heap.size) (hf : Stable M w0 (LtF t)) : Ret Tryz.prog 62 [vL t] w0 (fun _ => False) fun v w' => UsersR M t.t v w' := by
  refine enter Tryz.func62 rfl rfl (Wd.beginM (M := M) (fs := [LtF t]) hM (by simpa using hf)) (fun a S => ?_)
  simp only [Tryz.ntmps62, List.length_cons, List.length_nil, Nat.reduceAdd, Nat.reduceSub, List.replicate_succ, List.replicate_zero, List.cons_append, List.nil_append] at S
  refine c_seq ?_; refine c_region ?_
  refine sa S ?_; clear S; intro b1 a w S
  (iterate 3 (refine sq S ?_; clear S; intro a S)); refine wl_nil ?_; refine xtn ?_; refine c_seq ?_; refine c_region ?_; refine sq S ?_; clear S; intro a S
  refine sr S (readG_c t _ w (foots_lt S) (S.t t)) ?_; clear S; rintro _ a w ⟨p, c, bx, ok, rfl, hfb, hbl, hyes, hno⟩ S
  replace S := S.add hfb
  (iterate 5 (refine sq S ?_; clear S; intro a S)); refine wl_nil ?_; refine xtn ?_; (iterate 2 (refine c_seq ?_)); refine c_region ?_; (iterate 2 (refine sq S ?_; clear S; intro a S)); refine wl_nil ?_; refine xtn ?_
  refine c_cond S (fun h2 => ?_) (fun h2 => ?_)
  · refine c_seq ?_; refine c_region ?_; (iterate 3 (refine sq S ?_; clear S; intro a S)); refine wl_nil ?_; refine xtn ?_; refine c_ret ?_; refine xtr ?_
    refine end3 S (fun _ => ⟨[], [], none, none, 0, 0, 230, rfl, fun _ _ => gl_nil, fun _ _ => gl_nil, by simp, by simp, by simp, fun _ => (hno (by simpa using h2)).2⟩)
  · refine c_skip ?_; refine xtn ?_; (iterate 2 (refine c_seq ?_))
    have hcap := hyes (by simpa using h2)
    refine c_region ?_; (iterate 3 (refine sq S ?_; clear S; intro a S)); refine wl_nil ?_; refine xtn ?_; refine c_block ?_
    refine c_fore5 S (fun (k : Nat) (us : List Int) (gs : List Int) (qu : Option Addr × Nat) (qg : Option Addr × Nat) uu => [(2, .slice qu.1 us.length qu.2), (0, .slice qg.1 gs.length qg.2), (4, uu 8), (9, .int .i64 (k : Nat)), (0, uu 19), (0, uu 20), (0, uu 21), (0, uu 22), (0, uu 23), (0, uu 24), (0, uu 25), (0, uu 26), (0, uu 27), (0, uu 28), (0, uu 29), (0, uu 30), (0, uu 31), (0, uu 32), (0, uu 33), (0, uu 34), (0, uu 35)]) (fun (k : Nat) (us : List Int) (gs : List Int) (qu : Option Addr × Nat) (qg : Option Addr × Nat) => [Wk.row 3 1 qg.1 gs.length qg.2 (encL gs), Wk.row 3 1 qu.1 us.length qu.2 (encL us), Wk.box b1 24 t.cells, ext M]) (fun (k : Nat) (us : List Int) (gs : List Int) (qu : Option Addr × Nat) (qg : Option Addr × Nat) => [GlF p bx, LtF t]) (fun (k : Nat) (us : List Int) (gs : List Int) (qu : Option Addr × Nat) (qg : Option Addr × Nat) => k ≤ bx.length ∧ us.length ≤ k ∧ gs.length ≤ k ∧ us = usOf ((bx.take k).map LBox.s) ∧ gs = gsOf ((bx.take k).map LBox.s)) (fun (k : Nat) (us : List Int) (gs : List Int) (qu : Option Addr × Nat) (qg : Option Addr × Nat) => bx.length - k) (0) ([]) ([]) ((none, 0)) ((none, 0)) ?_ S.uu ?_ ?_
    · exact ⟨Nat.zero_le _, Nat.le_refl _, Nat.le_refl _, rfl, rfl⟩
    · replace S := (S.addNil 3 1).addNil 3 1
      rw [show Wk.row 3 1 none 0 0 [] = Wk.row 3 1 none 0 0 (encL ([] : List Int)) from rfl] at S
      exact S.sub _ _
    · clear S; rintro k us gs qu qg uu a w ⟨hk, hul, hgl, hus, hgs⟩ S
      refine c_seq ?_; refine c_region ?_; refine sq S ?_; clear S; intro a S; refine wl_nil ?_; refine xtn ?_; refine c_seq ?_
      refine c_cond S (fun h5 => ?_) (fun h5 => ?_)
      · refine c_skip ?_; refine xtn ?_; refine c_seq ?_; refine c_block ?_; refine c_seq ?_
        have hkl : k < bx.length := by have := of_decide_eq_true h5; omega
        have hK : KLt k bx.length := ⟨hkl⟩
        refine c_region ?_; (iterate 2 (refine sq S ?_; clear S; intro a S))
        refine sa S ?_; clear S; intro b8 a w S
        refine sw S ?_; clear S; intro a w S; refine wl_nil ?_; refine xtn ?_; refine c_seq ?_; refine c_region ?_; (iterate 3 (refine sq S ?_; clear S; intro a S)); refine wl_nil ?_; refine xtn ?_
        refine c_cond S (fun h7 => ?_) (fun h7 => ?_)
        · refine c_region ?_; (iterate 3 (refine sq S ?_; clear S; intro a S))
          refine sn S ?_; clear S; intro b28 a w S
          refine sap S (by simp [maxLen]; omega) (by omega) ?_; clear S; rintro p8 c8 a w - S
          rw [show encL us ++ [Value.int .i64 (nthG bx k).user] = encL (us ++ [(nthG bx k).user]) from by rw [encL_append]; rfl, show us.length + 1 = (us ++ [(nthG bx k).user]).length from by simp] at S
          refine sq S ?_; clear S; intro a S; refine wl_nil ?_; refine xbn ?_; refine xtn ?_; refine c_region ?_; (iterate 2 (refine sq S ?_; clear S; intro a S)); refine wl_nil ?_; refine xtn ?_
          rw [w64 ((k : Int) + 1) (by omega) (by omega)] at S
          have hu : 0 < (nthG bx k).s.user := by show 0 < (nthG bx k).user; simpa using h7
          refine ⟨k + 1, us ++ [(nthG bx k).user], gs, (p8, c8), qg, S.uu, ⟨hkl, by simp; omega, by omega, ?_, ?_⟩, S.sub _ _, by omega⟩
          · rw [nthG_take hkl, List.map_append, usOf, List.filter_append, List.map_append, hus]
            simp [usOf, hu]; rfl
          · rw [nthG_take hkl, List.map_append, gsOf, List.filter_append, List.map_append, hgs]
            simp [gsOf, hu]
        · refine c_region ?_; (iterate 3 (refine sq S ?_; clear S; intro a S))
          refine sn S ?_; clear S; intro b33 a w S
          refine sap S (by simp [maxLen]; omega) (by omega) ?_; clear S; rintro p8 c8 a w - S
          rw [show encL gs ++ [Value.int .i64 (nthG bx k).group] = encL (gs ++ [(nthG bx k).group]) from by rw [encL_append]; rfl, show gs.length + 1 = (gs ++ [(nthG bx k).group]).length from by simp] at S
          refine sq S ?_; clear S; intro a S; refine wl_nil ?_; refine xbn ?_; refine xtn ?_; refine c_region ?_; (iterate 2 (refine sq S ?_; clear S; intro a S)); refine wl_nil ?_; refine xtn ?_
          rw [w64 ((k : Int) + 1) (by omega) (by omega)] at S
          have hu : ¬ 0 < (nthG bx k).s.user := by show ¬ 0 < (nthG bx k).user; simpa using h7
          refine ⟨k + 1, us, gs ++ [(nthG bx k).group], qu, (p8, c8), S.uu, ⟨hkl, by omega, by simp; omega, ?_, ?_⟩, S.sub _ _, by omega⟩
          · rw [nthG_take hkl, List.map_append, usOf, List.filter_append, List.map_append, hus]
            simp [usOf, hu]
          · rw [nthG_take hkl, List.map_append, gsOf, List.filter_append, List.map_append, hgs]
            simp [gsOf, hu]; rfl
      · refine c_exit ?_; (iterate 2 (refine xte ?_)); refine xbe ?_; refine xtn ?_; refine c_seq ?_; refine c_region ?_; (iterate 5 (refine sq S ?_; clear S; intro a S)); refine wl_nil ?_; refine xtn ?_; refine c_ret ?_
        have hke : k = bx.length := by have := of_decide_eq_false h5; omega
        subst hke
        rw [List.take_length] at hus hgs
        have hr1 := S.row qu.1 us.length
        have hn1 := S.rowNew qu.1 us.length
        have hr2 := S.row qg.1 gs.length
        have hn2 := S.rowNew qg.1 gs.length
        refine end3 S (fun _ => ?_)
        exact ⟨us, gs, qu.1, qg.1, qu.2, qg.2, 0, rfl, gl_own hr1 (fun _ _ _ _ => trivial) (fun ad h hm => (hn1 ad h).elim (fun h => h.elim) (fun h2 => by have := hM _ hm; omega)),
          gl_own hr2 (fun _ _ _ _ => trivial) (fun ad h hm => (hn2 ad h).elim (fun h => h.elim) (fun h2 => by have := hM _ hm; omega)), by omega, by omega, fun _ => ⟨_, hcap, hus, hgs⟩, fun h => absurd rfl h⟩
instance callName15 {s : List UInt8} {bs fs} [h : LeC s.length 1000000] : CallV Tryz.prog 58 [str s] bs fs (.bool (nameB s)) := ⟨fun w _ => mname_c s h.le w⟩
structure FitMeta (m : LMeta) : Prop where
  name : m.name.length ≤ 1000000
  rd : m.perm.rd.xs.length ≤ 100000
  wr : m.perm.wr.xs.length ≤ 100000
  gr : m.perm.gr.xs.length ≤ 100000
  past : m.past.xs.length ≤ 100000
  pasts : ∀ s ∈ m.past.xs, s.xs.length ≤ 100000
def permLM (m : Met) : Bool := okU m.owner && decide (1 ≤ m.epoch) && decide (m.epoch ≤ 8) && risF (fun x => okU x && decide (x ≠ m.owner)) none m.rd && risF (fun x => okU x && decide (x ≠ m.owner)) none m.wr && risF okG none m.gr && !(m.wr.any fun x => !decide (x ∈ m.rd))
def headM (m : Met) : Bool := nameB m.name && decide (1 ≤ m.version) && decide (m.version ≤ 9999) && permLM m && decide ((m.past.length : Int) = m.epoch - 1)
def metOk (m : Met) : Prop := headM m = true ∧ (∀ l ∈ m.past, riseB l m.owner = true) ∧ ∃ sb, IsCap m.boxes sb ∧ (usOf sb).Perm (m.owner :: m.rd) ∧ gsOf sb = m.gr
noncomputable def metF (m : Met) : Int := @ite _ (metOk m) (Classical.propDecidable _) 0 250
theorem metF_zero {m : Met} : metF m = 0 ↔ metOk m := by
  unfold metF
  by_cases h : metOk m
  · simp [h]
  · simp [h]
theorem metF_no {m : Met} (h : ¬ metOk m) : metF m = 250 := by unfold metF; rw [if_neg h]
theorem usOf_rise {t : Term} {sb : List SBox} (h : IsCap t sb) : (usOf sb).Pairwise (· < ·) := by
  have h1 := List.pairwise_map.1 h.2.2.2.1
  rw [usOf, List.pairwise_map, List.pairwise_filter]
  refine h1.imp fun {a b} hab ha hb => ?_
  simp only [decide_eq_true_eq] at ha hb
  simp only [SBox.place] at hab
  rw [if_pos ha, if_pos hb] at hab
  exact hab
theorem sorted_eq {a b : List Int} (ha : a.Pairwise (· ≤ ·)) (hb : b.Pairwise (· ≤ ·)) (h : a.Perm b) : a = b :=
  List.Perm.eq_of_pairwise (le := (· ≤ ·)) (fun x y _ _ h1 h2 => Int.le_antisymm h1 h2) ha hb h
theorem indexSl_c (F : Nat) [EntF Tryz.prog F] (ca : List Value) (q : (Sl Int) → Bool) (xs : List (Sl Int)) (p : Option Addr) (n c : Nat) (w0 : World) (hn : xs.length = n) (hl : n ≤ 9223372036854775807) (hx : Stable (fun _ => False) w0 (GlF p xs))
    (hF : ∀ x ∈ xs, ∀ w, Agree (fun _ => False) w0 w → Ret Tryz.prog F (.slice x.p x.xs.length x.cap :: ca) w (fun _ => False) fun v _ => v = .bool (q x)) :
    Ret Tryz.prog 88 [.slice p n c, .func (.func F) #[] ⟨ca⟩] w0 (fun _ => False) fun v _ => v = .int .i64 (idxG q xs 0) := by
  refine enter Tryz.func88 rfl rfl (Wd.begin (fs := [GlF p xs]) (by simpa using hx)) (fun a S => ?_)
  simp only [Tryz.ntmps88, List.length_cons, List.length_nil, Nat.reduceAdd, Nat.reduceSub, List.replicate_succ, List.replicate_zero, List.cons_append, List.nil_append] at S
  refine c_seq ?_; refine c_region ?_; refine sq S ?_; clear S; intro a S; refine wl_nil ?_; refine xtn ?_; (iterate 2 (refine c_seq ?_)); refine c_region ?_; (iterate 3 (refine sq S ?_; clear S; intro a S)); refine wl_nil ?_; refine xtn ?_; refine c_block ?_
  refine c_forb1 S (fun (k : Nat) uu => [(4, uu 4), (0, uu 5), (2, .int .i64 (k : Nat)), (0, uu 9), (0, uu 10), (0, uu 11), (0, uu 12), (0, uu 13), (0, uu 14), (0, uu 15), (0, uu 16), (0, uu 17), (0, uu 18)]) (fun (k : Nat) => k ≤ n ∧ idxG q (xs.drop k) k = idxG q xs 0) (fun (k : Nat) => n - k) (0) ?_ S.uu ?_ ?_
  · exact ⟨Nat.zero_le _, rfl⟩
  · first | exact S | exact S.sub _ _
  · clear S; rintro k uu a w ⟨hk, hrel⟩ S
    refine c_seq ?_; refine c_region ?_; refine sq S ?_; clear S; intro a S; refine wl_nil ?_; refine xtn ?_; refine c_seq ?_
    refine c_cond S (fun h2 => ?_) (fun h2 => ?_)
    · refine c_skip ?_; refine xtn ?_; refine c_seq ?_; refine c_block ?_; refine c_seq ?_; refine c_region ?_; (iterate 2 (refine sq S ?_; clear S; intro a S)); refine wl_nil ?_; refine xtn ?_; refine c_seq ?_
      have hkl : k < n := by simp at h2; omega
      have hK : KLt k n := ⟨hkl⟩
      have hK2 : KLt k xs.length := ⟨by omega⟩
      rw [nthG_drop (show k < xs.length by omega), idxG] at hrel
      refine c_region ?_; (iterate 5 (refine sq S ?_; clear S; intro a S))
      refine sr S (hF (nthG xs k) (nthG_mem (by omega)) w S.wd.agree) ?_; clear S; rintro _ a w rfl S
      refine wl_nil ?_; refine xtn ?_
      refine c_cond S (fun h4 => ?_) (fun h4 => ?_)
      · refine c_seq ?_; refine c_region ?_; (iterate 2 (refine sq S ?_; clear S; intro a S)); refine wl_nil ?_; refine xtn ?_; refine c_ret ?_; refine xbr ?_; (iterate 2 (refine xtr ?_)); refine xbr ?_; refine xtr ?_
        rw [if_pos h4] at hrel
        refine end1 S (fun _ => ?_)
        rw [hrel]
      · refine c_skip ?_; refine xbn ?_; refine xtn ?_; refine c_region ?_; (iterate 2 (refine sq S ?_; clear S; intro a S)); refine wl_nil ?_; refine xtn ?_
        rw [if_neg (by simpa using h4)] at hrel
        rw [w64 ((k : Int) + 1) (by omega) (by omega)] at S
        exact ⟨k + 1, S.uu, ⟨hkl, by rw [← hrel]; rfl⟩, S.sub _ _, by omega⟩
    · refine c_exit ?_; (iterate 2 (refine xte ?_)); refine xbe ?_; refine xtn ?_; refine c_seq ?_; refine c_region ?_; refine sq S ?_; clear S; intro a S; refine wl_nil ?_; refine xtn ?_; refine c_ret ?_
      rw [List.drop_of_length_le (by simp at h2; omega)] at hrel
      refine end1 S (fun _ => ?_)
      rw [← hrel]; rfl
theorem containsSl_c (F : Nat) [EntF Tryz.prog F] (ca : List Value) (q : (Sl Int) → Bool) (xs : List (Sl Int)) (p : Option Addr) (n c : Nat) (w0 : World) (hn : xs.length = n) (hl : n ≤ 9223372036854775807) (hx : Stable (fun _ => False) w0 (GlF p xs))
    (hF : ∀ x ∈ xs, ∀ w, Agree (fun _ => False) w0 w → Ret Tryz.prog F (.slice x.p x.xs.length x.cap :: ca) w (fun _ => False) fun v _ => v = .bool (q x)) :
    Ret Tryz.prog 59 [.slice p n c, .func (.func F) #[] ⟨ca⟩] w0 (fun _ => False) fun v _ => v = .bool (xs.any q) := by
  refine enter Tryz.func59 rfl rfl (Wd.begin (fs := [GlF p xs]) (by simpa using hx)) (fun a S => ?_)
  simp only [Tryz.ntmps59, List.length_cons, List.length_nil, Nat.reduceAdd, Nat.reduceSub, List.replicate_succ, List.replicate_zero, List.cons_append, List.nil_append] at S
  refine c_seq ?_; refine c_region ?_; refine sq S ?_; clear S; intro a S; refine wl_nil ?_; refine xtn ?_; refine c_seq ?_; refine c_region ?_; (iterate 2 (refine sq S ?_; clear S; intro a S))
  refine sr S (indexSl_c F ca q xs p n c _ hn hl (S.gl0 p) fun x hx w' hw' => hF x hx w' (S.wd.agree.trans hw')) ?_; clear S; rintro _ a w rfl S
  (iterate 2 (refine sq S ?_; clear S; intro a S)); refine wl_nil ?_; refine xtn ?_; refine c_ret ?_
  refine end1 S (fun _ => ?_)
  rw [idxG_any q xs 0 (by omega)]
theorem sl_len {M : Nat → Prop} {w : World} {s : Sl Int} (h : Stable M w (InF s)) : s.xs.length ≤ 9223372036854775807 := by
  have h0 := h.now
  have hm : (maxLen : Nat) ≤ 9223372036854775807 := by decide
  exact Nat.le_trans (Nat.le_trans h0.1 h0.2.1) hm
theorem mcheck1_c (b : Nat) (s : Sl Int) (m : LMeta) (w0 : World) (hb : Stable (fun _ => False) w0 (BoxF b 32 (cMeta m))) (hs : Stable (fun _ => False) w0 (InF s)) :
    Ret Tryz.prog 60 [.slice s.p s.xs.length s.cap, .pointer (some ⟨b, 0, none⟩)] w0 (fun _ => False) fun v _ => v = .bool (!riseB s.xs m.perm.owner) := by
  refine enter Tryz.func60 rfl rfl (Wd.begin (fs := [BoxF b 32 (cMeta m), InF s]) (by simp; exact ⟨hb, hs⟩)) (fun a S => ?_)
  simp only [Tryz.ntmps60, List.length_cons, List.length_nil, Nat.reduceAdd, Nat.reduceSub, List.replicate_succ, List.replicate_zero, List.cons_append, List.nil_append] at S
  refine c_seq ?_; refine c_region ?_; refine sq S ?_; clear S; intro a S; refine wl_nil ?_; refine xtn ?_; refine c_seq ?_; refine c_region ?_; (iterate 4 (refine sq S ?_; clear S; intro a S))
  refine sr S (mrising_c s.xs m.perm.owner s.p s.cap _ (sl_len hs) ((S.mem.i0 s).imp fun _ h => h.2.2)) ?_; clear S; rintro _ a w rfl S
  (iterate 2 (refine sq S ?_; clear S; intro a S)); refine wl_nil ?_; refine xtn ?_; refine c_ret ?_
  refine end1 S (fun _ => rfl)
theorem head_eq (m : LMeta) : (nameB m.name && decide (1 ≤ m.version) && decide (m.version ≤ 9999) && decide (permF m.perm = 0) && decide ((m.past.xs.length : Int) = IntKind.i64.wrap (m.perm.epoch - 1))) = headM m.m := by
  have e : headM m.m = (nameB m.name && decide (1 ≤ m.version) && decide (m.version ≤ 9999) && permB m.perm && decide (((m.past.xs.map Sl.xs).length : Int) = m.perm.epoch - 1)) := rfl
  rw [e, List.length_map]
  cases hp : permB m.perm with
  | false => simp [permF, hp]
  | true =>
    have hk : 1 ≤ m.perm.epoch ∧ m.perm.epoch ≤ 8 := by
      simp only [permB, Bool.and_eq_true, decide_eq_true_eq] at hp
      exact ⟨hp.1.1.1.1.1.2, hp.1.1.1.1.2⟩
    rw [w64 _ (by omega) (by omega)]
    simp [permF, hp]
theorem mcheck_c (m : LMeta) (hfit : FitMeta m) (w0 : World) (hf : Stable (fun _ => False) w0 (InF m)) : Ret Tryz.prog 27 [vMeta m] w0 (fun _ => False) fun v _ => v = .int .i64 (metF m.m) := by
  have hL1 : LeC m.name.length 1000000 := ⟨hfit.name⟩
  have hrd := hfit.rd
  have hpl := hfit.past
  refine enter Tryz.func27 rfl rfl (Wd.begin (fs := [InF m]) (by simpa using hf)) (fun a S => ?_)
  simp only [Tryz.ntmps27, List.length_cons, List.length_nil, Nat.reduceAdd, Nat.reduceSub, List.replicate_succ, List.replicate_zero, List.cons_append, List.nil_append] at S
  refine c_seq ?_; refine c_region ?_
  refine sa S ?_; clear S; intro b1 a w S
  refine sq S ?_; clear S; intro a S; refine wl_nil ?_; refine xtn ?_; refine c_seq ?_; refine c_region ?_; (iterate 2 (refine sq S ?_; clear S; intro a S)); refine sc S ?_; clear S; intro a w S; refine sq S ?_; clear S; intro a S; (iterate 3 (refine gQ S ?_; clear S; intro a S)); (iterate 2 (refine sq S ?_; clear S; intro a S)); (iterate 3 (refine gQ S ?_; clear S; intro a S)); (iterate 2 (refine sq S ?_; clear S; intro a S))
  (iterate 2 (refine gQ S ?_; clear S; intro a S)); refine gC S ?_; clear S; intro a w S; refine gQ S ?_; clear S; intro a S; (iterate 2 (refine sq S ?_; clear S; intro a S)); (iterate 8 (refine gQ S ?_; clear S; intro a S)); refine sq S ?_; clear S; intro a S
  rw [head_eq] at S
  refine sq S ?_; clear S; intro a S; refine wl_nil ?_; refine xtn ?_; refine c_seq ?_
  refine c_mrge1 S (fun (b2 : Bool) uu => [(37, uu 37), (0, uu 38), (0, uu 39), (0, uu 40), (0, uu 41), (0, uu 42), (0, uu 43), (0, .bool b2)]) (fun (b2 : Bool) => [Wk.box b1 32 (cMeta m)]) (fun (b2 : Bool) => [InF m]) (fun (b2 : Bool) => b2 = false ↔ headM m.m = true ∧ ∀ l ∈ m.m.past, riseB l m.perm.owner = true) ?_ ?_
  · refine c_region ?_; (iterate 3 (refine sq S ?_; clear S; intro a S))
    refine gS S (fun hs S => ?_) (fun hs S => ?_)
    · refine gF' S ?_; clear S; intro a S; (iterate 3 (refine gF' S ?_; clear S; intro a S)); refine sq S ?_; clear S; intro a S; refine wl_nil ?_; refine xtn ?_
      exact ⟨true, S.uu, ⟨nofun, fun h => by rw [h.1] at hs; cases hs⟩, S.sub _ _⟩
    · refine gT' S ?_; refine sq S ?_; clear S; intro a S; refine gT' S ?_; refine sq S ?_; clear S; intro a S; refine gT' S ?_; refine sq S ?_; clear S; intro a S; refine gT' S ?_
      have hbx := BoxF.stable (M := fun _ => False) (S.boxF b1) (fun h => h)
      have hpa : Stable (fun _ => False) w (InF m.past) := S.mem.i0 m.past
      refine sr S (containsSl_c 60 [.pointer (some ⟨b1, 0, none⟩)] (fun s => !riseB s.xs m.perm.owner) m.past.xs m.past.p m.past.xs.length m.past.cap _ rfl (by omega) (hpa.imp fun _ h => h.2.2) fun s hs w' hw' => mcheck1_c b1 s m w' (hbx.later hw') ((hpa.imp fun _ h => h.2.2.2 s hs).later hw')) ?_; clear S hbx hpa; rintro _ a w rfl S
      refine sq S ?_; clear S; intro a S; refine wl_nil ?_; refine xtn ?_
      have hh : headM m.m = true := by simpa using hs
      refine ⟨_, S.uu, ?_, S.sub _ _⟩
      rw [List.any_eq_false]
      refine ⟨fun h => ⟨hh, fun l hl => ?_⟩, fun h s hs => ?_⟩
      · obtain ⟨s, hs, rfl⟩ := List.mem_map.1 hl
        simpa using h s hs
      · simpa using h.2 s.xs (List.mem_map.2 ⟨s, hs, rfl⟩)
  · clear S; rintro b2 uu a w hb2 S
    refine c_cond S (fun h2 => ?_) (fun h2 => ?_)
    · refine c_seq ?_; refine c_region ?_; refine sq S ?_; clear S; intro a S; refine wl_nil ?_; refine xtn ?_; refine c_ret ?_; refine xtr ?_
      refine end1 S (fun _ => ?_)
      rw [metF_no fun h => by rw [hb2.2 ⟨h.1, h.2.1⟩] at h2; cases h2]
    · refine c_skip ?_; refine xtn ?_; refine c_seq ?_
      obtain ⟨hh, hpast⟩ := hb2.1 (by simpa using h2)
      refine c_region ?_; (iterate 2 (refine sq S ?_; clear S; intro a S))
      refine sr S (usersG_c m.boxes _ w (foots_lt S) (S.t m.boxes)) ?_; clear S; rintro _ a w ⟨us, gs, pu, pg, cu, cg, e, rfl, hfu, hfg, hul, hgl, hyes, hno⟩ S
      replace S := (S.add hfu).add hfg
      (iterate 7 (refine sq S ?_; clear S; intro a S)); refine wl_nil ?_; refine xtn ?_; refine c_seq ?_; refine c_region ?_; (iterate 3 (refine sq S ?_; clear S; intro a S))
      refine sn S ?_; clear S; intro b55 a w S
      (iterate 3 (refine sq S ?_; clear S; intro a S))
      replace S := S.boxRow b55 1 1 rfl (by simp [maxLen])
      refine sap S (by simp [maxLen]; omega) (by omega) ?_; clear S; rintro p8 c8 a w - S
      rw [show [Value.int .i64 m.perm.owner] ++ encL m.perm.rd.xs = encL (m.perm.owner :: m.perm.rd.xs) from rfl, show 1 + m.perm.rd.xs.length = (m.perm.owner :: m.perm.rd.xs).length from by simp; omega] at S
      refine sq S ?_; clear S; intro a S; refine wl_nil ?_; refine xtn ?_; refine c_seq ?_; refine c_region ?_; refine sq S ?_; clear S; intro a S
      refine sit (Wk.row 3 1 p8 (m.perm.owner :: m.perm.rd.xs).length c8 (encL (m.perm.owner :: m.perm.rd.xs))) S (sortI_c (m.perm.owner :: m.perm.rd.xs) p8 c8 w (by simp) (by simp; omega) (S.row p8 _)) rfl ?_; clear S; rintro _ a w ⟨rfl, who, hperm, hsort, hown⟩ hS
      have S := hS (Wk.row 3 1 p8 (m.perm.owner :: m.perm.rd.xs).length c8 (encL who)) hown (fun k hk => .inl hk)
      clear hS
      have hwl : who.length = (m.perm.owner :: m.perm.rd.xs).length := hperm.length_eq
      replace S := S.rowToGl (e := 3) (sz := 1) (n := (m.perm.owner :: m.perm.rd.xs).length) (c := c8) p8 who (fun _ _ _ _ => trivial)
      rw [← hwl] at S
      refine wl_nil ?_; refine xtn ?_; refine c_seq ?_
      refine c_mrge1 S (fun (b7 : Bool) uu => [(62, uu 62), (0, uu 63), (0, uu 64), (0, uu 65), (0, uu 66), (0, uu 67), (0, uu 68), (0, uu 69), (0, uu 70), (0, uu 71), (0, uu 72), (0, uu 73), (0, uu 74), (0, uu 75), (0, uu 76), (0, .bool b7)]) (fun (b7 : Bool) => [Wk.box b1 32 (cMeta m)]) (fun (b7 : Bool) => [InF m]) (fun (b7 : Bool) => b7 = false ↔ e = 0 ∧ us = who ∧ gs = m.perm.gr.xs) ?_ ?_
      · refine c_region ?_; (iterate 3 (refine sq S ?_; clear S; intro a S))
        refine gS S (fun hs1 S => ?_) (fun hs1 S => ?_)
        · refine gF' S ?_; clear S; intro a S; (iterate 3 (refine gF' S ?_; clear S; intro a S)); (iterate 2 (refine sq S ?_; clear S; intro a S))
          refine gS S (fun hs2 S => ?_) (fun hs2 S => ?_)
          · refine gF' S ?_; clear S; intro a S; (iterate 5 (refine gF' S ?_; clear S; intro a S)); refine sq S ?_; clear S; intro a S; refine wl_nil ?_; refine xtn ?_
            exact ⟨true, S.uu, ⟨nofun, fun h => by simp [h.1] at hs1⟩, S.sub _ _⟩
          · refine gT' S ?_; refine sq S ?_; clear S; intro a S; refine gT' S ?_; refine sq S ?_; clear S; intro a S; refine gT' S ?_; refine sq S ?_; clear S; intro a S; refine gT' S ?_; refine sq S ?_; clear S; intro a S; refine gT' S ?_
            refine sr S (mequal_c gs m.perm.gr.xs pg m.perm.gr.p cg m.perm.gr.cap _ (by omega) (S.mem.fact0 (GlF pg gs)) ((S.mem.i0 m.perm.gr).imp fun _ h => h.2.2)) ?_; clear S; rintro _ a w rfl S
            refine gT' S ?_; (iterate 2 (refine sq S ?_; clear S; intro a S)); refine wl_nil ?_; refine xtn ?_
            exact absurd hs2 (by simp)
        · refine gT' S ?_; refine sq S ?_; clear S; intro a S; refine gT' S ?_; refine sq S ?_; clear S; intro a S; refine gT' S ?_
          refine sr S (mequal_c us who pu p8 cu c8 _ (by omega) (S.mem.fact0 (GlF pu us)) (S.mem.fact0 (GlF p8 who))) ?_; clear S; rintro _ a w rfl S
          refine gT' S ?_; (iterate 3 (refine sq S ?_; clear S; intro a S))
          refine gS S (fun hs2 S => ?_) (fun hs2 S => ?_)
          · refine gF' S ?_; clear S; intro a S; (iterate 5 (refine gF' S ?_; clear S; intro a S)); refine sq S ?_; clear S; intro a S; refine wl_nil ?_; refine xtn ?_
            exact ⟨true, S.uu, ⟨nofun, fun h => by simp [h.2.1] at hs2⟩, S.sub _ _⟩
          · refine gT' S ?_; refine sq S ?_; clear S; intro a S; refine gT' S ?_; refine sq S ?_; clear S; intro a S; refine gT' S ?_; refine sq S ?_; clear S; intro a S; refine gT' S ?_; refine sq S ?_; clear S; intro a S; refine gT' S ?_
            refine sr S (mequal_c gs m.perm.gr.xs pg m.perm.gr.p cg m.perm.gr.cap _ (by omega) (S.mem.fact0 (GlF pg gs)) ((S.mem.i0 m.perm.gr).imp fun _ h => h.2.2)) ?_; clear S; rintro _ a w rfl S
            refine gT' S ?_; (iterate 2 (refine sq S ?_; clear S; intro a S)); refine wl_nil ?_; refine xtn ?_
            have q1 : e = 0 := by simpa using hs1
            have q2 : us = who := by simpa using hs2
            exact ⟨_, S.uu, by simp [q1, q2], S.sub _ _⟩
      · clear S; rintro b7 uu a w hb7 S
        refine c_cond S (fun h7 => ?_) (fun h7 => ?_)
        · refine c_seq ?_; refine c_region ?_; refine sq S ?_; clear S; intro a S; refine wl_nil ?_; refine xtn ?_; refine c_ret ?_; refine xtr ?_
          refine end1 S (fun _ => ?_)
          rw [metF_no fun h => ?_]
          obtain ⟨_, _, sb, h3, h4, h5⟩ := h
          by_cases he : e = 0
          · obtain ⟨sb', k1, k2, k3⟩ := hyes he
            have := k1.uniq h3
            subst this
            rw [hb7.2 ⟨he, ?_, by rw [k3, h5]; rfl⟩] at h7
            · cases h7
            · rw [k2]
              exact sorted_eq ((usOf_rise k1).imp fun h => Int.le_of_lt h) hsort (h4.trans hperm.symm)
          · exact hno he _ h3
        · refine c_skip ?_; refine xtn ?_; refine c_seq ?_; refine c_region ?_; refine sq S ?_; clear S; intro a S; refine wl_nil ?_; refine xtn ?_; refine c_ret ?_
          refine end1 S (fun _ => ?_)
          obtain ⟨he, hu, hg⟩ := hb7.1 (by simpa using h7)
          obtain ⟨sb, k1, k2, k3⟩ := hyes he
          rw [metF_zero.2 ⟨hh, hpast, sb, k1, by rw [← k2, hu]; exact hperm, by rw [← k3, hg]; rfl⟩]
def psameB (a b : LPerm) : Bool := decide (a.owner = b.owner) && decide (a.epoch = b.epoch) && decide (a.rd.xs = b.rd.xs) && decide (a.wr.xs = b.wr.xs) && decide (a.gr.xs = b.gr.xs)
def msameB (a b : Met) : Bool := decide (a.name = b.name) && decide (a.version = b.version) && (decide (a.owner = b.owner) && decide (a.epoch = b.epoch) && decide (a.rd = b.rd) && decide (a.wr = b.wr) && decide (a.gr = b.gr)) && decide (a.past = b.past) && sameF a.boxes b.boxes
theorem msameB_iff {a b : Met} : msameB a b = true ↔ a = b := by
  obtain ⟨a1, a2, a3, a4, a5, a6, a7, a8, a9⟩ := a
  obtain ⟨b1, b2, b3, b4, b5, b6, b7, b8, b9⟩ := b
  simp [msameB, sameF_iff, and_assoc]
def digT (n : Int) : Term := textT (Lib.itoa (max n 0))
def numsT (l : List Int) : Term := listT (l.map digT)
abbrev zT : List Value := [.int .i64 0, .int .i64 0, .int .i64 0, .string ⟨#[]⟩, .slice none 0 0]
theorem own_capM {w : World} {e : TypeId} {sz : Nat} {p : Option Addr} {n c : Nat} {xs : List Value} (h : w.ownsRow 0 e sz (.slice p n c) n xs) : c ≤ maxLen := by
  rcases h.2 with ⟨hv, h0⟩ | ⟨g, cap, cur, hv, hb, hg, hnc, hcm, hcs, ht⟩
  · cases hv; exact Nat.zero_le _
  · cases hv; exact hcm
theorem listT_injM : ∀ {a b : List Term}, listT a = listT b → a = b
  | [], [], _ => rfl
  | [], y :: ys, h => by simp [listT, textT, Term.pair] at h
  | x :: xs, [], h => by simp [listT, textT, Term.pair] at h
  | x :: xs, y :: ys, h => by
    simp only [listT, Term.pair, Term.mk.injEq, true_and, List.cons.injEq, and_true] at h
    rw [h.1, listT_injM h.2]
def okI (l : List Int) : Prop := ∀ x ∈ l, 0 ≤ x ∧ x ≤ 9999
theorem digT_pos {n : Int} (h : 0 ≤ n) : digT n = textT (Lib.itoa n) := by rw [digT, show max n 0 = n from by omega]
def I64s (l : List Int) : Prop := ∀ x ∈ l, -9223372036854775808 ≤ x ∧ x ≤ 9223372036854775807
theorem mnumbers_c (l : List Int) (p : Option Addr) (c : Nat) (M : Nat → Prop) (w0 : World) (hl : l.length ≤ 1000000) (hI : I64s l) (hM : ∀ k, M k → k < w0.heap.size) (ht : Stable M w0 TabF) (hx : Stable M w0 (GlF p l)) :
    Ret Tryz.prog 36 [.slice p l.length c] w0 (fun _ => False) fun v w' => IsT M w' v (numsT l) := by
  refine enter Tryz.func36 rfl rfl (Wd.beginM (M := M) (fs := [TabF, GlF p l]) hM (by simp; exact ⟨ht, hx⟩)) (fun a S => ?_)
  simp only [Tryz.ntmps36, List.length_cons, List.length_nil, Nat.reduceAdd, Nat.reduceSub, List.replicate_succ, List.replicate_zero, List.cons_append, List.nil_append] at S
  refine c_seq ?_; refine c_region ?_
  refine sa S ?_; clear S; intro b2 a w S
  refine wl_nil ?_; refine xtn ?_; refine c_seq ?_; refine c_region ?_; refine sq S ?_; clear S; intro a S; refine wl_nil ?_; refine xtn ?_; (iterate 2 (refine c_seq ?_)); refine c_region ?_; (iterate 3 (refine sq S ?_; clear S; intro a S)); refine wl_nil ?_; refine xtn ?_; refine c_block ?_
  refine c_fore4 S (fun (k : Nat) (os : List LTerm) (q : Option Addr) (e : Nat) uu => [(3, .slice q os.length e), (1, uu 5), (2, .int .i64 (k : Nat)), (0, uu 9), (0, uu 10), (0, uu 11), (0, uu 12), (0, uu 13), (0, uu 14), (0, uu 15), (0, uu 16), (0, uu 17)]) (fun (k : Nat) (os : List LTerm) (q : Option Addr) (e : Nat) => [Wk.row 24 5 q os.length e (encL os), Wk.box b2 24 zT, ext M]) (fun (k : Nat) (os : List LTerm) (q : Option Addr) (e : Nat) => [AllI os, TabF, GlF p l]) (fun (k : Nat) (os : List LTerm) (q : Option Addr) (e : Nat) => k ≤ l.length ∧ os.length = k ∧ os.map LTerm.t = (l.take k).map digT) (fun (k : Nat) (os : List LTerm) (q : Option Addr) (e : Nat) => l.length - k) (0) ([]) (none) (0) ?_ S.uu ?_ ?_
  · exact ⟨Nat.zero_le _, rfl, rfl⟩
  · replace S := S.addNil 24 5
    rw [show Wk.row 24 5 none 0 0 [] = Wk.row 24 5 none 0 0 (encL ([] : List LTerm)) from rfl] at S
    replace S := S.add (Φ := AllI (α := LTerm) []) AllI.nil
    exact S.sub _ _
  · clear S; rintro k os q e uu a w ⟨hk, hol, hos⟩ S
    refine c_seq ?_; refine c_region ?_; refine sq S ?_; clear S; intro a S; refine wl_nil ?_; refine xtn ?_; refine c_seq ?_
    refine c_cond S (fun h3 => ?_) (fun h3 => ?_)
    · refine c_skip ?_; refine xtn ?_; refine c_seq ?_; refine c_block ?_; refine c_seq ?_
      have hkl : k < l.length := by have := of_decide_eq_true h3; omega
      have hK : KLt k l.length := ⟨hkl⟩
      refine c_region ?_; (iterate 3 (refine sq S ?_; clear S; intro a S)); refine wl_nil ?_; refine xtn ?_; refine c_region ?_; (iterate 2 (refine sq S ?_; clear S; intro a S))
      refine sr S (mdigits_c (nthG l k) (hI _ (nthG_mem hkl)) _ (S.mem.fact0 TabF)) ?_; clear S; rintro _ a w rfl S
      obtain ⟨z, hz⟩ : ∃ z, z = textL (Lib.itoa (max (nthG l k) 0)) := ⟨_, rfl⟩
      rw [← hz] at S
      have hzi : ∀ w, LtIn w z := fun w => by rw [hz]; simp [textL, LtIn, LsIn]
      refine sn S ?_; clear S; intro b15 a w S
      have e1 : encL os ++ z.cells = encL (os ++ [z]) := by rw [encL_append, encT_cells]
      refine sap S (by simp [maxLen]; omega) (by omega) ?_; clear S; rintro p5 c5 a w - S
      rw [show encL os ++ [Value.int .i64 z.kind, Value.int .i64 z.user, Value.int .i64 z.num, str z.text, Value.slice z.p z.kids.length z.cap] = encL (os ++ [z]) from e1, show os.length + 1 = (os ++ [z]).length from by simp] at S
      replace S := S.add (Φ := AllI (os ++ [z])) ((S.wd.facts (AllI os) (by simp)).imp fun w h x hx => by
        rcases List.mem_append.1 hx with hx | hx
        · exact h x hx
        · rw [List.mem_singleton.1 hx]; exact hzi w)
      refine sq S ?_; clear S; intro a S; refine wl_nil ?_; refine xbn ?_; refine xtn ?_; refine c_region ?_; (iterate 2 (refine sq S ?_; clear S; intro a S)); refine wl_nil ?_; refine xtn ?_
      rw [w64 ((k : Int) + 1) (by omega) (by omega)] at S
      refine ⟨k + 1, os ++ [z], p5, c5, S.uu, ⟨hkl, by simp; omega, ?_⟩, S.sub _ _, by omega⟩
      rw [nthG_take hkl, List.map_append, List.map_append, hos, hz]; rfl
    · refine c_exit ?_; (iterate 2 (refine xte ?_)); refine xbe ?_; refine xtn ?_; refine c_seq ?_
      have hke : k = l.length := by have := of_decide_eq_false h3; omega
      subst hke
      rw [List.take_length] at hos
      replace S := S.rowToGl q os (e := 24) (sz := 5) (n := os.length) (c := e) (S.wd.facts (AllI os) (by simp))
      refine c_region ?_; refine sq S ?_; clear S; intro a S
      refine sr S (list_c os q e _ w (by omega) (foots_lt S) ((S.wd.facts (GlF q os) (by simp)).imp fun _ => gl_ls)) ?_; clear S; rintro _ a w ⟨r, rfl, hr, hrf⟩ S
      replace S := S.add hrf
      refine sw S ?_; clear S; intro a w S; refine wl_nil ?_; refine xtn ?_; refine c_ret ?_
      have hl := S.laterFact (Φ := LtF r) (by simp)
      refine end1 S (fun _ => ?_)
      exact ⟨r, rfl, by rw [hr, hos]; rfl, hl⟩
def metaS : List UInt8 := [109, 101, 116, 97]
def metaL (m : Met) : List Term := [textT metaS, textT m.name, digT m.version, digT m.owner, digT m.epoch, numsT m.rd, numsT m.wr, numsT m.gr, listT (m.past.map numsT), m.boxes]
def metaT (m : Met) (leaf : Int) : Term := signT m.owner leaf (listT (metaL m))
def MMakeR (M : Nat → Prop) (m : Met) (leaf : Int) (v : Value) (w : World) : Prop := ∃ (t : LTerm) (e : Int), v = .tuple ⟨[vL t, .int .i64 e]⟩ ∧ Stable M w (LtF t) ∧
  (e = 0 → metOk m ∧ (0 ≤ leaf ∧ leaf ≤ 65535) ∧ Good (metaT m leaf) ∧ t.t = metaT m leaf) ∧ (e ≠ 0 → t = zeroL ∧ ((e = 250 ∧ ¬ metOk m) ∨ (e = 2 ∧ metOk m ∧ ¬ (0 ≤ leaf ∧ leaf ≤ 65535)) ∨ (e = 150 ∧ metOk m ∧ (0 ≤ leaf ∧ leaf ≤ 65535) ∧ ¬ Good (metaT m leaf))))
structure IntMeta (m : LMeta) : Prop where
  rd : I64s m.perm.rd.xs
  wr : I64s m.perm.wr.xs
  gr : I64s m.perm.gr.xs
  past : ∀ s ∈ m.past.xs, I64s s.xs
set_option maxHeartbeats 4000000 in
theorem mmake_c (m : LMeta) (leaf : Int) (hfit : FitMeta m) (hI0 : metOk m.m → IntMeta m) (M : Nat → Prop) (w0 : World) (hM : ∀ k, M k → k < w0.heap.size) (ht : Stable M w0 TabF) (hf : Stable M w0 (InF m)) :
    Ret Tryz.prog 12 [vMeta m, .int .i64 leaf] w0 (fun _ => False) fun v w' => MMakeR M m.m leaf v w' := by
  have hpl := hfit.past
  refine enter Tryz.func12 rfl rfl (Wd.beginM (M := M) (fs := [TabF, InF m]) hM (by simp; exact ⟨ht, hf⟩)) (fun a S => ?_)
  simp only [Tryz.ntmps12, List.length_cons, List.length_nil, Nat.reduceAdd, Nat.reduceSub, List.replicate_succ, List.replicate_zero, List.cons_append, List.nil_append] at S
  refine c_seq ?_; refine c_region ?_
  refine sa S ?_; clear S; intro b2 a w S
  refine sa S ?_; clear S; intro b4 a w S
  refine sq S ?_; clear S; intro a S; refine wl_nil ?_; refine xtn ?_; refine c_seq ?_; refine c_block ?_; refine c_seq ?_; refine c_region ?_; refine sq S ?_; clear S; intro a S
  refine sr S (mcheck_c m hfit _ (S.mem.i0 m)) ?_; clear S; rintro _ a w rfl S
  (iterate 2 (refine sq S ?_; clear S; intro a S)); refine wl_nil ?_; refine xtn ?_
  refine c_cond S (fun h1 => ?_) (fun h1 => ?_)
  · refine c_seq ?_; refine c_region ?_; refine sq S ?_; clear S; intro a S; refine sw S ?_; clear S; intro a w S; refine sq S ?_; clear S; intro a S; refine wl_nil ?_; refine xtn ?_; refine c_ret ?_; refine xbr ?_; refine xtr ?_
    have hno : ¬ metOk m.m := fun h => by rw [metF_zero.2 h] at h1; simp at h1
    refine end2 S (fun _ => ?_)
    exact ⟨zeroL, 250, rfl, fun _ _ => zeroL_in _, nofun, fun _ => ⟨rfl, .inl ⟨rfl, hno⟩⟩⟩
  · refine c_seq ?_; refine c_region ?_; (iterate 3 (refine sq S ?_; clear S; intro a S)); (iterate 2 (refine gQ S ?_; clear S; intro a S)); (iterate 2 (refine sq S ?_; clear S; intro a S)); refine wl_nil ?_; refine xtn ?_
    refine c_cond S (fun h3 => ?_) (fun h3 => ?_)
    · refine c_seq ?_; refine c_region ?_; refine sq S ?_; clear S; intro a S; refine sw S ?_; clear S; intro a w S; refine sq S ?_; clear S; intro a S; refine wl_nil ?_; refine xtn ?_; refine c_ret ?_; refine xbr ?_; refine xtr ?_
      have hok : metOk m.m := metF_zero.1 (by simpa using h1)
      have hlf : ¬ (0 ≤ leaf ∧ leaf ≤ 65535) := by
        simp only [Bool.or_eq_true, decide_eq_true_eq] at h3; omega
      refine end2 S (fun _ => ?_)
      exact ⟨zeroL, 2, rfl, fun _ _ => zeroL_in _, nofun, fun _ => ⟨rfl, .inr (.inl ⟨rfl, hok, hlf⟩)⟩⟩
    · refine c_skip ?_; refine xbn ?_; refine xtn ?_; refine c_seq ?_
      have hok : metOk m.m := metF_zero.1 (by simpa using h1)
      have hI := hI0 hok
      have hlf : 0 ≤ leaf ∧ leaf ≤ 65535 := by
        simp only [Bool.or_eq_false_iff, decide_eq_false_iff_not] at h3; omega
      refine c_region ?_; refine sq S ?_; clear S; intro a S; refine wl_nil ?_; refine xtn ?_; (iterate 2 (refine c_seq ?_)); refine c_region ?_; (iterate 4 (refine sq S ?_; clear S; intro a S)); refine wl_nil ?_; refine xtn ?_; refine c_block ?_
      refine c_fore4 S (fun (k : Nat) (os : List LTerm) (q : Option Addr) (e : Nat) uu => [(6, .slice q os.length e), (1, uu 8), (18, .int .i64 (k : Nat)), (0, uu 28), (0, uu 29), (0, uu 30), (0, uu 31), (0, uu 32), (0, uu 33), (0, uu 34), (0, uu 35), (0, uu 36)]) (fun (k : Nat) (os : List LTerm) (q : Option Addr) (e : Nat) => [Wk.row 24 5 q os.length e (encL os), Wk.box b4 24 zT, Wk.box b2 32 (cMeta m), ext M]) (fun (k : Nat) (os : List LTerm) (q : Option Addr) (e : Nat) => [AllI os, TabF, InF m]) (fun (k : Nat) (os : List LTerm) (q : Option Addr) (e : Nat) => k ≤ m.past.xs.length ∧ os.length = k ∧ os.map LTerm.t = (m.past.xs.take k).map fun s => numsT s.xs) (fun (k : Nat) (os : List LTerm) (q : Option Addr) (e : Nat) => m.past.xs.length - k) (0) ([]) (none) (0) ?_ S.uu ?_ ?_
      · exact ⟨Nat.zero_le _, rfl, rfl⟩
      · replace S := S.addNil 24 5
        rw [show Wk.row 24 5 none 0 0 [] = Wk.row 24 5 none 0 0 (encL ([] : List LTerm)) from rfl] at S
        replace S := S.add (Φ := AllI (α := LTerm) []) AllI.nil
        exact S.sub _ _
      · clear S; rintro k os q e uu a w ⟨hk, hol, hos⟩ S
        refine c_seq ?_; refine c_region ?_; refine sq S ?_; clear S; intro a S; refine wl_nil ?_; refine xtn ?_; refine c_seq ?_
        refine c_cond S (fun h7 => ?_) (fun h7 => ?_)
        · refine c_skip ?_; refine xtn ?_; refine c_seq ?_; refine c_block ?_; refine c_seq ?_
          have hkl : k < m.past.xs.length := by have := of_decide_eq_true h7; omega
          have hK : KLt k m.past.xs.length := ⟨hkl⟩
          have hsl := hfit.pasts _ (nthG_mem hkl)
          refine c_region ?_; (iterate 3 (refine sq S ?_; clear S; intro a S)); refine wl_nil ?_; refine xtn ?_; refine c_region ?_; (iterate 2 (refine sq S ?_; clear S; intro a S))
          have hss : Stable (foots _) _ (InF (nthG m.past.xs k)) := (S.wd.facts (InF m) (by simp)).imp fun _ h => h.2.1.2.2.2 _ (nthG_mem hkl)
          refine sr S (mnumbers_c (nthG m.past.xs k).xs (nthG m.past.xs k).p (nthG m.past.xs k).cap _ w (by omega) (hI.past _ (nthG_mem hkl)) (foots_lt S) (S.wd.facts TabF (by simp)) (hss.imp fun _ h => h.2.2)) ?_; clear S hss; rintro _ a w ⟨z, rfl, hz, hzf⟩ S
          replace S := S.add hzf
          refine sn S ?_; clear S; intro b34 a w S
          have e1 : encL os ++ z.cells = encL (os ++ [z]) := by rw [encL_append, encT_cells]
          refine sap S (by simp [maxLen]; omega) (by omega) ?_; clear S; rintro p5 c5 a w - S
          rw [show encL os ++ [Value.int .i64 z.kind, Value.int .i64 z.user, Value.int .i64 z.num, str z.text, Value.slice z.p z.kids.length z.cap] = encL (os ++ [z]) from e1, show os.length + 1 = (os ++ [z]).length from by simp] at S
          replace S := S.add (Φ := AllI (os ++ [z])) (AllI.snoc (S.wd.facts (AllI os) (by simp)) (S.wd.facts (LtF z) (by simp)))
          refine sq S ?_; clear S; intro a S; refine wl_nil ?_; refine xbn ?_; refine xtn ?_; refine c_region ?_; (iterate 2 (refine sq S ?_; clear S; intro a S)); refine wl_nil ?_; refine xtn ?_
          rw [w64 ((k : Int) + 1) (by omega) (by omega)] at S
          refine ⟨k + 1, os ++ [z], p5, c5, S.uu, ⟨hkl, by simp; omega, ?_⟩, S.sub _ _, by omega⟩
          rw [nthG_take hkl, List.map_append, List.map_append, hos, List.map_singleton, List.map_singleton, hz]
        · refine c_exit ?_; (iterate 2 (refine xte ?_)); refine xbe ?_; refine xtn ?_; refine c_seq ?_
          have hke : k = m.past.xs.length := by have := of_decide_eq_false h7; omega
          subst hke
          rw [List.take_length] at hos
          replace S := S.rowToGl q os (e := 24) (sz := 5) (n := os.length) (c := e) (S.wd.facts (AllI os) (by simp))
          have hhd := hok.1
          have hv : 1 ≤ m.version ∧ m.version ≤ 9999 ∧ (1 ≤ m.perm.owner ∧ m.perm.owner ≤ 6) ∧ (1 ≤ m.perm.epoch ∧ m.perm.epoch ≤ 8) := by
            simp only [headM, permLM, okU, LMeta.m, Bool.and_eq_true, decide_eq_true_eq] at hhd
            obtain ⟨⟨⟨⟨_, q1⟩, q2⟩, q3⟩, _⟩ := hhd
            obtain ⟨⟨⟨⟨⟨⟨q4, q5⟩, q6⟩, _⟩, _⟩, _⟩, _⟩ := q3
            exact ⟨of_decide_eq_true q1, of_decide_eq_true q2, ⟨of_decide_eq_true q4.1, of_decide_eq_true q4.2⟩, of_decide_eq_true q5, of_decide_eq_true q6⟩
          obtain ⟨hv1, hv2, ⟨hv3, hv4⟩, hv5, hv6⟩ := hv
          have hI1 : I64 m.version := ⟨by omega, by omega⟩
          have hI2 : I64 m.perm.owner := ⟨by omega, by omega⟩
          have hI3 : I64 m.perm.epoch := ⟨by omega, by omega⟩
          have hrl := hfit.rd
          have hwl := hfit.wr
          have hgl := hfit.gr
          replace S := ((((S.add (Φ := LtF (textL metaS)) (fun _ _ => by simp [LtIn, textL, LsIn, LtF])).add (Φ := LtF (textL m.name)) (fun _ _ => by simp [LtIn, textL, LsIn, LtF])).add (Φ := LtF (textL (Lib.itoa (max m.version 0)))) (fun _ _ => by simp [LtIn, textL, LsIn, LtF])).add (Φ := LtF (textL (Lib.itoa (max m.perm.owner 0)))) (fun _ _ => by simp [LtIn, textL, LsIn, LtF])).add (Φ := LtF (textL (Lib.itoa (max m.perm.epoch 0)))) (fun _ _ => by simp [LtIn, textL, LsIn, LtF])
          refine c_region ?_; (iterate 2 (refine sq S ?_; clear S; intro a S))
          refine sa S ?_; clear S; intro b9 a w S
          refine sw S ?_; clear S; intro a w S; refine wl_nil ?_; refine xtn ?_; refine c_seq ?_
          refine c_drwe2 (.q 0 (.q 1 (.q 2 (.q 4 (.q 5 (.q 7 (.q 8 (.q 10 (.q 11 (.q 13 (.q 14 (.q 16 (.q 17 (.q 19 (.q 20 (.q 22 (.q 23 (.q 25 (.q 27 (.q 28 (.b2 3 32 (.b2 6 32 (.b2 9 32 (.b2 12 32 (.b2 15 32 (.b2 18 32 (.b2 21 32 (.b2 24 32 (.b2 26 32 (.b2 29 32 (.b2 30 32 (.b2 31 32 (.l 32 (.l 33 (.e))) (.l 31 (.l 33 (.e)))) (.l 30 (.l 31 (.l 33 (.e))))) (.l 29 (.l 30 (.l 31 (.l 33 (.e)))))) (.l 26 (.l 29 (.l 30 (.l 31 (.l 33 (.e))))))) (.l 24 (.l 26 (.l 29 (.l 30 (.l 31 (.l 33 (.e)))))))) (.l 21 (.l 24 (.l 26 (.l 29 (.l 30 (.l 31 (.l 33 (.e))))))))) (.l 18 (.l 21 (.l 24 (.l 26 (.l 29 (.l 30 (.l 31 (.l 33 (.e)))))))))) (.l 15 (.l 18 (.l 21 (.l 24 (.l 26 (.l 29 (.l 30 (.l 31 (.l 33 (.e))))))))))) (.l 12 (.l 15 (.l 18 (.l 21 (.l 24 (.l 26 (.l 29 (.l 30 (.l 31 (.l 33 (.e)))))))))))) (.l 9 (.l 12 (.l 15 (.l 18 (.l 21 (.l 24 (.l 26 (.l 29 (.l 30 (.l 31 (.l 33 (.e))))))))))))) (.l 6 (.l 9 (.l 12 (.l 15 (.l 18 (.l 21 (.l 24 (.l 26 (.l 29 (.l 30 (.l 31 (.l 33 (.e)))))))))))))) (.l 3 (.l 6 (.l 9 (.l 12 (.l 15 (.l 18 (.l 21 (.l 24 (.l 26 (.l 29 (.l 30 (.l 31 (.l 33 (.e))))))))))))))))))))))))))))))))))) S (fun (b : Nat) (t : LTerm) uu => [(10, .pointer (some ⟨b, 0, none⟩)), (28, uu 39), (0, uu 40), (0, uu 41), (0, uu 42), (0, uu 43), (0, uu 44), (0, uu 45), (0, uu 46), (0, uu 47), (0, uu 48), (0, uu 49), (0, uu 50), (0, uu 51), (0, uu 52), (0, uu 53), (0, uu 54), (0, uu 55), (0, uu 56), (0, uu 57), (0, uu 58), (0, uu 59), (0, uu 60), (0, uu 61), (0, uu 62), (0, uu 63), (0, uu 64), (0, uu 65), (0, uu 66), (0, uu 67), (0, uu 68), (0, uu 69), (0, uu 70)]) [Wk.box b9 29 (cPerm m.perm), Wk.box b4 24 zT, Wk.box b2 32 (cMeta m), ext M] (fun (b : Nat) (t : LTerm) => [Wk.box b 24 t.cells, Wk.box b9 29 (cPerm m.perm), Wk.box b4 24 zT, Wk.box b2 32 (cMeta m), ext M]) (fun (b : Nat) (t : LTerm) => [LtF t]) (fun (b : Nat) (t : LTerm) => t.t = metaT m.m leaf) ?_ ?_
          · intro w S
            (iterate 20 (refine tq S ?_; clear S; intro a S))
            refine tb2 ?_ ?_
            · refine sc S ?_; clear S; intro a w S; refine te S ?_
              refine tb2 ?_ ?_
              · refine sc S ?_; clear S; intro a w S; refine te S ?_
                refine tb2 ?_ ?_
                · refine sc S ?_; clear S; intro a w S; refine te S ?_
                  refine tb2 ?_ ?_
                  · refine sc S ?_; clear S; intro a w S; refine te S ?_
                    refine tb2 ?_ ?_
                    · refine sc S ?_; clear S; intro a w S; refine te S ?_
                      refine tb2 ?_ ?_
                      · have hss : Stable (foots _) _ (InF m.perm) := (S.wd.facts (InF m) (by simp)).imp fun _ h => h.1
                        refine sr S (mnumbers_c m.perm.rd.xs m.perm.rd.p m.perm.rd.cap _ w (by omega) hI.rd (foots_lt S) (S.wd.facts TabF (by simp)) (hss.imp fun _ h => h.1.2.2)) ?_; clear S hss; rintro _ a w ⟨z1, rfl, hz1, hz1f⟩ S
                        replace S := S.add hz1f
                        refine te S ?_
                        refine tb2 ?_ ?_
                        · have hss : Stable (foots _) _ (InF m.perm) := (S.wd.facts (InF m) (by simp)).imp fun _ h => h.1
                          refine sr S (mnumbers_c m.perm.wr.xs m.perm.wr.p m.perm.wr.cap _ w (by omega) hI.wr (foots_lt S) (S.wd.facts TabF (by simp)) (hss.imp fun _ h => h.2.1.2.2)) ?_; clear S hss; rintro _ a w ⟨z2, rfl, hz2, hz2f⟩ S
                          replace S := S.add hz2f
                          refine te S ?_
                          refine tb2 ?_ ?_
                          · have hss : Stable (foots _) _ (InF m.perm) := (S.wd.facts (InF m) (by simp)).imp fun _ h => h.1
                            refine sr S (mnumbers_c m.perm.gr.xs m.perm.gr.p m.perm.gr.cap _ w (by omega) hI.gr (foots_lt S) (S.wd.facts TabF (by simp)) (hss.imp fun _ h => h.2.2.2.2)) ?_; clear S hss; rintro _ a w ⟨z3, rfl, hz3, hz3f⟩ S
                            replace S := S.add hz3f
                            refine te S ?_
                            refine tb2 ?_ ?_
                            · refine sr S (list_c os q e _ w (by omega) (foots_lt S) ((S.wd.facts (GlF q os) (by simp)).imp fun _ => gl_ls)) ?_; clear S; rintro _ a w ⟨z4, rfl, hz4, hz4f⟩ S
                              replace S := S.add hz4f
                              refine te S ?_
                              refine tb2 ?_ ?_
                              · refine sn S ?_; clear S; intro b68 a w S
                                refine te S ?_
                                refine tb2 ?_ ?_
                                · replace S := S.frontLs b68 [textL metaS, textL m.name, textL (Lib.itoa (max m.version 0)), textL (Lib.itoa (max m.perm.owner 0)), textL (Lib.itoa (max m.perm.epoch 0)), z1, z2, z3, z4, m.boxes] rfl (fun t ht => by simp only [List.mem_cons, List.not_mem_nil, or_false] at ht; rcases ht with rfl | rfl | rfl | rfl | rfl | rfl | rfl | rfl | rfl | rfl <;> exact S.t _)
                                  refine sr S (list_c [textL metaS, textL m.name, textL (Lib.itoa (max m.version 0)), textL (Lib.itoa (max m.perm.owner 0)), textL (Lib.itoa (max m.perm.epoch 0)), z1, z2, z3, z4, m.boxes] (some ⟨b68, 0, none⟩) 10 _ w (by simp) (foots_lt S) (S.mem.fact (LsF (some ⟨b68, 0, none⟩) 0 [textL metaS, textL m.name, textL (Lib.itoa (max m.version 0)), textL (Lib.itoa (max m.perm.owner 0)), textL (Lib.itoa (max m.perm.epoch 0)), z1, z2, z3, z4, m.boxes]))) ?_; clear S; rintro _ a w ⟨z5, rfl, hz5, hz5f⟩ S
                                  replace S := S.add hz5f
                                  refine te S ?_
                                  refine tb2 ?_ ?_
                                  · refine sr S (sign_c m.perm.owner leaf z5 _ w (foots_lt S) (S.t z5)) ?_; clear S; rintro _ a w ⟨t, rfl, hts, htf⟩ S
                                    replace S := S.add htf
                                    refine te S ?_; refine tl ?_
                                    refine sa S ?_; clear S; intro b10 a w S
                                    refine te S ?_; refine tl ?_; refine sw S ?_; clear S; intro a w S; refine te S ?_; refine tn ?_
                                    refine ⟨b10, t, S.uu, ?_, S.sub _ _⟩
                                    rw [hts, hz5]
                                    simp only [List.map_cons, List.map_nil, hz1, hz2, hz3, hz4, hos]
                                    simp only [metaT, metaL, LMeta.m, List.map_map]
                                    rfl
                                  · refine sa S ?_; clear S; intro b10 a w S
                                    refine te S ?_; refine tl ?_
                                    refine sr S (sign_c m.perm.owner leaf z5 _ w (foots_lt S) (S.t z5)) ?_; clear S; rintro _ a w ⟨t, rfl, hts, htf⟩ S
                                    replace S := S.add htf
                                    refine te S ?_; refine tl ?_; refine sw S ?_; clear S; intro a w S; refine te S ?_; refine tn ?_
                                    refine ⟨b10, t, S.uu, ?_, S.sub _ _⟩
                                    rw [hts, hz5]
                                    simp only [List.map_cons, List.map_nil, hz1, hz2, hz3, hz4, hos]
                                    simp only [metaT, metaL, LMeta.m, List.map_map]
                                    rfl
                                · refine sa S ?_; clear S; intro b10 a w S
                                  refine te S ?_; refine tl ?_
                                  replace S := S.frontLs b68 [textL metaS, textL m.name, textL (Lib.itoa (max m.version 0)), textL (Lib.itoa (max m.perm.owner 0)), textL (Lib.itoa (max m.perm.epoch 0)), z1, z2, z3, z4, m.boxes] rfl (fun t ht => by simp only [List.mem_cons, List.not_mem_nil, or_false] at ht; rcases ht with rfl | rfl | rfl | rfl | rfl | rfl | rfl | rfl | rfl | rfl <;> exact S.t _)
                                  refine sr S (list_c [textL metaS, textL m.name, textL (Lib.itoa (max m.version 0)), textL (Lib.itoa (max m.perm.owner 0)), textL (Lib.itoa (max m.perm.epoch 0)), z1, z2, z3, z4, m.boxes] (some ⟨b68, 0, none⟩) 10 _ w (by simp) (foots_lt S) (S.mem.fact (LsF (some ⟨b68, 0, none⟩) 0 [textL metaS, textL m.name, textL (Lib.itoa (max m.version 0)), textL (Lib.itoa (max m.perm.owner 0)), textL (Lib.itoa (max m.perm.epoch 0)), z1, z2, z3, z4, m.boxes]))) ?_; clear S; rintro _ a w ⟨z5, rfl, hz5, hz5f⟩ S
                                  replace S := S.add hz5f
                                  refine te S ?_; refine tl ?_
                                  refine sr S (sign_c m.perm.owner leaf z5 _ w (foots_lt S) (S.t z5)) ?_; clear S; rintro _ a w ⟨t, rfl, hts, htf⟩ S
                                  replace S := S.add htf
                                  refine te S ?_; refine tl ?_; refine sw S ?_; clear S; intro a w S; refine te S ?_; refine tn ?_
                                  refine ⟨b10, t, S.uu, ?_, S.sub _ _⟩
                                  rw [hts, hz5]
                                  simp only [List.map_cons, List.map_nil, hz1, hz2, hz3, hz4, hos]
                                  simp only [metaT, metaL, LMeta.m, List.map_map]
                                  rfl
                              · refine sa S ?_; clear S; intro b10 a w S
                                refine te S ?_; refine tl ?_
                                refine sn S ?_; clear S; intro b68 a w S
                                refine te S ?_; refine tl ?_
                                replace S := S.frontLs b68 [textL metaS, textL m.name, textL (Lib.itoa (max m.version 0)), textL (Lib.itoa (max m.perm.owner 0)), textL (Lib.itoa (max m.perm.epoch 0)), z1, z2, z3, z4, m.boxes] rfl (fun t ht => by simp only [List.mem_cons, List.not_mem_nil, or_false] at ht; rcases ht with rfl | rfl | rfl | rfl | rfl | rfl | rfl | rfl | rfl | rfl <;> exact S.t _)
                                refine sr S (list_c [textL metaS, textL m.name, textL (Lib.itoa (max m.version 0)), textL (Lib.itoa (max m.perm.owner 0)), textL (Lib.itoa (max m.perm.epoch 0)), z1, z2, z3, z4, m.boxes] (some ⟨b68, 0, none⟩) 10 _ w (by simp) (foots_lt S) (S.mem.fact (LsF (some ⟨b68, 0, none⟩) 0 [textL metaS, textL m.name, textL (Lib.itoa (max m.version 0)), textL (Lib.itoa (max m.perm.owner 0)), textL (Lib.itoa (max m.perm.epoch 0)), z1, z2, z3, z4, m.boxes]))) ?_; clear S; rintro _ a w ⟨z5, rfl, hz5, hz5f⟩ S
                                replace S := S.add hz5f
                                refine te S ?_; refine tl ?_
                                refine sr S (sign_c m.perm.owner leaf z5 _ w (foots_lt S) (S.t z5)) ?_; clear S; rintro _ a w ⟨t, rfl, hts, htf⟩ S
                                replace S := S.add htf
                                refine te S ?_; refine tl ?_; refine sw S ?_; clear S; intro a w S; refine te S ?_; refine tn ?_
                                refine ⟨b10, t, S.uu, ?_, S.sub _ _⟩
                                rw [hts, hz5]
                                simp only [List.map_cons, List.map_nil, hz1, hz2, hz3, hz4, hos]
                                simp only [metaT, metaL, LMeta.m, List.map_map]
                                rfl
                            · refine sa S ?_; clear S; intro b10 a w S
                              refine te S ?_; refine tl ?_
                              refine sr S (list_c os q e _ w (by omega) (foots_lt S) ((S.wd.facts (GlF q os) (by simp)).imp fun _ => gl_ls)) ?_; clear S; rintro _ a w ⟨z4, rfl, hz4, hz4f⟩ S
                              replace S := S.add hz4f
                              refine te S ?_; refine tl ?_
                              refine sn S ?_; clear S; intro b68 a w S
                              refine te S ?_; refine tl ?_
                              replace S := S.frontLs b68 [textL metaS, textL m.name, textL (Lib.itoa (max m.version 0)), textL (Lib.itoa (max m.perm.owner 0)), textL (Lib.itoa (max m.perm.epoch 0)), z1, z2, z3, z4, m.boxes] rfl (fun t ht => by simp only [List.mem_cons, List.not_mem_nil, or_false] at ht; rcases ht with rfl | rfl | rfl | rfl | rfl | rfl | rfl | rfl | rfl | rfl <;> exact S.t _)
                              refine sr S (list_c [textL metaS, textL m.name, textL (Lib.itoa (max m.version 0)), textL (Lib.itoa (max m.perm.owner 0)), textL (Lib.itoa (max m.perm.epoch 0)), z1, z2, z3, z4, m.boxes] (some ⟨b68, 0, none⟩) 10 _ w (by simp) (foots_lt S) (S.mem.fact (LsF (some ⟨b68, 0, none⟩) 0 [textL metaS, textL m.name, textL (Lib.itoa (max m.version 0)), textL (Lib.itoa (max m.perm.owner 0)), textL (Lib.itoa (max m.perm.epoch 0)), z1, z2, z3, z4, m.boxes]))) ?_; clear S; rintro _ a w ⟨z5, rfl, hz5, hz5f⟩ S
                              replace S := S.add hz5f
                              refine te S ?_; refine tl ?_
                              refine sr S (sign_c m.perm.owner leaf z5 _ w (foots_lt S) (S.t z5)) ?_; clear S; rintro _ a w ⟨t, rfl, hts, htf⟩ S
                              replace S := S.add htf
                              refine te S ?_; refine tl ?_; refine sw S ?_; clear S; intro a w S; refine te S ?_; refine tn ?_
                              refine ⟨b10, t, S.uu, ?_, S.sub _ _⟩
                              rw [hts, hz5]
                              simp only [List.map_cons, List.map_nil, hz1, hz2, hz3, hz4, hos]
                              simp only [metaT, metaL, LMeta.m, List.map_map]
                              rfl
                          · refine sa S ?_; clear S; intro b10 a w S
                            refine te S ?_; refine tl ?_
                            have hss : Stable (foots _) _ (InF m.perm) := (S.wd.facts (InF m) (by simp)).imp fun _ h => h.1
                            refine sr S (mnumbers_c m.perm.gr.xs m.perm.gr.p m.perm.gr.cap _ w (by omega) hI.gr (foots_lt S) (S.wd.facts TabF (by simp)) (hss.imp fun _ h => h.2.2.2.2)) ?_; clear S hss; rintro _ a w ⟨z3, rfl, hz3, hz3f⟩ S
                            replace S := S.add hz3f
                            refine te S ?_; refine tl ?_
                            refine sr S (list_c os q e _ w (by omega) (foots_lt S) ((S.wd.facts (GlF q os) (by simp)).imp fun _ => gl_ls)) ?_; clear S; rintro _ a w ⟨z4, rfl, hz4, hz4f⟩ S
                            replace S := S.add hz4f
                            refine te S ?_; refine tl ?_
                            refine sn S ?_; clear S; intro b68 a w S
                            refine te S ?_; refine tl ?_
                            replace S := S.frontLs b68 [textL metaS, textL m.name, textL (Lib.itoa (max m.version 0)), textL (Lib.itoa (max m.perm.owner 0)), textL (Lib.itoa (max m.perm.epoch 0)), z1, z2, z3, z4, m.boxes] rfl (fun t ht => by simp only [List.mem_cons, List.not_mem_nil, or_false] at ht; rcases ht with rfl | rfl | rfl | rfl | rfl | rfl | rfl | rfl | rfl | rfl <;> exact S.t _)
                            refine sr S (list_c [textL metaS, textL m.name, textL (Lib.itoa (max m.version 0)), textL (Lib.itoa (max m.perm.owner 0)), textL (Lib.itoa (max m.perm.epoch 0)), z1, z2, z3, z4, m.boxes] (some ⟨b68, 0, none⟩) 10 _ w (by simp) (foots_lt S) (S.mem.fact (LsF (some ⟨b68, 0, none⟩) 0 [textL metaS, textL m.name, textL (Lib.itoa (max m.version 0)), textL (Lib.itoa (max m.perm.owner 0)), textL (Lib.itoa (max m.perm.epoch 0)), z1, z2, z3, z4, m.boxes]))) ?_; clear S; rintro _ a w ⟨z5, rfl, hz5, hz5f⟩ S
                            replace S := S.add hz5f
                            refine te S ?_; refine tl ?_
                            refine sr S (sign_c m.perm.owner leaf z5 _ w (foots_lt S) (S.t z5)) ?_; clear S; rintro _ a w ⟨t, rfl, hts, htf⟩ S
                            replace S := S.add htf
                            refine te S ?_; refine tl ?_; refine sw S ?_; clear S; intro a w S; refine te S ?_; refine tn ?_
                            refine ⟨b10, t, S.uu, ?_, S.sub _ _⟩
                            rw [hts, hz5]
                            simp only [List.map_cons, List.map_nil, hz1, hz2, hz3, hz4, hos]
                            simp only [metaT, metaL, LMeta.m, List.map_map]
                            rfl
                        · refine sa S ?_; clear S; intro b10 a w S
                          refine te S ?_; refine tl ?_
                          have hss : Stable (foots _) _ (InF m.perm) := (S.wd.facts (InF m) (by simp)).imp fun _ h => h.1
                          refine sr S (mnumbers_c m.perm.wr.xs m.perm.wr.p m.perm.wr.cap _ w (by omega) hI.wr (foots_lt S) (S.wd.facts TabF (by simp)) (hss.imp fun _ h => h.2.1.2.2)) ?_; clear S hss; rintro _ a w ⟨z2, rfl, hz2, hz2f⟩ S
                          replace S := S.add hz2f
                          refine te S ?_; refine tl ?_
                          have hss : Stable (foots _) _ (InF m.perm) := (S.wd.facts (InF m) (by simp)).imp fun _ h => h.1
                          refine sr S (mnumbers_c m.perm.gr.xs m.perm.gr.p m.perm.gr.cap _ w (by omega) hI.gr (foots_lt S) (S.wd.facts TabF (by simp)) (hss.imp fun _ h => h.2.2.2.2)) ?_; clear S hss; rintro _ a w ⟨z3, rfl, hz3, hz3f⟩ S
                          replace S := S.add hz3f
                          refine te S ?_; refine tl ?_
                          refine sr S (list_c os q e _ w (by omega) (foots_lt S) ((S.wd.facts (GlF q os) (by simp)).imp fun _ => gl_ls)) ?_; clear S; rintro _ a w ⟨z4, rfl, hz4, hz4f⟩ S
                          replace S := S.add hz4f
                          refine te S ?_; refine tl ?_
                          refine sn S ?_; clear S; intro b68 a w S
                          refine te S ?_; refine tl ?_
                          replace S := S.frontLs b68 [textL metaS, textL m.name, textL (Lib.itoa (max m.version 0)), textL (Lib.itoa (max m.perm.owner 0)), textL (Lib.itoa (max m.perm.epoch 0)), z1, z2, z3, z4, m.boxes] rfl (fun t ht => by simp only [List.mem_cons, List.not_mem_nil, or_false] at ht; rcases ht with rfl | rfl | rfl | rfl | rfl | rfl | rfl | rfl | rfl | rfl <;> exact S.t _)
                          refine sr S (list_c [textL metaS, textL m.name, textL (Lib.itoa (max m.version 0)), textL (Lib.itoa (max m.perm.owner 0)), textL (Lib.itoa (max m.perm.epoch 0)), z1, z2, z3, z4, m.boxes] (some ⟨b68, 0, none⟩) 10 _ w (by simp) (foots_lt S) (S.mem.fact (LsF (some ⟨b68, 0, none⟩) 0 [textL metaS, textL m.name, textL (Lib.itoa (max m.version 0)), textL (Lib.itoa (max m.perm.owner 0)), textL (Lib.itoa (max m.perm.epoch 0)), z1, z2, z3, z4, m.boxes]))) ?_; clear S; rintro _ a w ⟨z5, rfl, hz5, hz5f⟩ S
                          replace S := S.add hz5f
                          refine te S ?_; refine tl ?_
                          refine sr S (sign_c m.perm.owner leaf z5 _ w (foots_lt S) (S.t z5)) ?_; clear S; rintro _ a w ⟨t, rfl, hts, htf⟩ S
                          replace S := S.add htf
                          refine te S ?_; refine tl ?_; refine sw S ?_; clear S; intro a w S; refine te S ?_; refine tn ?_
                          refine ⟨b10, t, S.uu, ?_, S.sub _ _⟩
                          rw [hts, hz5]
                          simp only [List.map_cons, List.map_nil, hz1, hz2, hz3, hz4, hos]
                          simp only [metaT, metaL, LMeta.m, List.map_map]
                          rfl
                      · refine sa S ?_; clear S; intro b10 a w S
                        refine te S ?_; refine tl ?_
                        have hss : Stable (foots _) _ (InF m.perm) := (S.wd.facts (InF m) (by simp)).imp fun _ h => h.1
                        refine sr S (mnumbers_c m.perm.rd.xs m.perm.rd.p m.perm.rd.cap _ w (by omega) hI.rd (foots_lt S) (S.wd.facts TabF (by simp)) (hss.imp fun _ h => h.1.2.2)) ?_; clear S hss; rintro _ a w ⟨z1, rfl, hz1, hz1f⟩ S
                        replace S := S.add hz1f
                        refine te S ?_; refine tl ?_
                        have hss : Stable (foots _) _ (InF m.perm) := (S.wd.facts (InF m) (by simp)).imp fun _ h => h.1
                        refine sr S (mnumbers_c m.perm.wr.xs m.perm.wr.p m.perm.wr.cap _ w (by omega) hI.wr (foots_lt S) (S.wd.facts TabF (by simp)) (hss.imp fun _ h => h.2.1.2.2)) ?_; clear S hss; rintro _ a w ⟨z2, rfl, hz2, hz2f⟩ S
                        replace S := S.add hz2f
                        refine te S ?_; refine tl ?_
                        have hss : Stable (foots _) _ (InF m.perm) := (S.wd.facts (InF m) (by simp)).imp fun _ h => h.1
                        refine sr S (mnumbers_c m.perm.gr.xs m.perm.gr.p m.perm.gr.cap _ w (by omega) hI.gr (foots_lt S) (S.wd.facts TabF (by simp)) (hss.imp fun _ h => h.2.2.2.2)) ?_; clear S hss; rintro _ a w ⟨z3, rfl, hz3, hz3f⟩ S
                        replace S := S.add hz3f
                        refine te S ?_; refine tl ?_
                        refine sr S (list_c os q e _ w (by omega) (foots_lt S) ((S.wd.facts (GlF q os) (by simp)).imp fun _ => gl_ls)) ?_; clear S; rintro _ a w ⟨z4, rfl, hz4, hz4f⟩ S
                        replace S := S.add hz4f
                        refine te S ?_; refine tl ?_
                        refine sn S ?_; clear S; intro b68 a w S
                        refine te S ?_; refine tl ?_
                        replace S := S.frontLs b68 [textL metaS, textL m.name, textL (Lib.itoa (max m.version 0)), textL (Lib.itoa (max m.perm.owner 0)), textL (Lib.itoa (max m.perm.epoch 0)), z1, z2, z3, z4, m.boxes] rfl (fun t ht => by simp only [List.mem_cons, List.not_mem_nil, or_false] at ht; rcases ht with rfl | rfl | rfl | rfl | rfl | rfl | rfl | rfl | rfl | rfl <;> exact S.t _)
                        refine sr S (list_c [textL metaS, textL m.name, textL (Lib.itoa (max m.version 0)), textL (Lib.itoa (max m.perm.owner 0)), textL (Lib.itoa (max m.perm.epoch 0)), z1, z2, z3, z4, m.boxes] (some ⟨b68, 0, none⟩) 10 _ w (by simp) (foots_lt S) (S.mem.fact (LsF (some ⟨b68, 0, none⟩) 0 [textL metaS, textL m.name, textL (Lib.itoa (max m.version 0)), textL (Lib.itoa (max m.perm.owner 0)), textL (Lib.itoa (max m.perm.epoch 0)), z1, z2, z3, z4, m.boxes]))) ?_; clear S; rintro _ a w ⟨z5, rfl, hz5, hz5f⟩ S
                        replace S := S.add hz5f
                        refine te S ?_; refine tl ?_
                        refine sr S (sign_c m.perm.owner leaf z5 _ w (foots_lt S) (S.t z5)) ?_; clear S; rintro _ a w ⟨t, rfl, hts, htf⟩ S
                        replace S := S.add htf
                        refine te S ?_; refine tl ?_; refine sw S ?_; clear S; intro a w S; refine te S ?_; refine tn ?_
                        refine ⟨b10, t, S.uu, ?_, S.sub _ _⟩
                        rw [hts, hz5]
                        simp only [List.map_cons, List.map_nil, hz1, hz2, hz3, hz4, hos]
                        simp only [metaT, metaL, LMeta.m, List.map_map]
                        rfl
                    · refine sa S ?_; clear S; intro b10 a w S
                      refine te S ?_; refine tl ?_; refine sc S ?_; clear S; intro a w S; refine te S ?_; refine tl ?_
                      have hss : Stable (foots _) _ (InF m.perm) := (S.wd.facts (InF m) (by simp)).imp fun _ h => h.1
                      refine sr S (mnumbers_c m.perm.rd.xs m.perm.rd.p m.perm.rd.cap _ w (by omega) hI.rd (foots_lt S) (S.wd.facts TabF (by simp)) (hss.imp fun _ h => h.1.2.2)) ?_; clear S hss; rintro _ a w ⟨z1, rfl, hz1, hz1f⟩ S
                      replace S := S.add hz1f
                      refine te S ?_; refine tl ?_
                      have hss : Stable (foots _) _ (InF m.perm) := (S.wd.facts (InF m) (by simp)).imp fun _ h => h.1
                      refine sr S (mnumbers_c m.perm.wr.xs m.perm.wr.p m.perm.wr.cap _ w (by omega) hI.wr (foots_lt S) (S.wd.facts TabF (by simp)) (hss.imp fun _ h => h.2.1.2.2)) ?_; clear S hss; rintro _ a w ⟨z2, rfl, hz2, hz2f⟩ S
                      replace S := S.add hz2f
                      refine te S ?_; refine tl ?_
                      have hss : Stable (foots _) _ (InF m.perm) := (S.wd.facts (InF m) (by simp)).imp fun _ h => h.1
                      refine sr S (mnumbers_c m.perm.gr.xs m.perm.gr.p m.perm.gr.cap _ w (by omega) hI.gr (foots_lt S) (S.wd.facts TabF (by simp)) (hss.imp fun _ h => h.2.2.2.2)) ?_; clear S hss; rintro _ a w ⟨z3, rfl, hz3, hz3f⟩ S
                      replace S := S.add hz3f
                      refine te S ?_; refine tl ?_
                      refine sr S (list_c os q e _ w (by omega) (foots_lt S) ((S.wd.facts (GlF q os) (by simp)).imp fun _ => gl_ls)) ?_; clear S; rintro _ a w ⟨z4, rfl, hz4, hz4f⟩ S
                      replace S := S.add hz4f
                      refine te S ?_; refine tl ?_
                      refine sn S ?_; clear S; intro b68 a w S
                      refine te S ?_; refine tl ?_
                      replace S := S.frontLs b68 [textL metaS, textL m.name, textL (Lib.itoa (max m.version 0)), textL (Lib.itoa (max m.perm.owner 0)), textL (Lib.itoa (max m.perm.epoch 0)), z1, z2, z3, z4, m.boxes] rfl (fun t ht => by simp only [List.mem_cons, List.not_mem_nil, or_false] at ht; rcases ht with rfl | rfl | rfl | rfl | rfl | rfl | rfl | rfl | rfl | rfl <;> exact S.t _)
                      refine sr S (list_c [textL metaS, textL m.name, textL (Lib.itoa (max m.version 0)), textL (Lib.itoa (max m.perm.owner 0)), textL (Lib.itoa (max m.perm.epoch 0)), z1, z2, z3, z4, m.boxes] (some ⟨b68, 0, none⟩) 10 _ w (by simp) (foots_lt S) (S.mem.fact (LsF (some ⟨b68, 0, none⟩) 0 [textL metaS, textL m.name, textL (Lib.itoa (max m.version 0)), textL (Lib.itoa (max m.perm.owner 0)), textL (Lib.itoa (max m.perm.epoch 0)), z1, z2, z3, z4, m.boxes]))) ?_; clear S; rintro _ a w ⟨z5, rfl, hz5, hz5f⟩ S
                      replace S := S.add hz5f
                      refine te S ?_; refine tl ?_
                      refine sr S (sign_c m.perm.owner leaf z5 _ w (foots_lt S) (S.t z5)) ?_; clear S; rintro _ a w ⟨t, rfl, hts, htf⟩ S
                      replace S := S.add htf
                      refine te S ?_; refine tl ?_; refine sw S ?_; clear S; intro a w S; refine te S ?_; refine tn ?_
                      refine ⟨b10, t, S.uu, ?_, S.sub _ _⟩
                      rw [hts, hz5]
                      simp only [List.map_cons, List.map_nil, hz1, hz2, hz3, hz4, hos]
                      simp only [metaT, metaL, LMeta.m, List.map_map]
                      rfl
                  · refine sa S ?_; clear S; intro b10 a w S
                    refine te S ?_; refine tl ?_; refine sc S ?_; clear S; intro a w S; refine te S ?_; refine tl ?_; refine sc S ?_; clear S; intro a w S; refine te S ?_; refine tl ?_
                    have hss : Stable (foots _) _ (InF m.perm) := (S.wd.facts (InF m) (by simp)).imp fun _ h => h.1
                    refine sr S (mnumbers_c m.perm.rd.xs m.perm.rd.p m.perm.rd.cap _ w (by omega) hI.rd (foots_lt S) (S.wd.facts TabF (by simp)) (hss.imp fun _ h => h.1.2.2)) ?_; clear S hss; rintro _ a w ⟨z1, rfl, hz1, hz1f⟩ S
                    replace S := S.add hz1f
                    refine te S ?_; refine tl ?_
                    have hss : Stable (foots _) _ (InF m.perm) := (S.wd.facts (InF m) (by simp)).imp fun _ h => h.1
                    refine sr S (mnumbers_c m.perm.wr.xs m.perm.wr.p m.perm.wr.cap _ w (by omega) hI.wr (foots_lt S) (S.wd.facts TabF (by simp)) (hss.imp fun _ h => h.2.1.2.2)) ?_; clear S hss; rintro _ a w ⟨z2, rfl, hz2, hz2f⟩ S
                    replace S := S.add hz2f
                    refine te S ?_; refine tl ?_
                    have hss : Stable (foots _) _ (InF m.perm) := (S.wd.facts (InF m) (by simp)).imp fun _ h => h.1
                    refine sr S (mnumbers_c m.perm.gr.xs m.perm.gr.p m.perm.gr.cap _ w (by omega) hI.gr (foots_lt S) (S.wd.facts TabF (by simp)) (hss.imp fun _ h => h.2.2.2.2)) ?_; clear S hss; rintro _ a w ⟨z3, rfl, hz3, hz3f⟩ S
                    replace S := S.add hz3f
                    refine te S ?_; refine tl ?_
                    refine sr S (list_c os q e _ w (by omega) (foots_lt S) ((S.wd.facts (GlF q os) (by simp)).imp fun _ => gl_ls)) ?_; clear S; rintro _ a w ⟨z4, rfl, hz4, hz4f⟩ S
                    replace S := S.add hz4f
                    refine te S ?_; refine tl ?_
                    refine sn S ?_; clear S; intro b68 a w S
                    refine te S ?_; refine tl ?_
                    replace S := S.frontLs b68 [textL metaS, textL m.name, textL (Lib.itoa (max m.version 0)), textL (Lib.itoa (max m.perm.owner 0)), textL (Lib.itoa (max m.perm.epoch 0)), z1, z2, z3, z4, m.boxes] rfl (fun t ht => by simp only [List.mem_cons, List.not_mem_nil, or_false] at ht; rcases ht with rfl | rfl | rfl | rfl | rfl | rfl | rfl | rfl | rfl | rfl <;> exact S.t _)
                    refine sr S (list_c [textL metaS, textL m.name, textL (Lib.itoa (max m.version 0)), textL (Lib.itoa (max m.perm.owner 0)), textL (Lib.itoa (max m.perm.epoch 0)), z1, z2, z3, z4, m.boxes] (some ⟨b68, 0, none⟩) 10 _ w (by simp) (foots_lt S) (S.mem.fact (LsF (some ⟨b68, 0, none⟩) 0 [textL metaS, textL m.name, textL (Lib.itoa (max m.version 0)), textL (Lib.itoa (max m.perm.owner 0)), textL (Lib.itoa (max m.perm.epoch 0)), z1, z2, z3, z4, m.boxes]))) ?_; clear S; rintro _ a w ⟨z5, rfl, hz5, hz5f⟩ S
                    replace S := S.add hz5f
                    refine te S ?_; refine tl ?_
                    refine sr S (sign_c m.perm.owner leaf z5 _ w (foots_lt S) (S.t z5)) ?_; clear S; rintro _ a w ⟨t, rfl, hts, htf⟩ S
                    replace S := S.add htf
                    refine te S ?_; refine tl ?_; refine sw S ?_; clear S; intro a w S; refine te S ?_; refine tn ?_
                    refine ⟨b10, t, S.uu, ?_, S.sub _ _⟩
                    rw [hts, hz5]
                    simp only [List.map_cons, List.map_nil, hz1, hz2, hz3, hz4, hos]
                    simp only [metaT, metaL, LMeta.m, List.map_map]
                    rfl
                · refine sa S ?_; clear S; intro b10 a w S
                  refine te S ?_; refine tl ?_; refine sc S ?_; clear S; intro a w S; refine te S ?_; refine tl ?_; refine sc S ?_; clear S; intro a w S; refine te S ?_; refine tl ?_; refine sc S ?_; clear S; intro a w S; refine te S ?_; refine tl ?_
                  have hss : Stable (foots _) _ (InF m.perm) := (S.wd.facts (InF m) (by simp)).imp fun _ h => h.1
                  refine sr S (mnumbers_c m.perm.rd.xs m.perm.rd.p m.perm.rd.cap _ w (by omega) hI.rd (foots_lt S) (S.wd.facts TabF (by simp)) (hss.imp fun _ h => h.1.2.2)) ?_; clear S hss; rintro _ a w ⟨z1, rfl, hz1, hz1f⟩ S
                  replace S := S.add hz1f
                  refine te S ?_; refine tl ?_
                  have hss : Stable (foots _) _ (InF m.perm) := (S.wd.facts (InF m) (by simp)).imp fun _ h => h.1
                  refine sr S (mnumbers_c m.perm.wr.xs m.perm.wr.p m.perm.wr.cap _ w (by omega) hI.wr (foots_lt S) (S.wd.facts TabF (by simp)) (hss.imp fun _ h => h.2.1.2.2)) ?_; clear S hss; rintro _ a w ⟨z2, rfl, hz2, hz2f⟩ S
                  replace S := S.add hz2f
                  refine te S ?_; refine tl ?_
                  have hss : Stable (foots _) _ (InF m.perm) := (S.wd.facts (InF m) (by simp)).imp fun _ h => h.1
                  refine sr S (mnumbers_c m.perm.gr.xs m.perm.gr.p m.perm.gr.cap _ w (by omega) hI.gr (foots_lt S) (S.wd.facts TabF (by simp)) (hss.imp fun _ h => h.2.2.2.2)) ?_; clear S hss; rintro _ a w ⟨z3, rfl, hz3, hz3f⟩ S
                  replace S := S.add hz3f
                  refine te S ?_; refine tl ?_
                  refine sr S (list_c os q e _ w (by omega) (foots_lt S) ((S.wd.facts (GlF q os) (by simp)).imp fun _ => gl_ls)) ?_; clear S; rintro _ a w ⟨z4, rfl, hz4, hz4f⟩ S
                  replace S := S.add hz4f
                  refine te S ?_; refine tl ?_
                  refine sn S ?_; clear S; intro b68 a w S
                  refine te S ?_; refine tl ?_
                  replace S := S.frontLs b68 [textL metaS, textL m.name, textL (Lib.itoa (max m.version 0)), textL (Lib.itoa (max m.perm.owner 0)), textL (Lib.itoa (max m.perm.epoch 0)), z1, z2, z3, z4, m.boxes] rfl (fun t ht => by simp only [List.mem_cons, List.not_mem_nil, or_false] at ht; rcases ht with rfl | rfl | rfl | rfl | rfl | rfl | rfl | rfl | rfl | rfl <;> exact S.t _)
                  refine sr S (list_c [textL metaS, textL m.name, textL (Lib.itoa (max m.version 0)), textL (Lib.itoa (max m.perm.owner 0)), textL (Lib.itoa (max m.perm.epoch 0)), z1, z2, z3, z4, m.boxes] (some ⟨b68, 0, none⟩) 10 _ w (by simp) (foots_lt S) (S.mem.fact (LsF (some ⟨b68, 0, none⟩) 0 [textL metaS, textL m.name, textL (Lib.itoa (max m.version 0)), textL (Lib.itoa (max m.perm.owner 0)), textL (Lib.itoa (max m.perm.epoch 0)), z1, z2, z3, z4, m.boxes]))) ?_; clear S; rintro _ a w ⟨z5, rfl, hz5, hz5f⟩ S
                  replace S := S.add hz5f
                  refine te S ?_; refine tl ?_
                  refine sr S (sign_c m.perm.owner leaf z5 _ w (foots_lt S) (S.t z5)) ?_; clear S; rintro _ a w ⟨t, rfl, hts, htf⟩ S
                  replace S := S.add htf
                  refine te S ?_; refine tl ?_; refine sw S ?_; clear S; intro a w S; refine te S ?_; refine tn ?_
                  refine ⟨b10, t, S.uu, ?_, S.sub _ _⟩
                  rw [hts, hz5]
                  simp only [List.map_cons, List.map_nil, hz1, hz2, hz3, hz4, hos]
                  simp only [metaT, metaL, LMeta.m, List.map_map]
                  rfl
              · refine sa S ?_; clear S; intro b10 a w S
                refine te S ?_; refine tl ?_; refine sc S ?_; clear S; intro a w S; refine te S ?_; refine tl ?_; refine sc S ?_; clear S; intro a w S; refine te S ?_; refine tl ?_; refine sc S ?_; clear S; intro a w S; refine te S ?_; refine tl ?_; refine sc S ?_; clear S; intro a w S; refine te S ?_; refine tl ?_
                have hss : Stable (foots _) _ (InF m.perm) := (S.wd.facts (InF m) (by simp)).imp fun _ h => h.1
                refine sr S (mnumbers_c m.perm.rd.xs m.perm.rd.p m.perm.rd.cap _ w (by omega) hI.rd (foots_lt S) (S.wd.facts TabF (by simp)) (hss.imp fun _ h => h.1.2.2)) ?_; clear S hss; rintro _ a w ⟨z1, rfl, hz1, hz1f⟩ S
                replace S := S.add hz1f
                refine te S ?_; refine tl ?_
                have hss : Stable (foots _) _ (InF m.perm) := (S.wd.facts (InF m) (by simp)).imp fun _ h => h.1
                refine sr S (mnumbers_c m.perm.wr.xs m.perm.wr.p m.perm.wr.cap _ w (by omega) hI.wr (foots_lt S) (S.wd.facts TabF (by simp)) (hss.imp fun _ h => h.2.1.2.2)) ?_; clear S hss; rintro _ a w ⟨z2, rfl, hz2, hz2f⟩ S
                replace S := S.add hz2f
                refine te S ?_; refine tl ?_
                have hss : Stable (foots _) _ (InF m.perm) := (S.wd.facts (InF m) (by simp)).imp fun _ h => h.1
                refine sr S (mnumbers_c m.perm.gr.xs m.perm.gr.p m.perm.gr.cap _ w (by omega) hI.gr (foots_lt S) (S.wd.facts TabF (by simp)) (hss.imp fun _ h => h.2.2.2.2)) ?_; clear S hss; rintro _ a w ⟨z3, rfl, hz3, hz3f⟩ S
                replace S := S.add hz3f
                refine te S ?_; refine tl ?_
                refine sr S (list_c os q e _ w (by omega) (foots_lt S) ((S.wd.facts (GlF q os) (by simp)).imp fun _ => gl_ls)) ?_; clear S; rintro _ a w ⟨z4, rfl, hz4, hz4f⟩ S
                replace S := S.add hz4f
                refine te S ?_; refine tl ?_
                refine sn S ?_; clear S; intro b68 a w S
                refine te S ?_; refine tl ?_
                replace S := S.frontLs b68 [textL metaS, textL m.name, textL (Lib.itoa (max m.version 0)), textL (Lib.itoa (max m.perm.owner 0)), textL (Lib.itoa (max m.perm.epoch 0)), z1, z2, z3, z4, m.boxes] rfl (fun t ht => by simp only [List.mem_cons, List.not_mem_nil, or_false] at ht; rcases ht with rfl | rfl | rfl | rfl | rfl | rfl | rfl | rfl | rfl | rfl <;> exact S.t _)
                refine sr S (list_c [textL metaS, textL m.name, textL (Lib.itoa (max m.version 0)), textL (Lib.itoa (max m.perm.owner 0)), textL (Lib.itoa (max m.perm.epoch 0)), z1, z2, z3, z4, m.boxes] (some ⟨b68, 0, none⟩) 10 _ w (by simp) (foots_lt S) (S.mem.fact (LsF (some ⟨b68, 0, none⟩) 0 [textL metaS, textL m.name, textL (Lib.itoa (max m.version 0)), textL (Lib.itoa (max m.perm.owner 0)), textL (Lib.itoa (max m.perm.epoch 0)), z1, z2, z3, z4, m.boxes]))) ?_; clear S; rintro _ a w ⟨z5, rfl, hz5, hz5f⟩ S
                replace S := S.add hz5f
                refine te S ?_; refine tl ?_
                refine sr S (sign_c m.perm.owner leaf z5 _ w (foots_lt S) (S.t z5)) ?_; clear S; rintro _ a w ⟨t, rfl, hts, htf⟩ S
                replace S := S.add htf
                refine te S ?_; refine tl ?_; refine sw S ?_; clear S; intro a w S; refine te S ?_; refine tn ?_
                refine ⟨b10, t, S.uu, ?_, S.sub _ _⟩
                rw [hts, hz5]
                simp only [List.map_cons, List.map_nil, hz1, hz2, hz3, hz4, hos]
                simp only [metaT, metaL, LMeta.m, List.map_map]
                rfl
            · refine sa S ?_; clear S; intro b10 a w S
              refine te S ?_; refine tl ?_; refine sc S ?_; clear S; intro a w S; refine te S ?_; refine tl ?_; refine sc S ?_; clear S; intro a w S; refine te S ?_; refine tl ?_; refine sc S ?_; clear S; intro a w S; refine te S ?_; refine tl ?_; refine sc S ?_; clear S; intro a w S; refine te S ?_; refine tl ?_; refine sc S ?_; clear S; intro a w S; refine te S ?_; refine tl ?_
              have hss : Stable (foots _) _ (InF m.perm) := (S.wd.facts (InF m) (by simp)).imp fun _ h => h.1
              refine sr S (mnumbers_c m.perm.rd.xs m.perm.rd.p m.perm.rd.cap _ w (by omega) hI.rd (foots_lt S) (S.wd.facts TabF (by simp)) (hss.imp fun _ h => h.1.2.2)) ?_; clear S hss; rintro _ a w ⟨z1, rfl, hz1, hz1f⟩ S
              replace S := S.add hz1f
              refine te S ?_; refine tl ?_
              have hss : Stable (foots _) _ (InF m.perm) := (S.wd.facts (InF m) (by simp)).imp fun _ h => h.1
              refine sr S (mnumbers_c m.perm.wr.xs m.perm.wr.p m.perm.wr.cap _ w (by omega) hI.wr (foots_lt S) (S.wd.facts TabF (by simp)) (hss.imp fun _ h => h.2.1.2.2)) ?_; clear S hss; rintro _ a w ⟨z2, rfl, hz2, hz2f⟩ S
              replace S := S.add hz2f
              refine te S ?_; refine tl ?_
              have hss : Stable (foots _) _ (InF m.perm) := (S.wd.facts (InF m) (by simp)).imp fun _ h => h.1
              refine sr S (mnumbers_c m.perm.gr.xs m.perm.gr.p m.perm.gr.cap _ w (by omega) hI.gr (foots_lt S) (S.wd.facts TabF (by simp)) (hss.imp fun _ h => h.2.2.2.2)) ?_; clear S hss; rintro _ a w ⟨z3, rfl, hz3, hz3f⟩ S
              replace S := S.add hz3f
              refine te S ?_; refine tl ?_
              refine sr S (list_c os q e _ w (by omega) (foots_lt S) ((S.wd.facts (GlF q os) (by simp)).imp fun _ => gl_ls)) ?_; clear S; rintro _ a w ⟨z4, rfl, hz4, hz4f⟩ S
              replace S := S.add hz4f
              refine te S ?_; refine tl ?_
              refine sn S ?_; clear S; intro b68 a w S
              refine te S ?_; refine tl ?_
              replace S := S.frontLs b68 [textL metaS, textL m.name, textL (Lib.itoa (max m.version 0)), textL (Lib.itoa (max m.perm.owner 0)), textL (Lib.itoa (max m.perm.epoch 0)), z1, z2, z3, z4, m.boxes] rfl (fun t ht => by simp only [List.mem_cons, List.not_mem_nil, or_false] at ht; rcases ht with rfl | rfl | rfl | rfl | rfl | rfl | rfl | rfl | rfl | rfl <;> exact S.t _)
              refine sr S (list_c [textL metaS, textL m.name, textL (Lib.itoa (max m.version 0)), textL (Lib.itoa (max m.perm.owner 0)), textL (Lib.itoa (max m.perm.epoch 0)), z1, z2, z3, z4, m.boxes] (some ⟨b68, 0, none⟩) 10 _ w (by simp) (foots_lt S) (S.mem.fact (LsF (some ⟨b68, 0, none⟩) 0 [textL metaS, textL m.name, textL (Lib.itoa (max m.version 0)), textL (Lib.itoa (max m.perm.owner 0)), textL (Lib.itoa (max m.perm.epoch 0)), z1, z2, z3, z4, m.boxes]))) ?_; clear S; rintro _ a w ⟨z5, rfl, hz5, hz5f⟩ S
              replace S := S.add hz5f
              refine te S ?_; refine tl ?_
              refine sr S (sign_c m.perm.owner leaf z5 _ w (foots_lt S) (S.t z5)) ?_; clear S; rintro _ a w ⟨t, rfl, hts, htf⟩ S
              replace S := S.add htf
              refine te S ?_; refine tl ?_; refine sw S ?_; clear S; intro a w S; refine te S ?_; refine tn ?_
              refine ⟨b10, t, S.uu, ?_, S.sub _ _⟩
              rw [hts, hz5]
              simp only [List.map_cons, List.map_nil, hz1, hz2, hz3, hz4, hos]
              simp only [metaT, metaL, LMeta.m, List.map_map]
              rfl
          clear S; rintro b t uu a w htd S
          refine xtn ?_; (iterate 2 (refine c_seq ?_)); refine c_region ?_; refine sq S ?_; clear S; intro a S; refine sc S ?_; clear S; intro a w S; refine sq S ?_; clear S; intro a S; refine wl_nil ?_; refine xtn ?_
          refine c_cond S (fun h13 => ?_) (fun h13 => ?_)
          · refine c_seq ?_; refine c_region ?_; refine sq S ?_; clear S; intro a S; refine sw S ?_; clear S; intro a w S; refine sq S ?_; clear S; intro a S; refine wl_nil ?_; refine xtn ?_; refine c_ret ?_; refine xtr ?_
            have hg : ¬ Good (metaT m.m leaf) := fun hg => by
              rw [← htd] at hg
              rw [good_check.2 hg] at h13; simp at h13
            refine end2 S (fun _ => ?_)
            exact ⟨zeroL, 150, rfl, fun _ _ => zeroL_in _, nofun, fun _ => ⟨rfl, .inr (.inr ⟨rfl, hok, hlf, hg⟩)⟩⟩
          · refine c_skip ?_; refine xtn ?_; refine c_seq ?_; refine c_region ?_; refine sq S ?_; clear S; intro a S; refine sw S ?_; clear S; intro a w S; refine sq S ?_; clear S; intro a S; refine wl_nil ?_; refine xtn ?_; refine c_ret ?_
            have hg : Good (metaT m.m leaf) := by
              rw [← htd]
              exact good_check.1 (by simpa using h13)
            have hlat := S.laterT (M := M) t
            refine end2 S (fun _ => ?_)
            exact ⟨t, 0, rfl, hlat, fun _ => ⟨hok, hlf, hg, htd⟩, fun h => absurd rfl h⟩
end Go.Proofs.YtibkkbknnfehlaaGreatDoor