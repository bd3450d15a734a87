/- 7: a part of this claim's texts, joined: LaidB LawTreeA TreeI LawTreeB LawTreeC W7 DataA DataB RefNum RefNumB RefNumC RefGuard RefTree RefTreeB Spoil SpoilB. -/
import Derived.Test.YtieeoakdkbackaaDoorPt6
import Derived.Lib.LaidTab
import Derived.SizedLaws
import Derived.ChangeVars
import Derived.JoinedOf
import Derived.JoinedAt
import Derived.RecoverIn
import Derived.OpenShut
import Derived.Lib.ConvBytes
/- From a row's condition to what a walk needs; the rows of layer 14: TreeUnlike. -/
namespace Go.Proofs.YtieeoakdkbackaaDoor
open Go Go.Wk
open Go.ChangeShapes Go.WideShapes Go.ChangeAt Go.RowKit
set_option maxRecDepth 100000

theorem starE : "*" ++ "errors.errorString" = "*errors.errorString" := by decide
theorem rowE (u : TypeId) (h : Tryd.prog.typeName? 3 u = some "*errors.errorString") : u = 167 :=
  typeName_ptr_named (nm := "errors.errorString") (by rw [starE]; kernel_rfl) (by kernel_rfl) (by decide) u (by rw [starE]; exact h)
theorem pow10_data : (Rows.laid_internal_strconv_uint64pow10 : DataW Unit) = Lib.tabData .u64 Lib.pow10Tab := by kernel_rfl
theorem lib_of_laid {W : World} (h : laidMet Tryd.prog laidL W) : LibF W := by
  have h3 := h.tail.tail
  have h4 := h3.tail
  have h5 := h4.tail
  refine ⟨?_, ?_, ?_⟩
  · refine Lib.tabIs_of_head (rest := [("strconv.ErrRange", Rows.laid_strconv_ErrRange), ("strconv.ErrSyntax", Rows.laid_strconv_ErrSyntax)]) (g := 3) (t := 171) (e := 153) (n := 20) (by kernel_rfl) (by kernel_rfl) (by kernel_rfl) (by kernel_rfl) (by kernel_rfl) (by kernel_rfl) ?_
    rw [← pow10_data]; exact h3
  · obtain ⟨a, s, hv, -⟩ := laid_sentinel h5 (g := 1) (ti := 114) (by kernel_rfl) (by kernel_rfl) Tryd.underlying114 rowE Tryd.underlying167 Tryd.underlying169 rfl rfl Tryd.underlying9 (by kernel_rfl) (by kernel_rfl)
    exact ⟨_, _, hv⟩
  · obtain ⟨a, s, hv, -⟩ := laid_sentinel h4 (g := 2) (ti := 114) (by kernel_rfl) (by kernel_rfl) Tryd.underlying114 rowE Tryd.underlying167 Tryd.underlying169 rfl rfl Tryd.underlying9 (by kernel_rfl) (by kernel_rfl)
    exact ⟨_, _, hv⟩
instance troMark : Tro Tryd.prog 51 LMark := ⟨fun enc w base spare held fuel cs x h => by
  obtain ⟨hlen, hf⟩ := trod_flds Tryd.underlying51 h
  rw [show Tryd.prog.cellsOf 51 = 2 from by kernel_rfl] at hlen
  obtain ⟨n0, y0, g0⟩ := hf 0 9 0 rfl
  obtain ⟨n1, y1, g1⟩ := hf 1 3 1 rfl
  have hS : Tro Tryd.prog 9 (List UInt8) := troS Tryd.underlying9 (by kernel_rfl)
  obtain ⟨u0, e0, i0⟩ := trod_fld (α := List UInt8) g0 rfl
  obtain ⟨u1, e1, i1⟩ := trod_fld (α := Int) g1 rfl
  refine ⟨⟨u0, u1⟩, ?_, trivial⟩
  match cs, hlen with
  | [c0, c1], _ =>
    have q0 : [c0] = [str u0] := e0
    have q1 : [c1] = [.int .i64 u1] := e1
    simp only [List.cons.injEq, and_true] at q0 q1
    rw [q0, q1]; rfl, by kernel_rfl⟩
instance troMarks : Tro Tryd.prog 46 (Sl LMark) := troSl Tryd.underlying46 (by kernel_rfl)
end Go.Proofs.YtieeoakdkbackaaDoor

/- Layer 14: TreeUnlike. -/
namespace Go.Proofs.YtieeoakdkbackaaDoor
open Go Go.Wk
set_option synthInstance.maxSize 100000
set_option synthInstance.maxHeartbeats 400000
set_option maxRecDepth 100000

theorem shortL_len (l : List LMark) : (shortL l).length ≤ 17 := by simp [shortL]; omega
end Go.Proofs.YtieeoakdkbackaaDoor

/- Layer 14: small. -/
namespace Go.Proofs.YtieeoakdkbackaaDoor
open Go Go.Wk
set_option synthInstance.maxSize 100000
set_option synthInstance.maxHeartbeats 400000
set_option maxRecDepth 100000

theorem own_cap14 {w : World} {e : TypeId} {sz : Nat} {p : Option Addr} {n c : Nat} {xs : List Value} (h : w.ownsRow 0 e sz (.slice p n c) n xs) : c ≤ maxLen := by
  rcases h.2 with ⟨hv, h0⟩ | ⟨g, cap, cur, hv, hb, hg, hnc, hcm, hcs, ht⟩
  · cases hv; exact Nat.zero_le _
  · cases hv; exact hcm
theorem take_map14 (ks : List LTerm) (k : Nat) (h : k < ks.length) : (ks.take (k + 1)).map LTerm.t = (ks.take k).map LTerm.t ++ [(nthL ks k).t] := by
  rw [List.take_add_one, nth_get h, List.map_append]; rfl
def small14 : Nat → Term → Term
  | 0, .mk k u n s _ => .mk k u n (s.take 65) []
  | d + 1, .mk k u n s ks => .mk k u n (s.take 65) ((ks.take 3).map (small14 d))
def small14K (d : Nat) (ks : List Term) : List Term := match d with | 0 => [] | d + 1 => (ks.take 3).map (small14 d)
theorem small14_eq (d : Nat) (t : LTerm) : small14 d t.t = .mk t.kind t.user t.num (t.text.take 65) (small14K d (t.kids.map LTerm.t)) := by
  rw [t.t_eq]; cases d <;> rfl
theorem small14K_len (d : Nat) (ks : List Term) : (small14K d ks).length ≤ 3 := by
  cases d
  · simp [small14K]
  · simp only [small14K, List.length_map, List.length_take]; omega
theorem small14K_more {d : Nat} {ks : List LTerm} {k : Nat} (h : k < ks.length) (hk : k < 3) : small14K (d + 1) ((ks.take (k + 1)).map LTerm.t) = small14K (d + 1) ((ks.take k).map LTerm.t) ++ [small14 d (nthL ks k).t] := by
  simp only [small14K]
  have e1 : ((ks.take (k + 1)).map LTerm.t).take 3 = (ks.take (k + 1)).map LTerm.t := List.take_of_length_le (by simp; omega)
  have e2 : ((ks.take k).map LTerm.t).take 3 = (ks.take k).map LTerm.t := List.take_of_length_le (by simp; omega)
  rw [e1, e2, take_map14 ks k h, List.map_append]; rfl
theorem small14K_same {d : Nat} {ks : List LTerm} {k : Nat} (h : k < ks.length) (hk : ¬ (k < 3 ∧ 0 < d)) : small14K d ((ks.take (k + 1)).map LTerm.t) = small14K d ((ks.take k).map LTerm.t) := by
  cases d with
  | zero => rfl
  | succ d =>
    simp only [small14K]
    rw [take_map14 ks k h, List.take_append_of_le_length (by simp; omega)]
end Go.Proofs.YtieeoakdkbackaaDoor

/- Layer 14: TreeBack. -/
namespace Go.Proofs.YtieeoakdkbackaaDoor
open Go Go.Wk
set_option synthInstance.maxSize 100000
set_option synthInstance.maxHeartbeats 400000
set_option maxRecDepth 100000

end Go.Proofs.YtieeoakdkbackaaDoor

/- Layer 14: TreeSound. -/
namespace Go.Proofs.YtieeoakdkbackaaDoor
open Go Go.Wk
set_option synthInstance.maxSize 100000
set_option synthInstance.maxHeartbeats 400000
set_option maxRecDepth 100000

theorem key_inj {l : List LMark} (h : okM l = true) {i k : Nat} (hi : i < l.length) (hk : k < l.length) (e : (nthG l i).key = (nthG l k).key) : i = k := by
  obtain ⟨-, -, -, hp⟩ := okV l h
  rw [List.pairwise_iff_getElem] at hp
  have hget : ∀ j (hj : j < (l.map LMark.key).length), (l.map LMark.key)[j] = (nthG l j).key := fun j hj => by
    have hj' : j < l.length := by simpa using hj
    have := nthG_get hj'
    rw [List.getElem?_eq_getElem hj'] at this
    rw [List.getElem_map, Option.some.inj this]
  rcases Nat.lt_trichotomy i k with h1 | h1 | h1
  · have := hp i k (by simpa using hi) (by simpa using hk) h1
    rw [hget, hget, e, bl_irrefl] at this; cases this
  · exact h1
  · have := hp k i (by simpa using hk) (by simpa using hi) h1
    rw [hget, hget, e, bl_irrefl] at this; cases this
theorem shortM_eq (m : LMark) : (m.key.take (min m.key.length 65)).drop 0 = (shortM m).key := by
  rw [List.drop_zero, shortM]; rw [Nat.min_def]; split <;> simp_all [List.take_of_length_le]
end Go.Proofs.YtieeoakdkbackaaDoor

namespace Go.Wk
open Go

/-! panics: what they leave by, and who takes it -/
/-- what a call says that returns or panics; nothing but the blocks of M has changed. -/
def RetP (P : Program) (f : Nat) (args : List Value) (w : World) (M : Nat → Prop) (R : Value → World → Prop) (X : List PanicEntry → World → Prop) : Prop :=
  Calls P f args.toArray w fun e w' => (∃ v, e = .returned v ∧ Agree M w w' ∧ R v w') ∨ ∃ ch, e = .panicked ch ∧ Agree M w w' ∧ X ch w'
theorem Ret.toP {P : Program} {f : Nat} {args : List Value} {w : World} {M : Nat → Prop} {R : Value → World → Prop} {X : List PanicEntry → World → Prop} (h : Ret P f args w M R) : RetP P f args w M R X :=
  Calls.mono h fun _ _ ⟨v, e, ha, hv⟩ => .inl ⟨v, e, ha, hv⟩
theorem RetP.mono {P : Program} {f : Nat} {args : List Value} {w : World} {M : Nat → Prop} {R R' : Value → World → Prop} {X X' : List PanicEntry → World → Prop} (h : RetP P f args w M R X) (hr : ∀ v w', R v w' → R' v w') (hx : ∀ c w', X c w' → X' c w') : RetP P f args w M R' X' :=
  Calls.mono h fun _ _ h => h.imp (fun ⟨v, e, ha, hv⟩ => ⟨v, e, ha, hr _ _ hv⟩) fun ⟨c, e, ha, hc⟩ => ⟨c, e, ha, hx _ _ hc⟩
/-- it does not panic. -/
theorem RetP.ret {P : Program} {f : Nat} {args : List Value} {w : World} {M : Nat → Prop} {R : Value → World → Prop} {X : List PanicEntry → World → Prop} (h : RetP P f args w M R X) (hx : ∀ c w', ¬ X c w') : Ret P f args w M R :=
  Calls.mono h fun _ _ h => h.elim id fun ⟨c, _, _, hc⟩ => absurd hc (hx _ _)
/-- one panic, of this value. -/
def pch (v : Value) : List PanicEntry := [{ v := v, recovered := false }]

section
variable {P : Program} {r : Option Nat} {ops : Array Oper} {Q : Exit → Act → World → Prop} {w0 : World} {M0 : Nat → Prop} {ds : List Deferred} {a : Act} {w : World} {l l' : List Value} {bs bs' : List Item} {fs : List (World → Prop)}
  {d : Option Nat} {op : Op} {ty : TypeId} {pos : String} {af : Array Edge} {rest : List Oper} {v v' G : Value} {f : Nat} {x : Operand} {xs : List Operand} {args : List Value} {ts : Array TypeId} {j g : Nat} {pol : Bool} {cs : List Bool}

theorem cv_anyP [EntF P f] [CallTo ⟨[], l⟩ x xs f args] (S : St w0 M0 ds a w l bs fs) {R : Ending → World → Prop} (hc : Calls P f args.toArray w R)
    (K : ∀ e w', R e w' → (∃ v, e = .returned v ∧ WL P r ops Q rest (a.put d v) w') ∨ ∃ ch, e = .panicked ch ∧ Q (.panic ch) a w') :
    WL P r ops Q (⟨d, .call { callee := .value x, args := xs.toArray, argTypes := ts }, ty, pos, af, none⟩ :: rest) a w := by
  refine wl_plain rfl ?_
  rw [semAt_nd rfl]
  simp only [run_callto (f := f) (args := args) S.fr, Oper.uponIn]
  refine ⟨fun h => (by cases h), trivial, fun cs _ => ?_⟩
  obtain ⟨e, w', fr, hR, hcm, h1, h2⟩ := hc cs
  rcases K e w' hR with ⟨v, rfl, hk⟩ | ⟨ch, rfl, hk⟩
  · exact ⟨.returned v, w', fr, hk, (comesIn_wide (m := lone (Frame.enter P f args.toArray .normal) cs w) (e := .returned v)).2 hcm, h1, h2⟩
  · exact ⟨.panicked ch, w', fr, hk, (comesIn_wide (m := lone (Frame.enter P f args.toArray .normal) cs w) (e := .panicked ch)).2 hcm, h1, h2⟩
/-- a call that may panic: nothing that lay there has changed. -/
theorem srP {l' : Value → List Value} [EntF P f] [CallTo ⟨[], l⟩ x xs f args] [hp : ∀ v, PutO l d v (l' v)] (S : St w0 M0 ds a w l bs fs) {R : Value → World → Prop} {X : List PanicEntry → World → Prop} (hc : RetP P f args w (fun _ => False) R X)
    (Kp : ∀ ch w', X ch w' → St w0 M0 ds a w' l bs fs → Q (.panic ch) a w')
    (K : ∀ v a w', R v w' → St w0 M0 ds a w' (l' v) bs fs → WL P r ops Q rest a w') :
    WL P r ops Q (⟨d, .call { callee := .value x, args := xs.toArray, argTypes := ts }, ty, pos, af, none⟩ :: rest) a w := by
  refine cv_anyP S hc ?_
  rintro e w' (⟨v, rfl, ha, hR⟩ | ⟨ch, rfl, ha, hX⟩)
  · have := hp v
    have S' := S.put (d := d) (v := v)
    exact .inl ⟨v, rfl, K v _ w' hR ⟨S'.slots, S'.defers, S'.wd.step ha⟩⟩
  · exact .inr ⟨ch, rfl, Kp ch w' hX ⟨S.slots, S.defers, S.wd.step ha⟩⟩
/-- a panic. -/
theorem sPan {tp : TypeId} [hx : Ev ⟨[], l⟩ x (.iface tp v)] (S : St w0 M0 ds a w l bs fs) (h : St w0 M0 ds a w l bs fs → Q (.panic (pch (.iface tp v))) a w) : WL P r ops Q (⟨d, .panic x, ty, pos, af, none⟩ :: rest) a w := by
  refine wl_plain rfl ?_
  rw [semAt_nd rfl]
  have hf : a.eval x = .iface tp v := S.fr.ev
  have : (xop a.eval (.panic x) ty).run P w = .halt (.panic (.iface tp v)) w := by
    simp [xop, execOp, hf, Instr.panic, goPanic, Sem.run_bind, Sem.run]
  rw [this]
  exact h S

/-! how functions end that may panic -/
variable {fn : Func} {R : Value → World → Prop} {X : List PanicEntry → World → Prop} {e : Exit}
theorem endP (h : bodyPost P fn (fun e w' => ∃ v, e = .returned v ∧ Agree M0 w0 w' ∧ R v w') e a w) :
    bodyPost P fn (fun e w' => (∃ v, e = .returned v ∧ Agree M0 w0 w' ∧ R v w') ∨ ∃ ch, e = .panicked ch ∧ Agree M0 w0 w' ∧ X ch w') e a w := by
  cases e <;> simp only [bodyPost] at h ⊢ <;> first | exact h | skip
  · exact ⟨h.1, h.2.choose, h.2.choose_spec.1, .inl h.2.choose_spec.2⟩
  · exact ⟨h.1, h.2.choose, h.2.choose_spec.1, .inl h.2.choose_spec.2⟩
  · exact ⟨h.1, .inl h.2⟩
  · exact .inl h
theorem endX {ch : List PanicEntry} (S : St w0 M0 [] a w l bs fs) (h : X ch w) :
    bodyPost P fn (fun e w' => (∃ v, e = .returned v ∧ Agree M0 w0 w' ∧ R v w') ∨ ∃ ch, e = .panicked ch ∧ Agree M0 w0 w' ∧ X ch w') (.panic ch) a w :=
  ⟨S.defers, .inr ⟨ch, rfl, S.wd.agree, h⟩⟩

/-! a function that defers one call -/
theorem enterD {f : Nat} {fn : Func} {c : Code} {args : List Value} {l : List Value} {R : Ending → World → Prop} {M0 : Nat → Prop} {bs : List Item} {fs : List (World → Prop)}
    (hf : P.funcs[f]? = some fn) (hb : fn.body = some c) (hl : args ++ List.replicate (fn.ntmps - args.length) undef = l) (hw : Wd w M0 w bs fs)
    (h : ∀ a, St w M0 [] a w l bs fs → Wp P none c (bodyPostDIn (FW none) 0 P fn R) a w) : Calls P f args.toArray w R := by
  refine (callsIn_wide (n := 0)).1 (callsIn_of_wp_defers (F := FW none) (n := 0) hf hb trivial (h _ ⟨?_, rfl, hw⟩))
  simp [← hl]
theorem sdef {fi ca : List Value} {l' : List Value} [hx : Ev ⟨[], l⟩ x (.func (.func f) ⟨fi⟩ ⟨ca⟩)] [hp : PutO l d undef l'] (S : St w0 M0 ds a w l bs fs)
    (K : ∀ a, St w0 M0 ({ target := .fn (.func f) ⟨ca⟩, args := ⟨fi⟩ } :: ds) a w l' bs fs → WL P none ops Q rest a w) :
    WL P none ops Q (⟨d, .defer { callee := .value x, args := #[], argTypes := ts }, ty, pos, af, none⟩ :: rest) a w := by
  refine wl_plain rfl ?_
  have hf : a.eval x = .func (.func f) ⟨fi⟩ ⟨ca⟩ := S.fr.ev
  rw [Oper.semAt_none]
  have : (execOp a.eval ⟨d, .defer { callee := .value x, args := #[], argTypes := ts }, ty, pos, af, none⟩).run P w = .ok (.defer { target := .fn (.func f) ⟨ca⟩, args := ⟨fi⟩ }) w := by
    simp [execOp, resolve, hf, Deferred.ofValue]
  rw [this]
  obtain ⟨t, dd⟩ := a
  have := S.slots; simp at this; subst this
  have hd := S.defers; simp at hd; subst hd
  show WL P none ops Q rest _ w
  rw [hp.eq]
  exact K _ ⟨rfl, rfl, S.wd⟩
/-- its end, by whatever way: the deferred call is run. -/
theorem leaveRet {g : Nat} {ca : List Value} {K : World → Prop} {Rr : Ending → World → Prop} [he : EntF P g] (hd : a.defers = [{ target := .fn (.func g) ⟨ca⟩, args := #[] }])
    (hc : CallsDIn (FW none) 0 P g ca.toArray .returning w fun e u' w' => (∃ v, e = .returned v) ∧ u' = .returning ∧ K w')
    (hk : ∀ w', K w' → ∃ v, (results fn a.tmps).run P w' = .ok v w' ∧ Rr (.returned v) w') (hx : e = .ret ∨ e = .normal := by simp) : bodyPostDIn (FW none) 0 P fn Rr e a w := by
  have key : LeavesIn (FW none) 0 P fn a.tmps Rr a.defers .returning w := by
    rw [hd]
    refine leavesIn_cons (f := g) (args := ca.toArray) (by simp) (fun h => by cases h) ?_ (fun _ _ => trivial) (hc.mono ?_)
    · have := he.run ca.toArray w
      simpa [invoke] using this
    · rintro e u' w' ⟨⟨v, rfl⟩, rfl, hK⟩
      obtain ⟨v, h1, h2⟩ := hk w' hK
      exact ⟨v, h1, h2⟩
  rcases hx with rfl | rfl <;> exact key
theorem leavePan {g : Nat} {ca : List Value} {pv : Value} {K : World → Prop} {Rr : Ending → World → Prop} [he : EntF P g] (hd : a.defers = [{ target := .fn (.func g) ⟨ca⟩, args := #[] }])
    (hc : CallsDIn (FW none) 0 P g ca.toArray (.panicking (pch pv)) w fun e u' w' => (∃ v, e = .returned v) ∧ u' = .panicking [{ v := pv, recovered := true }] ∧ K w')
    (hk : ∀ w', K w' → ∃ v, (results fn a.tmps).run P w' = .ok v w' ∧ Rr (.returned v) w') : bodyPostDIn (FW none) 0 P fn Rr (.panic (pch pv)) a w := by
  show LeavesIn (FW none) 0 P fn a.tmps Rr a.defers (.panicking (pch pv)) w
  rw [hd]
  refine leavesIn_cons (f := g) (args := ca.toArray) (by simp) (fun h => by cases h) ?_ (fun _ _ => trivial) (hc.mono ?_)
  · have := he.run ca.toArray w
    simpa [invoke] using this
  · rintro e u' w' ⟨⟨v, rfl⟩, rfl, hK⟩
    obtain ⟨v, h1, h2⟩ := hk w' hK
    exact ⟨v, h1, h2⟩
/-- a deferred function that begins with recover. -/
theorem callsD_catch {f : Nat} {fn : Func} {rest : Code} {id t6 t3 : Nat} {ty0 ty1 : TypeId} {pos0 pos1 : String} {af0 af1 : Array Edge} {args l : List Value} {l1 l2 : Value → List Value} {u : FrameMode} {w0 : World} {M0 : Nat → Prop} {bs : List Item} {fs : List (World → Prop)} {Rr : Ending → FrameMode → World → Prop}
    (hf : P.funcs[f]? = some fn) (hb : fn.body = some (.seq (.region id #[⟨some t6, .call { callee := .builtin .recover, args := #[], argTypes := #[] }, ty0, pos0, af0, none⟩, ⟨some t3, .assign (.tmp t6), ty1, pos1, af1, none⟩] false) rest))
    (hl : args ++ List.replicate (fn.ntmps - args.length) undef = l) (hw : Wd w0 M0 w bs fs) [hp1 : ∀ x, PutAt l t6 x (l1 x)] [hn1 : ∀ x, Nth (l1 x) t6 x] [hp2 : ∀ x, PutAt (l1 x) t3 x (l2 x)]
    (hu : u = .returning ∨ ∃ pv, u = .panicking (pch pv))
    (h : ∀ (x : Value) (u' : FrameMode), (u = .returning ∧ x = .nilIface ∧ u' = u ∨ ∃ pv, u = .panicking (pch pv) ∧ x = pv ∧ u' = .panicking [{ v := pv, recovered := true }]) →
      ∀ a, St w0 M0 [] a w (l2 x) bs fs → Wp P none rest (fun e a' w' => (e = .normal ∨ e = .ret) ∧ a'.defers = [] ∧ ∃ v, (results fn a'.tmps).run P w' = .ok v w' ∧ Rr (.returned v) u' w') a w) :
    CallsDIn (FW none) 0 P f args.toArray u w Rr := by
  have main : ∀ (c₀ : Frame) (cs : List Frame) (x : Value) (u' : FrameMode), c₀.mode = u →
      (u = .returning ∧ x = .nilIface ∧ u' = u ∨ ∃ pv, u = .panicking (pch pv) ∧ x = pv ∧ u' = .panicking [{ v := pv, recovered := true }]) →
      rest.wpSIn (FW none) 0 P (bodyPostS P fn c₀ cs Rr) ⟨(l2 x).toArray, []⟩ ({ c₀ with mode := u' } :: cs) w := by
    intro c₀ cs x u' _ hx
    refine wpSIn_of_wpIn rfl (wpIn_mono (h x u' hx ⟨(l2 x).toArray, []⟩ ⟨rfl, rfl, hw⟩) fun e a' w' hq => ?_)
    obtain ⟨he, hd, v, h1, h2⟩ := hq
    rcases he with rfl | rfl <;> exact ⟨hd, u', rfl, v, h1, h2⟩
  refine callsDIn_of_wpSIn hf hb trivial fun c₀ cs hc₀ => wpSIn_seq (wpSIn_region ?_)
  have hl' : args.toArray ++ Array.replicate (fn.ntmps - args.toArray.size) undef = l.toArray := by rw [← hl]; simp
  rw [hl']
  have step : ∀ x, ((⟨l.toArray, []⟩ : Act).put (some t6) x).put (some t3) (((⟨l.toArray, []⟩ : Act).put (some t6) x).eval (.tmp t6)) = ⟨(l2 x).toArray, []⟩ := fun x => by
    have e1 : (⟨l.toArray, []⟩ : Act).put (some t6) x = ⟨(l1 x).toArray, []⟩ := (puto1 (l := l) (l' := l1 x) (v := x) (n := t6)).eq []
    have e2 : (⟨(l1 x).toArray, []⟩ : Act).eval (.tmp t6) = x := by
      have := (hn1 x).eq
      simp [Act.eval, Array.getD_eq_getD_getElem?, this]
    rw [e1, e2]
    exact (puto1 (l := l1 x) (l' := l2 x) (v := x) (n := t3)).eq []
  have hr0 : ∀ (a : Act), (execOp a.eval ⟨some t6, .call { callee := .builtin .recover, args := #[], argTypes := #[] }, ty0, pos0, af0, none⟩).run P w = .ok .recover w := fun a => by
    simp [execOp, resolve, invoke, builtin]
  have hr1 : ∀ (a : Act), (execOp a.eval ⟨some t3, .assign (.tmp t6), ty1, pos1, af1, none⟩).run P w = .ok (.value (a.eval (.tmp t6))) w := fun a => by
    simp [execOp]
  have hcs : ({ c₀ with mode := u } : Frame) = c₀ := by subst hc₀; rfl
  rw [show List.range (#[(⟨some t6, .call { callee := .builtin .recover, args := #[], argTypes := #[] }, ty0, pos0, af0, none⟩ : Oper), ⟨some t3, .assign (.tmp t6), ty1, pos1, af1, none⟩] : Array Oper).size = [0, 1] from rfl]
  simp only [wpOpsSIn, List.getElem?_toArray, List.getElem?_cons_zero, List.getElem?_cons_succ, hr0, hr1]
  refine ⟨fun _ _ => trivial, ?_⟩
  rw [if_pos (by rfl)]
  rcases hu with rfl | ⟨pv, rfl⟩
  · have : recoverD (c₀ :: cs) = none := by simp [recoverD, hc₀]
    rw [this]
    refine ⟨fun _ _ => trivial, ?_⟩
    rw [if_pos (by rfl)]
    have hm := main c₀ cs .nilIface .returning hc₀ (.inl ⟨rfl, rfl, rfl⟩)
    rw [hcs] at hm
    rw [← step] at hm
    exact hm
  · have : recoverD (c₀ :: cs) = some (pv, { c₀ with mode := .panicking [{ v := pv, recovered := true }] } :: cs) := by simp [recoverD, hc₀, pch]
    rw [this]
    refine ⟨fun _ _ => trivial, ?_⟩
    rw [if_pos (by rfl)]
    have hm := main c₀ cs pv _ hc₀ (.inr ⟨pv, rfl, rfl, rfl⟩)
    rw [← step] at hm
    exact hm
end

/-- such a function's result. -/
theorem resC {P : Program} {fn : Func} {w0 : World} {M0 : Nat → Prop} {a : Act} {w : World} {l : List Value} {bs : List Item} {fs : List (World → Prop)} [hr : FnRes fn []] (S : St w0 M0 [] a w l bs fs) : (results fn a.tmps).run P w = .ok (.tuple #[]) w := by
  rw [S.slots, results_eq (rs := [])]; simp
theorem res3 {P : Program} {fn : Func} {t : Array Value} {w : World} {l : List Value} {bs : List Item} {r1 r2 r3 : ResultVar} {v1 v2 v3 : Value} [hr : FnRes fn [r1, r2, r3]] (hs : t = l.toArray) [h1 : ResV P l bs r1 v1] [h2 : ResV P l bs r2 v2] [h3 : ResV P l bs r3 v3] (hh : ∀ it ∈ bs, it.holds w) : (results fn t).run P w = .ok (.tuple ⟨[v1, v2, v3]⟩) w := by
  rw [hs, results_eq (rs := [r1, r2, r3])]
  simp [run_res (P := P) (l := l) (bs := bs) (rv := r1) (v := v1) w hh, run_res (P := P) (l := l) (bs := bs) (rv := r2) (v := v2) w hh, run_res (P := P) (l := l) (bs := bs) (rv := r3) (v := v3) w hh]

/-! regions that draw their order, and may panic on the way -/
structure XP where
  keep : List (Nat × Value)
  dss : List Deferred
  XW : List PanicEntry → World → Prop
def XP.at (x : XP) : Exit → Act → World → Prop
  | .panic ch, a, w => (∀ p ∈ x.keep, a.tmps[p.1]? = some p.2) ∧ a.defers = x.dss ∧ x.XW ch w
  | _, _, _ => False
/-- what is kept is not written. -/
def XP.off (x : XP) (o : Oper) : Prop := ∀ p ∈ x.keep, o.dst ≠ some p.1
theorem XP.put {x : XP} {o : Oper} (h : x.off o) {ch : List PanicEntry} {a : Act} {v : Value} {w : World} (hp : x.at (.panic ch) (a.put o.dst v) w) : x.at (.panic ch) a w := by
  obtain ⟨h1, h2, h3⟩ := hp
  refine ⟨fun p hpk => ?_, ?_, h3⟩
  · have h1 := h1 p hpk
    have h0 := h p hpk
    cases hd : o.dst with
    | none => rw [hd] at h1; exact h1
    | some n =>
      rw [hd] at h1
      have hne : n ≠ p.1 := fun e => h0 (by rw [hd, e])
      simpa [Act.put, Array.getElem?_setIfInBounds, hne] using h1
  · cases hd : o.dst <;> rw [hd] at h2 <;> exact h2
section
variable {P : Program} {ops : Array Oper} {C : World → Prop} {X : XP}
abbrev WNX (P : Program) (ops : Array Oper) (X : XP) (i : Nat) (K : Act → World → Prop) (a : Act) (w : World) : Prop := wpOpIn (FW none) 0 P ops X.at i K a w
theorem YieldsC.wnx {i : Nat} {o : Oper} {v : Value} {a : Act} (hi : ops[i]? = some o) (hy : YieldsC P ops C o v a)
    {K : Act → World → Prop} {w : World} (hC : C w) (h : K (a.put o.dst v) w) : WNX P ops X i K a w := by
  unfold WNX wpOpIn
  simp only [hi]
  rcases hy with ⟨hw, hv⟩ | ⟨hw, rfl⟩
  · simp only [hw, if_true, Oper.wpIn, Oper.semAt_none, hv w hC, Oper.uponIn]; exact ⟨fun _ _ => trivial, h⟩
  · simp only [hw, Bool.false_eq_true, if_false]; exact ⟨fun _ _ => trivial, h⟩
theorem wnx_put {j : Nat} {oi oj : Oper} {v : Value} (hj : ops[j]? = some oj) (hap : oi.apart ops oj = true) (hoff : X.off oi)
    (hsi : ∀ cs b, oi.op ≠ .select cs b) (hsj : ∀ cs b, oj.op ≠ .select cs b) {K : Act → World → Prop} {a : Act} {w : World}
    (hy : YieldsC P ops C oi v a) (h : WNX P ops X j K (a.put oi.dst v) w) :
    WNX P ops X j (fun a' w' => YieldsC P ops C oi v a' ∧ K (a'.put oi.dst v) w') a w := by
  obtain ⟨h1, h2, h3⟩ := Oper.apart_spec hap
  have keep : ∀ (a : Act), YieldsC P ops C oi v a → ∀ u, YieldsC P ops C oi v (a.put oj.dst u) := fun a hy u =>
    hy.of_same (execOp_put oi hsi a oj.dst u h3) (wanted_put oi a oj.dst u h3)
  have keepD : ∀ d, YieldsC P ops C oi v { a with defers := d :: a.defers } := fun d => hy.of_same rfl rfl
  have lets : LetsOut X.at → LetsOut X.at := id
  unfold WNX wpOpIn at *
  simp only [hj] at *
  rw [wanted_put oj a oi.dst v h1] at h
  split
  · rename_i hw
    simp only [hw, if_true] at h
    unfold Oper.wpIn at *
    refine ⟨fun _ _ => trivial, ?_⟩
    have h := h.2
    rw [Oper.semAt_none, execOp_put oj hsj a oi.dst v h1] at h
    rw [Oper.semAt_none]
    generalize (execOp a.eval oj).run P w = r at *
    cases r with
    | ok x w' =>
      cases x <;> simp only [Oper.uponIn] at h ⊢
      case value u => exact ⟨keep a hy u, by rw [← Act.put_comm a v u h2]; exact h⟩
      case skip => exact ⟨keep a hy _, by rw [← Act.put_comm a v undef h2]; exact h⟩
      case defer d =>
        refine ⟨keep _ (keepD d) _, ?_⟩
        rw [← Act.put_comm _ v undef h2, ← Act.put_defers]
        exact h
      case enter f args =>
        refine ⟨h.1, CallsIn.mono h.2 fun e w'' he => ?_⟩
        cases e with
        | returned u => exact ⟨keep a hy u, by rw [← Act.put_comm a v u h2]; exact he⟩
        | panicked c => exact XP.put hoff he
        | outgrown => exact he
      case row row args => exact ⟨h.1, RowsIn.mono h.2 fun u w'' he => ⟨keep a hy u, by rw [← Act.put_comm a v u h2]; exact he⟩⟩
      case round l f tmps assign body =>
        refine ⟨h.1, RoundIn.mono h.2 fun e w'' he => ?_⟩
        cases e with
        | returned u => exact ⟨keep a hy u, by rw [← Act.put_comm a v u h2]; exact he⟩
        | panicked c => exact XP.put hoff he
        | outgrown => exact he
    | halt x w' =>
      cases x <;> simp only [Oper.uponIn] at h ⊢
      case panic u => exact XP.put hoff h
  · rename_i hw
    simp only [hw] at h
    exact ⟨fun _ _ => trivial, keep a hy _, by rw [← Act.put_comm a v undef h2]; exact h.2⟩
def ACX (P : Program) (ops : Array Oper) (X : XP) (C : World → Prop) (R : Act → World → Prop) : Nat → Array Bool → Act → World → Prop
  | 0, listed, a, w => Region.ready .any ops listed = [] ∧ R a w
  | fuel + 1, listed, a, w =>
    (Region.ready .any ops listed = [] → R a w) ∧
    ∀ i ∈ Region.ready .any ops listed, WNX P ops X i (fun a' w' => C w' ∧ ACX P ops X C R fuel (listed.setIfInBounds i true) a' w') a w
variable {R : Act → World → Prop}
theorem acx_first {i : Nat} {oi : Oper} {v : Value} (hi : ops[i]? = some oi) (hoff : X.off oi) (hsel : ∀ (j : Nat) (o : Oper) cs b, ops[j]? = some o → o.op ≠ .select cs b) :
    ∀ (fuel : Nat) (listed : Array Bool) (a : Act) (w : World),
      (∀ j oj, ops[j]? = some oj → j ≠ i → listed.getD j true = false → (∀ e ∈ oj.after, Region.binds .any e = true → e.on ≠ i) → oi.apart ops oj = true) →
      i ∈ Region.ready .any ops listed → YieldsC P ops C oi v a → C w →
      ACX P ops X C R fuel (listed.setIfInBounds i true) (a.put oi.dst v) w → ACX P ops X C R (fuel + 1) listed a w := by
  intro fuel
  induction fuel with
  | zero =>
    intro listed a w _ hr hy hS H
    refine ⟨fun h => (by rw [h] at hr; cases hr), fun j hj => ?_⟩
    by_cases hji : j = i
    · subst hji; exact hy.wnx hi hS ⟨hS, H⟩
    · have := ready_mono hj hji
      rw [H.1] at this
      cases this
  | succ fuel ih =>
    intro listed a w hfree hr hy hS H
    refine ⟨fun h => (by rw [h] at hr; cases hr), fun j hj => ?_⟩
    by_cases hji : j = i
    · subst hji; exact hy.wnx hi hS ⟨hS, H⟩
    · have h1 := H.2 j (ready_mono hj hji)
      obtain ⟨hjun, oj, hoj, hall⟩ := mem_ready.1 hj
      have hnot : ∀ e ∈ oj.after, Region.binds .any e = true → e.on ≠ i := fun e he hb heq => by
        have h1 := hall e he hb
        have h0 := (mem_ready.1 hr).1
        rw [heq] at h1
        rcases Nat.lt_or_ge i listed.size with h' | h'
        · simp [h'] at h0 h1; rw [h0] at h1; cases h1
        · simp [Array.getElem?_eq_none h'] at h1
      have h2 := wnx_put hoj (hfree j oj hoj hji hjun hnot) hoff (fun cs b => hsel i oi cs b hi) (fun cs b => hsel j oj cs b hoj) hy h1
      have hfree' : ∀ k ok, ops[k]? = some ok → k ≠ i → (listed.setIfInBounds j true).getD k true = false →
          (∀ e ∈ ok.after, Region.binds .any e = true → e.on ≠ i) → oi.apart ops ok = true := fun k ok hk hki hun hno => by
        refine hfree k ok hk hki ?_ hno
        by_cases hjk : j = k
        · subst hjk; exact hjun
        · rw [getD_set_ne true hjk] at hun; exact hun
      refine wpOpIn_mono (fun a' w' h3 => ⟨h3.2.1, ih (listed.setIfInBounds j true) a' w' hfree' (ready_mono hr (Ne.symm hji)) h3.1 h3.2.1 ?_⟩) h2
      rw [Array.setIfInBounds_comm _ _ hji]
      exact h3.2.2
variable {r : Option Nat} {Q : Exit → Act → World → Prop} {w0 : World} {M0 : Nat → Prop} {ds : List Deferred} {a : Act} {w : World} {l l' : List Value} {bs bs' bs0 : List Item} {fs fs0 : List (World → Prop)}
  {d : Option Nat} {op : Op} {ty : TypeId} {pos : String} {af : Array Edge} {rest : List Oper} {v v' G : Value} {j g : Nat} {pol : Bool} {cs : List Bool} {n : Nat} {listed : Array Bool}
def XP.offB (x : XP) (ops : Array Oper) : Bool := ops.toList.all fun o => x.keep.all fun p => match o.dst with | some n => !Nat.beq n p.1 | none => true
theorem XP.offB_spec {x : XP} {ops : Array Oper} (h : x.offB ops = true) {i : Nat} {o : Oper} (hi : ops[i]? = some o) : x.off o := by
  intro p hp e
  have h1 := List.all_eq_true.1 (List.all_eq_true.1 h o (by rw [← Array.getElem?_toList] at hi; exact List.mem_of_getElem? hi)) p hp
  rw [e] at h1
  simp at h1
/-- the region in one order that stands for all. -/
def AQX (P : Program) (ops : Array Oper) (X : XP) (C : World → Prop) (R : Act → World → Prop) (ord : List (Nat × Bool)) (a : Act) (w : World) : Prop :=
  ∀ listed, Region.noSelect ops = true → X.offB ops = true → flowFrom ops ord listed = true → ACX P ops X C R ord.length listed a w
variable {ord : List (Nat × Bool)} {i : Nat}
theorem dqX (S : St w0 M0 ds a w l bs fs) [hb : SubL bs0 bs] [hf : SubL fs0 fs] [ho : OpAt ops i ⟨d, op, ty, pos, af, none⟩] [hq : OpQ P op ty ⟨[], l⟩ bs0 fs0 v] [hp : PutO l d v l']
    (K : ∀ a, St w0 M0 ds a w l' bs fs → AQX P ops X (fun w => Wd w0 M0 w bs0 fs0) R ord a w) :
    AQX P ops X (fun w => Wd w0 M0 w bs0 fs0) R ((i, true) :: ord) a w := by
  intro listed hs hx hflow
  simp only [flowFrom, Bool.and_eq_true] at hflow
  refine acx_first ho.eq (XP.offB_spec hx ho.eq) (Region.noSelect_spec hs) _ listed a w (Region.free_spec ho.eq hflow.1.2) (by simpa using hflow.1.1) (v := v) (.inl ⟨rfl, fun w' hw' => ?_⟩) (S.wd.sub hb.sub hf.sub) (K _ S.put _ hs hx hflow.2)
  rw [execOp_eq]
  exact hq.run a.eval w' S.fr hw'.mem
theorem dqGX (S : St w0 M0 ds a w l bs fs) [hb : SubL bs0 bs] [hf : SubL fs0 fs] [ho : OpAt ops i ⟨d, op, ty, pos, af, some (j, pol)⟩] [hg : GSlot ops j g] [hn : Nth l g G] [hc : Conds G pol cs] [hq : OpQ P op ty ⟨cs, l⟩ bs0 fs0 v] [hv : GifV cs v v'] [hp : PutO l d v' l']
    (K : ∀ a, St w0 M0 ds a w l' bs fs → AQX P ops X (fun w => Wd w0 M0 w bs0 fs0) R ord a w) :
    AQX P ops X (fun w => Wd w0 M0 w bs0 fs0) R ((i, true) :: ord) a w := by
  intro listed hs hx hflow
  simp only [flowFrom, Bool.and_eq_true] at hflow
  have hw := wanted_iff (ops := ops) (d := d) (op := op) (ty := ty) (pos := pos) (af := af) (pol := pol) S hg.eq
  refine acx_first ho.eq (XP.offB_spec hx ho.eq) (Region.noSelect_spec hs) _ listed a w (Region.free_spec ho.eq hflow.1.2) (by simpa using hflow.1.1) (v := v') ?_ (S.wd.sub hb.sub hf.sub) (K _ S.put _ hs hx hflow.2)
  by_cases hall : ∀ c ∈ cs, c = true
  · refine .inl ⟨hw.2 hall, fun w' hw' => ?_⟩
    rw [execOp_eq, hv.eq, if_pos hall]
    exact hq.run a.eval w' (S.frc hall) hw'.mem
  · exact .inr ⟨by
      cases hx : Region.wanted _ (yielded ops a.tmps) with
      | true => exact absurd (hw.1 hx) hall
      | false => rfl, by rw [hv.eq, if_neg hall]⟩
/-- the one operation that may come up; it may panic. -/
theorem dlX {o : Oper} {C : World → Prop} [ho : OpAt ops i o] (h : WL P none ops (fun e a' w' => (e = .normal ∧ C w' ∧ AQX P ops X C R ord a' w') ∨ X.at e a' w') [o] a w) : AQX P ops X C R ((i, false) :: ord) a w := by
  intro listed hs hx hflow
  simp only [flowFrom, Bool.and_eq_true] at hflow
  have hr : Region.ready .any ops listed = [i] := by
    have := hflow.1
    split at this
    · rename_i k hk; rw [hk, Nat.eq_of_beq_eq_true this]
    · cases this
  refine ⟨fun h0 => (by rw [h0] at hr; cases hr), fun k hk => ?_⟩
  rw [hr] at hk
  obtain rfl : k = i := by simpa using hk
  have nor : ∀ {p : Prop} {a' : Act} {w' : World}, ((p ∧ C w' ∧ AQX P ops X C R ord a' w') ∨ X.at .normal a' w') → C w' ∧ ACX P ops X C R ord.length (listed.setIfInBounds k true) a' w' := by
    rintro p a' w' (⟨-, h1, h2⟩ | h)
    · exact ⟨h1, h2 _ hs hx hflow.2⟩
    · exact h.elim
  have pan : ∀ {c : List PanicEntry} {a' : Act} {w' : World}, ((Exit.panic c = Exit.normal ∧ C w' ∧ AQX P ops X C R ord a' w') ∨ X.at (.panic c) a' w') → X.at (.panic c) a' w' := by
    rintro c a' w' (⟨h, -⟩ | h)
    · cases h
    · exact h
  unfold WNX wpOpIn
  simp only [ho.eq]
  simp only [WL, wpListIn] at h
  split
  · rename_i hw
    rw [if_pos hw] at h
    refine ⟨fun _ _ => trivial, ?_⟩
    have h := h.2
    generalize (o.semAt (FW none).round a.eval).run P w = q at *
    cases q with
    | ok x w' =>
      cases x <;> simp only [Oper.uponIn] at h ⊢
      case value u => exact nor h
      case skip => exact nor h
      case defer d => exact nor h
      case enter f args =>
        refine ⟨h.1, CallsIn.mono h.2 fun e w'' he => ?_⟩
        cases e with
        | returned u => simp only [true_and] at he; exact nor (p := True) (by simpa using he)
        | panicked c => exact pan he
        | outgrown => obtain ⟨_, _, he⟩ := he; rcases he with ⟨he, _⟩ | he <;> first | cases he | exact he.elim
      case row row args => exact ⟨h.1, RowsIn.mono h.2 fun u w'' he => nor he⟩
      case round l f tmps assign body =>
        refine ⟨h.1, RoundIn.mono h.2 fun e w'' he => ?_⟩
        cases e with
        | returned u => simp only [true_and] at he; exact nor (p := True) (by simpa using he)
        | panicked c => exact pan he
        | outgrown => obtain ⟨_, _, he⟩ := he; rcases he with ⟨he, _⟩ | he <;> first | cases he | exact he.elim
    | halt x w' =>
      cases x <;> simp only [Oper.uponIn] at h ⊢
      case panic u => exact pan h
  · rename_i hw
    rw [if_neg hw] at h
    exact ⟨fun _ _ => trivial, nor h.2⟩
theorem deX [hb : SubL bs0 bs] [hf : SubL fs0 fs] (S : St w0 M0 ds a w l bs fs) (h : AQX P ops X (fun w => Wd w0 M0 w bs0 fs0) R ord a w) : WL P none ops (fun e a' w' => (e = .normal ∧ Wd w0 M0 w' bs0 fs0 ∧ AQX P ops X (fun w => Wd w0 M0 w bs0 fs0) R ord a' w') ∨ X.at e a' w') [] a w :=
  wl_nil (.inl ⟨rfl, S.wd.sub hb.sub hf.sub, h⟩)
theorem dnX {C : World → Prop} (h : R a w) : AQX P ops X C R [] a w := by
  intro listed hs _ hflow
  have hr : Region.ready .any ops listed = [] := by simpa [flowFrom] using hflow
  exact ⟨hr, h⟩
/-- the panic, as the region's law wants it. -/
theorem XP.of {ch : List PanicEntry} {K : Prop} (S : St w0 M0 ds a w l bs fs) (hk : ∀ p ∈ X.keep, l[p.1]? = some p.2) (hd : ds = X.dss) (h : X.XW ch w) : K ∨ X.at (.panic ch) a w :=
  .inr ⟨fun p hp => by rw [S.slots]; simpa using hk p hp, by rw [S.defers, hd], h⟩
theorem wnx_round {i : Nat} {K : Act → World → Prop} (hQ : ∀ ch a w, X.at (.panic ch) a w → Q (.panic ch) a w) (hd : ∀ (i : Nat) o, ops[i]? = some o → isDefer o.op = false) (h : WNX P ops X i K a w) : wpOpIn (FW r) 0 P ops Q i K a w := by
  unfold WNX wpOpIn at *
  cases ho : ops[i]? with
  | none => simp only [ho] at h ⊢; exact h
  | some o =>
    simp only [ho] at h ⊢
    split
    · rename_i hw
      rw [if_pos hw] at h
      refine ⟨fun _ _ => trivial, ?_⟩
      have h := h.2
      rw [show (FW none).round = none from rfl] at h
      rw [show (FW r).round = r from rfl, semAt_any (hd i o ho)]
      generalize (o.semAt none a.eval).run P w = q at *
      cases q with
      | ok x w' =>
        cases x <;> simp only [Oper.uponIn] at h ⊢ <;> first | exact h | skip
        case enter f args =>
          refine ⟨fun h => (by cases h), trivial, fun cs _ => ?_⟩
          obtain ⟨e, w', fr, hR, hcm, h1, h2⟩ := h.2.2 cs (room_wide _)
          refine ⟨e, w', fr, ?_, hcm, h1, h2⟩
          cases e with
          | returned v => exact hR
          | panicked c => exact hQ _ _ _ hR
          | outgrown => obtain ⟨_, _, hR⟩ := hR; exact hR.elim
        case round l f tmps assign body =>
          refine ⟨fun h => (by cases h), trivial, fun c cs _ => ?_⟩
          obtain ⟨e, w', hR, hcm⟩ := h.2.2 c cs (room_wide _)
          refine ⟨e, w', ?_, hcm⟩
          cases e with
          | returned v => exact hR
          | panicked c => exact hQ _ _ _ hR
          | outgrown => obtain ⟨_, _, hR⟩ := hR; exact hR.elim
      | halt x w' =>
        cases x <;> simp only [Oper.uponIn] at h ⊢
        case panic u => exact hQ _ _ _ h
    · rename_i hw
      rw [if_neg hw] at h
      exact ⟨fun _ _ => trivial, h.2⟩
theorem any_of_acx (hQ : ∀ ch a w, X.at (.panic ch) a w → Q (.panic ch) a w) (hd : ∀ (i : Nat) o, ops[i]? = some o → isDefer o.op = false) : ∀ (fuel : Nat) (listed : Array Bool) (a : Act) (w : World), ACX P ops X C (fun a w => Q .normal a w) fuel listed a w → wpAnyIn (FW r) 0 P .any ops Q fuel listed a w
  | 0, _, _, _, h => h
  | fuel + 1, _, _, _, h => ⟨h.1, fun i hi => wnx_round hQ hd (wpOpIn_mono (fun a' w' h' => any_of_acx hQ hd fuel _ a' w' h'.2) (h.2 i hi))⟩
/-- a region that draws its order, and may panic. -/
theorem c_drawX {id : Nat} {lo : List Oper} (ord : List (Nat × Bool)) (ids : List Nat) [DropBs bs ids bs0] (X : XP) (S : St w0 M0 ds a w l bs fs) (hQ : ∀ ch a w, X.at (.panic ch) a w → Q (.panic ch) a w)
    (h : ∀ w, St w0 M0 ds a w l bs fs → AQX P lo.toArray X (fun w => Wd w0 M0 w bs0 fs) (fun a w => Q .normal a w) ord a w)
    (hm : P.follows .mixedOrders = true := by kernel_rfl) (hx : X.offB lo.toArray = true := by kernel_rfl) (hd : ((lo.all fun o => !isDefer o.op) && (Nat.beq ord.length lo.length && (Region.noSelect lo.toArray && flowFrom lo.toArray ord (Array.replicate lo.length false)))) = true := by kernel_rfl) : Wp P r (.region id lo.toArray true) Q a w := by
  simp only [Bool.and_eq_true] at hd
  refine wpIn_region_any hm (any_of_acx (C := fun w => Wd w0 M0 w bs0 fs) hQ (fun i o ho => ?_) _ _ _ _ ?_)
  · have := List.all_eq_true.1 hd.1 o (by
      rw [List.getElem?_toArray] at ho
      exact List.mem_of_getElem? ho)
    simpa using this
  · have := h { w with drawn := w.drawn + 1 } ⟨S.slots, S.defers, S.wd.step (Agree.drawn _ w _)⟩ _ hd.2.2.1 hx hd.2.2.2
    rw [Nat.eq_of_beq_eq_true hd.2.1] at this
    simpa using this
end
end Go.Wk

namespace Go.Wk
open Go

/-! going over a string -/
theorem decode_lo (s : ByteArray) (i : Nat) (h : (s.get! i).toNat < 128) : Utf8.decode s i = ((s.get! i).toNat, 1) := by
  unfold Utf8.decode
  simp only [Nat.add_zero]
  rw [if_pos h]
theorem decode_hi (s : ByteArray) (i : Nat) (h : ¬ (s.get! i).toNat < 128) : 128 ≤ (Utf8.decode s i).1 ∧ 1 ≤ (Utf8.decode s i).2 := by
  unfold Utf8.decode
  simp only [Nat.add_zero]
  rw [if_neg h]
  repeat' split
  all_goals (try simp only [Bool.and_eq_true, decide_eq_true_eq, ge_iff_le] at *)
  all_goals (constructor <;> first | omega | (simp only [Utf8.runeError]; omega))
/-- a string, and the going over it: where it stands. -/
def sti (r : Nat) (s : List UInt8) (i : Nat) : Item where
  foot := fun k => k = r
  holds := fun w => w.heap[r]? = some (.stringIter ⟨s.toArray⟩ i)
theorem sti_loc (r : Nat) (s : List UInt8) (i : Nat) (w1 w2 : World) (h : ∀ k, (sti r s i).foot k → w2.heap[k]? = w1.heap[k]?) (h1 : (sti r s i).holds w1) : (sti r s i).holds w2 := (h r rfl).trans h1
class HasSti (bs : List Item) (r : Nat) (s : outParam (List UInt8)) (i : outParam Nat) : Prop where mem : sti r s i ∈ bs
instance hsti0 {r : Nat} {s : List UInt8} {i : Nat} {bs : List Item} : HasSti (sti r s i :: bs) r s i := ⟨List.mem_cons_self ..⟩
instance (priority := 900) hsti1 {r : Nat} {s : List UInt8} {i : Nat} {x : Item} {bs : List Item} [h : HasSti bs r s i] : HasSti (x :: bs) r s i := ⟨List.mem_cons_of_mem _ h.mem⟩
section
variable {P : Program} {r0 : Option Nat} {ops : Array Oper} {Q : Exit → Act → World → Prop} {w0 : World} {M0 : Nat → Prop} {ds : List Deferred} {a : Act} {w : World} {l : List Value} {bs : List Item} {fs : List (World → Prop)}
  {d : Option Nat} {op : Op} {ty : TypeId} {pos : String} {af : Array Edge} {rest : List Oper} {t kt et : TypeId} {x : Operand} {b r i : Nat} {s : List UInt8}
/-- a range over a string is begun. -/
theorem sstr0 {l' : Nat → List Value} (S : St w0 M0 ds a w l bs fs) [Ev ⟨[], l⟩ x (str s)] [ht : Und P t .string] [hp : ∀ r, PutO l d (.pointer (some ⟨r, 0, none⟩)) (l' r)]
    (K : ∀ r a w, St w0 M0 ds a w (l' r) (sti r s 0 :: bs) fs → WL P r0 ops Q rest a w) : WL P r0 ops Q (⟨d, .range t x, ty, pos, af, none⟩ :: rest) a w := by
  refine wl_plain rfl ?_
  rw [semAt_nd rfl]
  have e1 : (xop a.eval (.range t x) ty).run P w = .ok (.value (.pointer (some ⟨w.heap.size, 0, none⟩))) (w.alloc (.stringIter ⟨s.toArray⟩ 0)) := by
    have h2 : (Instr.range t (str s)).run P w = .ok (.pointer (some ⟨w.heap.size, 0, none⟩)) (w.alloc (.stringIter ⟨s.toArray⟩ 0)) := by
      simp [Instr.range, str, Sem.run_bind, run_und, newObj, Sem.run]
    simp [xop, execOp, S.fr.ev (x := x) (v := str s), Sem.run_bind, h2]
  simp only [e1, Oper.uponIn]
  have := hp w.heap.size
  have S' := S.put (d := d) (v := .pointer (some ⟨w.heap.size, 0, none⟩))
  refine K _ _ _ ⟨S'.slots, S'.defers, (S.wd.step (Agree.alloc _ w _)).more (y := sti w.heap.size s 0) (heap_alloc_new w _) (fun k hk => by cases hk; exact S.wd.agree.size) (fun k hk => by cases hk; simp) (fun it hi k hk hk' => by cases hk; exact absurd (S.wd.lt it hi _ hk') (Nat.lt_irrefl _)) ?_ (sti_loc _ _ _)⟩
  intro Φ hΦ w' hw'
  refine S.wd.facts Φ hΦ w' ((Agree.alloc _ w _).trans' hw' fun i hi => ?_)
  rintro ⟨it, hm, hf⟩
  rcases List.mem_cons.1 hm with rfl | hm
  · cases hf; omega
  · exact ⟨it, hm, hf⟩
def nxS (more : Bool) (i c : Nat) : Value := bif more then .tuple ⟨[.bool true, .int .i64 (i : Int), .int .i32 (c : Int)]⟩ else .tuple ⟨[.bool false]⟩
instance (priority := 1100) opExtNxS {l : Cx} {more : Bool} {i c : Nat} [Ev l x (nxS more i c)] : OpQ P (.extract x 0) ty l bs fs (.bool more) := ⟨fun ρ w h _ => by
  cases more <;> simp [xop, execOp, h.ev (x := x) (v := nxS _ i c), nxS, Instr.extract]⟩
instance (priority := 1100) opExtNxS2 {l : Cx} {i c : Nat} [Ev l x (nxS true i c)] : OpQ P (.extract x 2) ty l bs fs (.int .i32 (c : Int)) := ⟨fun ρ w h _ => by
  simp [xop, execOp, h.ev (x := x) (v := nxS true i c), nxS, Instr.extract]⟩
/-- the next rune, or none is left. -/
theorem snxs {l' : Bool → Nat → List Value} {bs' : Nat → List Item} (S : St w0 M0 ds a w l bs fs) [Ev ⟨[], l⟩ x (.pointer (some ⟨r, 0, none⟩))] [hm : HasSti bs r s i] [hrep : ∀ j, ReplI bs (sti r s i) (sti r s j) (bs' j)] [hp : ∀ m c, PutO l d (nxS m i c) (l' m c)]
    (K : ∀ (more : Bool) (c wd : Nat) a w, (more = false → s.length ≤ i) → (more = true → i < s.length ∧ ((s.getD i 0).toNat < 128 → c = (s.getD i 0).toNat ∧ wd = 1) ∧ (¬ (s.getD i 0).toNat < 128 → 128 ≤ c)) → St w0 M0 ds a w (l' more c) (bs' (bif more then i + wd else i)) fs → WL P r0 ops Q rest a w) :
    WL P r0 ops Q (⟨d, .next x true, ty, pos, af, none⟩ :: rest) a w := by
  refine wl_plain rfl ?_
  rw [semAt_nd rfl]
  have hold : w.heap[r]? = some (.stringIter ⟨s.toArray⟩ i) := S.wd.held _ hm.mem
  have hx : a.eval x = .pointer (some ⟨r, 0, none⟩) := S.fr.ev
  have hlt : r < w.heap.size := (Array.getElem?_eq_some_iff.1 hold).1
  have hobj : (getObj r).run P w = .ok (.stringIter ⟨s.toArray⟩ i) w := by simp [getObj, Sem.run, hold]
  have hget : (⟨s.toArray⟩ : ByteArray).get! i = s.getD i 0 := by
    show s.toArray[i]! = _
    simp [List.getD_eq_getElem?_getD]
    rfl
  have hsz : (⟨s.toArray⟩ : ByteArray).size = s.length := by simp [ByteArray.size]
  by_cases hi : i < s.length
  · have e1 : (xop a.eval (.next x true) ty).run P w = .ok (.value (nxS true i (Utf8.decode ⟨s.toArray⟩ i).1)) (w.putObj r (.stringIter ⟨s.toArray⟩ (i + (Utf8.decode ⟨s.toArray⟩ i).2))) := by
      simp only [xop, execOp, hx, Instr.next, Sem.run_bind, hobj, Result.andThen, hsz, hi, if_true]
      simp [setObj, Sem.run, hold, World.putObj, nxS, goInt]
    simp only [e1, Oper.uponIn]
    have := hp true (Utf8.decode ⟨s.toArray⟩ i).1
    have S' := S.put (d := d) (v := nxS true i (Utf8.decode ⟨s.toArray⟩ i).1)
    refine K true _ _ _ _ (fun h => by cases h) (fun _ => ⟨hi, fun h => ?_, fun h => ?_⟩) (S.reput (x := sti r s i) (y := sti r s (i + (Utf8.decode ⟨s.toArray⟩ i).2)) S'.slots S'.defers (hr := hrep _) rfl (Agree.putObj w r _ rfl) (World.putObj_heap_same hlt) (fun k hk => .inl hk) (fun k hk => by cases hk; simpa using hlt) (sti_loc _ _ _))
    · rw [← hget] at h ⊢
      rw [decode_lo _ _ h]; exact ⟨rfl, rfl⟩
    · rw [← hget] at h
      exact (decode_hi _ _ h).1
  · have e1 : (xop a.eval (.next x true) ty).run P w = .ok (.value (nxS false i 0)) w := by
      simp only [xop, execOp, hx, Instr.next, Sem.run_bind, hobj, Result.andThen, hsz, hi, if_false]
      simp [nxS]
    simp only [e1, Oper.uponIn]
    have := hp false 0
    have S' := S.put (d := d) (v := nxS false i 0)
    have hr0 := hrep i
    obtain ⟨pre, post, rfl, hb⟩ := hr0.ex
    refine K false 0 0 _ _ (fun _ => by omega) (fun h => by cases h) ?_
    show St _ _ _ _ _ _ (bs' i) _
    rw [hb]
    exact S'
end
/-! values with methods, and none -/
instance opErrN {P : Program} {l : Cx} {bs : List Item} {fs : List (World → Prop)} {x : Operand} {t t' ty : TypeId} {b : Bool} {te : TypeId} {pe : Value} [Ev l x (errV b te pe)] [hi : IfT P t] : OpQ P (.binOp .neq t x (.const .nilIface) t') ty l bs fs (.bool (!b)) := ⟨fun ρ w h _ => by
  have e2 : ρ (.const .nilIface) = .nilIface := h.ev (x := .const .nilIface) (v := .nilIface)
  cases b <;> simp [xop, execOp, h.ev (x := x) (v := errV _ te pe), e2, errV, eqGuard, binOp, Sem.run_bind, run_equal_held_nil w t te pe hi.eq, run_equal_nil_nil w t hi.eq]⟩
instance opNilN {P : Program} {l : Cx} {bs : List Item} {fs : List (World → Prop)} {x : Operand} {t t' ty : TypeId} [Ev l x .nilIface] [hi : IfT P t] : OpQ P (.binOp .neq t x (.const .nilIface) t') ty l bs fs (.bool false) := ⟨fun ρ w h _ => by
  have e2 : ρ (.const .nilIface) = .nilIface := h.ev (x := .const .nilIface) (v := .nilIface)
  simp [xop, execOp, h.ev (x := x) (v := .nilIface), e2, eqGuard, binOp, Sem.run_bind, run_equal_nil_nil w t hi.eq]⟩
instance opIfN {P : Program} {l : Cx} {bs : List Item} {fs : List (World → Prop)} {x : Operand} {t t' ty : TypeId} {te : TypeId} {pe : Value} [Ev l x (.iface te pe)] [hi : IfT P t] : OpQ P (.binOp .neq t x (.const .nilIface) t') ty l bs fs (.bool true) := ⟨fun ρ w h _ => by
  have e2 : ρ (.const .nilIface) = .nilIface := h.ev (x := .const .nilIface) (v := .nilIface)
  simp [xop, execOp, h.ev (x := x) (v := .iface te pe), e2, eqGuard, binOp, Sem.run_bind, run_equal_held_nil w t te pe hi.eq]⟩
/-- a struct type. -/
class StT (P : Program) (t : TypeId) : Prop where ex : ∃ fs, P.underlying t = some (.struct fs)
instance opAssert {P : Program} {l : Cx} {bs : List Item} {fs : List (World → Prop)} {x : Operand} {tx t ty : TypeId} {pe : Value} [Ev l x (.iface t pe)] [hs : StT P t] : OpQ P (.typeAssert x tx t true) ty l bs fs (.tuple ⟨[pe, .bool true]⟩) := ⟨fun ρ w h _ => by
  obtain ⟨fs, hf⟩ := hs.ex
  simp [xop, execOp, h.ev (x := x) (v := .iface t pe), Instr.typeAssert, Sem.run_bind, run_underlying hf w]⟩
instance opMkIf {P : Program} {l : Cx} {bs : List Item} {fs : List (World → Prop)} {x : Operand} {t ty : TypeId} {v : Value} [Ev l x v] [hs : StT P t] : OpQ P (.makeInterface t x) ty l bs fs (.iface t v) := ⟨fun ρ w h _ => by
  obtain ⟨fs, hf⟩ := hs.ex
  simp [xop, execOp, h.ev (x := x) (v := v), Instr.makeInterface, Sem.run_bind, run_underlying hf w]⟩
/-! arrays -/
section
variable {P : Program} {ls : Cx} {bs : List Item} {fs : List (World → Prop)} {x y : Operand} {b off k n sz o o' : Nat} {kk : IntKind} {m : Int} {t ty e : TypeId} {z : Value} {by_ : Nat}
/-- an element of an array that stands in a variable. -/
instance (priority := 860) opIdxArr [Ev ls x (.pointer (some ⟨b, off, none⟩))] [Ev ls y (.int kk m)] [hm : IsNat m k] [ht : Und P t (.array n e)] [TI P e z sz by_] [hk : KLt k n] [ho : MulN k sz o] [ho' : AddN off o o'] :
    OpQ P (.indexAddr t x y) ty ls bs fs (.pointer (some ⟨b, o', none⟩)) := ⟨fun ρ w h mm => by
  have e1 := hm.eq
  subst e1
  have h1 : (k : Int) < n := by have := hk.lt; omega
  have e2 : (⟨b, off, none⟩ : Addr).add (k * sz) = ⟨b, o', none⟩ := by rw [ho.eq, ← ho'.eq]; exact add_lit_off b off o
  simp [xop, execOp, h.ev (x := x) (v := .pointer (some ⟨b, off, none⟩)), h.ev (x := y) (v := .int kk (k : Int)), Instr.indexAt, asIntOf, Sem.run_bind, run_und, Instr.sureAddr, h1, run_size, e2, Int.natCast_nonneg]
  intro hle
  have := hk.lt
  omega⟩
instance kltS0 {n : Nat} : KLt 0 (n + 1) := ⟨by omega⟩
instance kltS {k n : Nat} [h : KLt k n] : KLt (k + 1) (n + 1) := ⟨by have := h.lt; omega⟩
end
end Go.Wk

namespace Go.Wk
open Go Go.Deep Go.ChangeShapes Go.WideShapes Go.ChangeAt Go.RowKit

/-! arrays of three that come in -/
structure A3 (α : Type) where
  a : α
  b : α
  c : α
def A3.l {α : Type} (x : A3 α) : List α := [x.a, x.b, x.c]
instance encA3 {α : Type} [i : Lay α] : Enc (A3 α) := ⟨3 * Enc.sz α, fun x => Enc.cells x.a ++ (Enc.cells x.b ++ Enc.cells x.c), fun x => by simp [Enc.len]; omega, fun x u hu => by
  simp only [List.mem_append] at hu
  rcases hu with h | h | h <;> exact Enc.one _ _ h⟩
instance layA3 {α : Type} [i : Lay α] : Lay (A3 α) := { encA3 with
  dflt := ⟨Lay.dflt, Lay.dflt, Lay.dflt⟩
  inn := fun w x => Lay.inn w x.a ∧ Lay.inn w x.b ∧ Lay.inn w x.c
  mono := fun w w' x h hx => ⟨Lay.mono w w' _ h hx.1, Lay.mono w w' _ h hx.2.1, Lay.mono w w' _ h hx.2.2⟩ }
theorem troA3 {P : Program} {T e : TypeId} {α : Type} [Lay α] [hT : Tro P e α] (hu : P.underlying T = some (.array 3 e)) (hs : P.cellsOf T = 3 * P.cellsOf e) : Tro P T (A3 α) := ⟨fun enc w base spare held fuel cs x h => by
  obtain ⟨xs, m, rfl, rfl, hlen, hxl, hx⟩ := DataW.trod_array hu h
  have key : ∀ i, i < 3 → ∃ a : α, (cs.drop (i * Enc.sz α)).take (Enc.sz α) = Enc.cells a ∧ Lay.inn w a := fun i hi => by
    have h1 := hx i hi
    rw [List.getElem?_eq_getElem (by omega), hT.size] at h1
    exact hT.of _ _ _ _ _ _ _ _ h1
  obtain ⟨a, ha, ia⟩ := key 0 (by omega)
  obtain ⟨b, hb, ib⟩ := key 1 (by omega)
  obtain ⟨c, hc, ic⟩ := key 2 (by omega)
  refine ⟨⟨a, b, c⟩, ?_, ia, ib, ic⟩
  rw [hs, hT.size] at hlen
  show cs = Enc.cells a ++ (Enc.cells b ++ Enc.cells c)
  rw [← ha, ← hb, ← hc]
  rw [show 0 * Enc.sz α = 0 from by omega, List.drop_zero, show 1 * Enc.sz α = Enc.sz α from by omega]
  have e3 : (cs.drop (2 * Enc.sz α)).take (Enc.sz α) = cs.drop (2 * Enc.sz α) := List.take_of_length_le (by rw [List.length_drop]; omega)
  rw [e3, show 2 * Enc.sz α = Enc.sz α + Enc.sz α from by omega, ← List.drop_drop, List.take_append_drop, List.take_append_drop],
  by rw [hs, hT.size]; rfl⟩
theorem arr3_of_Trod {P : Program} {T e : TypeId} {α : Type} [Lay α] [hT : Tro P T (A3 α)] {H : Type} {enc : TypeId × Value → H} {w : World} {base : Nat} {spare : Nat → Bool} {held : Bool} (hu : P.underlying T = some (.array 3 e)) {v : Value} {d : DataW H} {p : List MemPlace} {r : Reach} {W : World} {base' : Nat} (h : DataW.Trod enc P w base spare held T v d p) (hv : Value.okWide P W r base' T v) :
    ∃ a : A3 α, v = .agg ⟨Enc.cells a⟩ ∧ Lay.inn w a := by
  obtain ⟨cs, rfl⟩ : ∃ cs, v = .agg cs := by
    simp only [Value.okWide, hu] at hv
    obtain ⟨cs, h1, _⟩ := hv
    exact ⟨cs, h1⟩
  obtain ⟨fuel, hf⟩ := h
  obtain ⟨a, e, ha⟩ := hT.of _ _ _ _ _ _ _ _ hf
  refine ⟨a, ?_, ha⟩
  have : cs.toList = Enc.cells a := by simpa [Value.cells] using e
  rw [← this]
end Go.Wk

/- Layer 17, packages meta and data: names, numbers, writings. -/
namespace Go.Proofs.YtieeoakdkbackaaDoor
open Go Go.Wk
set_option synthInstance.maxSize 100000
set_option synthInstance.maxHeartbeats 400000
set_option maxRecDepth 100000

theorem large17_c (N : Nat) : ∀ (t : LTerm) (deep left : Int) (b : Nat) (w0 : World), SizeOf.sizeOf t ≤ N → 0 ≤ deep → deep ≤ 81 → 0 ≤ left → left ≤ 2000 → Stable (fun k => k = b) w0 (LtF t) → w0.heap[b]? = some (.cells #[.int .i64 left] 3 (0, 0)) →
    Ret Tryd.prog 37 [vL t, .int .i64 deep, .pointer (some ⟨b, 0, none⟩)] w0 (fun k => k = b) fun v w' => ∃ (r : Bool) (n : Int), v = .bool r ∧ n ≤ left ∧ (r = false → 0 ≤ n) ∧ w'.heap[b]? = some (.cells #[.int .i64 n] 3 (0, 0)) := by
  induction N with
  | zero => intro t _ _ _ _ h; cases t; simp at h
  | succ N ih =>
  intro t deep left b w0 hN hd hd' hl hl' hf hb
  have hlen := LTerm.len_le hf
  refine enter Tryd.func37 rfl rfl (Wd.lent (fs := [LtF t]) hb (by simpa using hf)) (fun a S => ?_)
  simp only [Tryd.ntmps37, List.length_cons, List.length_nil, Nat.reduceAdd, Nat.reduceSub, List.replicate_succ, List.replicate_zero, List.cons_append, List.nil_append] at S
  refine c_seq ?_
  refine c_region ?_
  refine sa S ?_; clear S; intro b3 a w S
  refine sq S ?_; clear S; intro a S
  refine wl_nil ?_
  refine xtn ?_
  iterate 2 (refine c_seq ?_)
  refine c_region ?_
  iterate 4 (refine sq S ?_; clear S; intro a S)
  rw [w64 (left - 1) (by omega) (by omega)] at S
  refine sq S ?_; clear S; intro a S
  refine sw S ?_; clear S; intro a w S
  refine wl_nil ?_
  refine xtn ?_
  refine c_seq ?_
  refine c_region ?_
  iterate 5 (refine sq S ?_; clear S; intro a S)
  iterate 2 (refine gQ S ?_; clear S; intro a S)
  iterate 2 (refine sq S ?_; clear S; intro a S)
  iterate 4 (refine gQ S ?_; clear S; intro a S)
  iterate 2 (refine sq S ?_; clear S; intro a S)
  iterate 4 (refine gQ S ?_; clear S; intro a S)
  refine sq S ?_; clear S; intro a S
  refine wl_nil ?_
  refine xtn ?_
  refine c_cond S (fun h2 => ?_) (fun h2 => ?_)
  · refine c_seq ?_
    refine c_region ?_
    refine sq S ?_; clear S; intro a S
    refine wl_nil ?_
    refine xtn ?_
    refine c_ret ?_
    refine xtr ?_
    have hbx := S.box b
    refine fin1 S (fun _ => ?_)
    exact ⟨true, _, rfl, by omega, nofun, hbx⟩
  · refine c_skip ?_
    refine xtn ?_
    iterate 2 (refine c_seq ?_)
    have h2' : 0 ≤ left - 1 ∧ deep ≤ 80 := by
      simp only [Bool.or_eq_false_iff, decide_eq_false_iff_not] at h2
      omega
    refine c_region ?_
    iterate 4 (refine sq S ?_; clear S; intro a S)
    refine wl_nil ?_
    refine xtn ?_
    refine c_block ?_
    refine c_fore2 S (fun (k : Nat) (lf : Int) uu => [(6, uu 6), (1, uu 8), (28, .int .i64 (k : Nat)), (0, uu 38), (0, uu 39), (0, uu 40), (0, uu 41), (0, uu 42), (0, uu 43), (0, uu 44), (0, uu 45), (0, uu 46)]) (fun (k : Nat) (lf : Int) => [Wk.box b3 24 t.cells, Wk.box b 3 [.int .i64 lf]]) (fun (k : Nat) (lf : Int) => [LtF t]) (fun (k : Nat) (lf : Int) => k ≤ t.kids.length ∧ 0 ≤ lf ∧ lf ≤ left) (fun (k : Nat) (lf : Int) => t.kids.length - k) (0) (left - 1) ?_ S.uu ?_ ?_
    · exact ⟨Nat.zero_le _, by omega, by omega⟩
    · first | exact S | exact S.sub _ _
    · clear S; rintro k lf uu a w ⟨hk, hlf, hlf'⟩ S
      refine c_seq ?_
      refine c_region ?_
      refine sq S ?_; clear S; intro a S
      refine wl_nil ?_
      refine xtn ?_
      refine c_seq ?_
      refine c_cond S (fun h5 => ?_) (fun h5 => ?_)
      · refine c_skip ?_
        refine xtn ?_
        refine c_seq ?_
        refine c_block ?_
        refine c_seq ?_
        have hkl : k < t.kids.length := by simp at h5; omega
        have hK : KLt k t.kids.length := ⟨hkl⟩
        refine c_region ?_
        iterate 2 (refine sq S ?_; clear S; intro a S)
        refine sa S ?_; clear S; intro b8 a w S
        refine sw S ?_; clear S; intro a w S
        refine wl_nil ?_
        refine xtn ?_
        refine c_seq ?_
        refine c_region ?_
        iterate 3 (refine sq S ?_; clear S; intro a S)
        rw [w64 (deep + 1) (by omega) (by omega)] at S
        refine sq S ?_; clear S; intro a S
        have hst : Stable (fun k => k = b) w (LtF (nthL t.kids k)) := (S.t (nthL t.kids k)).less fun j _ hj => ⟨Wk.box b 3 [.int .i64 lf], by simp, by rw [hj]; rfl⟩
        refine sb S (b := b) (ih (nthL t.kids k) (deep + 1) lf b w (by have := LTerm.kid_lt (nth_mem hkl); omega) (by omega) (by omega) hlf (by omega) hst (S.box b)) ?_; clear S
        rintro v a w ⟨r, n, rfl, hn1, hn2, hcb⟩ hS
        have S := hS [.int .i64 _] _ inferInstance hcb
        clear hS
        refine wl_nil ?_
        refine xtn ?_
        refine c_cond S (fun h7 => ?_) (fun h7 => ?_)
        · refine c_seq ?_
          refine c_region ?_
          refine sq S ?_; clear S; intro a S
          refine wl_nil ?_
          refine xtn ?_
          refine c_ret ?_
          refine xbr ?_
          iterate 2 (refine xtr ?_)
          refine xbr ?_
          refine xtr ?_
          have hbx := S.box b
          refine fin1 S (fun _ => ?_)
          exact ⟨true, _, rfl, by omega, nofun, hbx⟩
        · refine c_skip ?_
          refine xbn ?_
          refine xtn ?_
          refine c_region ?_
          iterate 2 (refine sq S ?_; clear S; intro a S)
          refine wl_nil ?_
          refine xtn ?_
          rw [w64 ((k : Int) + 1) (by omega) (by omega)] at S
          exact ⟨k + 1, n, S.uu, ⟨hkl, hn2 h7, by omega⟩, S.sub _ _, by omega⟩
      · refine c_exit ?_
        iterate 2 (refine xte ?_)
        refine xbe ?_
        refine xtn ?_
        refine c_seq ?_
        refine c_region ?_
        refine sq S ?_; clear S; intro a S
        refine wl_nil ?_
        refine xtn ?_
        refine c_ret ?_
        have hbx := S.box b
        refine fin1 S (fun _ => ?_)
        exact ⟨false, _, rfl, by omega, fun _ => hlf, hbx⟩
theorem over17_c (t : LTerm) (w0 : World) (hf : Stable (fun _ => False) w0 (LtF t)) : Ret Tryd.prog 8 [vL t] w0 (fun _ => False) fun v _ => ∃ b, v = .bool b := by
  refine enter Tryd.func8 rfl rfl (Wd.begin (fs := [LtF t]) (by simpa using hf)) (fun a S => ?_)
  simp only [Tryd.ntmps8, List.length_cons, List.length_nil, Nat.reduceAdd, Nat.reduceSub, List.replicate_succ, List.replicate_zero, List.cons_append, List.nil_append] at S
  refine c_seq ?_
  refine c_region ?_
  refine sa S ?_; clear S; intro b1 a w S
  refine sq S ?_; clear S; intro a S
  refine wl_nil ?_
  refine xtn ?_
  refine c_seq ?_
  refine c_region ?_
  refine sa S ?_; clear S; intro b3 a w S
  refine sw S ?_; clear S; intro a w S
  refine wl_nil ?_
  refine xtn ?_
  refine c_seq ?_
  refine c_region ?_
  refine sq S ?_; clear S; intro a S
  have hst : Stable (fun k => k = b3) w (LtF t) := (S.t t).less fun j _ hj => ⟨Wk.box b3 3 [.int .i64 1500], by simp, by rw [hj]; rfl⟩
  refine sb S (b := b3) (large17_c _ t 1 1500 b3 w (Nat.le_refl _) (by omega) (by omega) (by omega) (by omega) hst (S.box b3)) ?_; clear S
  rintro v a w ⟨r, n, rfl, hn1, hn2, hcb⟩ hS
  have S := hS [.int .i64 _] _ inferInstance hcb
  clear hS
  refine sq S ?_; clear S; intro a S
  refine wl_nil ?_
  refine xtn ?_
  refine c_ret ?_
  refine end1 S (fun _ => ⟨r, rfl⟩)
/-! names and numbers -/
def chB (c : UInt8) : Bool := decide (33 ≤ c.toNat) && decide (c.toNat ≤ 126)
def nameB (s : List UInt8) : Bool := s.all chB && decide (1 ≤ s.length) && decide (s.length ≤ 24)
theorem mname_c (s : List UInt8) (hl : s.length ≤ 1000000) (w0 : World) : Ret Tryd.prog 51 [str s] w0 (fun _ => False) fun v _ => v = .bool (nameB s) := by
  refine enter Tryd.func51 rfl rfl (Wd.start w0) (fun a S => ?_)
  simp only [Tryd.ntmps51, List.length_cons, List.length_nil, Nat.reduceAdd, Nat.reduceSub, List.replicate_succ, List.replicate_zero, List.cons_append, List.nil_append] at S
  refine c_seq ?_
  refine c_region ?_
  refine sq S ?_; clear S; intro a S
  refine wl_nil ?_
  refine xtn ?_
  iterate 2 (refine c_seq ?_)
  refine c_region ?_
  refine sq S ?_; clear S; intro a S
  refine sstr0 S ?_; clear S; intro b6 a w S
  refine wl_nil ?_
  refine xtn ?_
  refine c_block ?_
  refine c_forf1 S (fun (i : Nat) uu => [(2, uu 2), (1, uu 4), (2, uu 7), (0, uu 8), (0, uu 9), (0, uu 10), (0, uu 11), (0, uu 12), (0, uu 13), (0, uu 14), (0, uu 15)]) (fun (i : Nat) => [Wk.sti b6 s i]) (fun (i : Nat) => i ≤ s.length ∧ ∀ j, j < i → chB (s.getD j 0) = true) (fun (i : Nat) => s.length - i) (0) ?_ S.uu ?_ ?_
  · exact ⟨Nat.zero_le _, fun j hj => by omega⟩
  · first | exact S | exact S.sub _ _
  · clear S; rintro i uu a w ⟨hi, hrel⟩ S
    refine c_seq ?_
    refine c_region ?_
    refine snxs S ?_; clear S; intro more c wd a w hmf hmt S
    refine sq S ?_; clear S; intro a S
    refine wl_nil ?_
    refine xtn ?_
    refine c_seq ?_
    refine c_cond S (fun h2 => ?_) (fun h2 => ?_)
    · refine c_skip ?_
      refine xtn ?_
      refine c_block ?_
      refine c_seq ?_
      obtain rfl : more = true := h2
      obtain ⟨hil, hlo, hhi⟩ := hmt rfl
      refine c_region ?_
      iterate 2 (refine sq S ?_; clear S; intro a S)
      refine wl_nil ?_
      refine xtn ?_
      refine c_seq ?_
      refine c_region ?_
      iterate 3 (refine sq S ?_; clear S; intro a S)
      iterate 2 (refine gQ S ?_; clear S; intro a S)
      refine sq S ?_; clear S; intro a S
      refine wl_nil ?_
      refine xtn ?_
      refine c_cond S (fun h4 => ?_) (fun h4 => ?_)
      · refine c_seq ?_
        refine c_region ?_
        refine sq S ?_; clear S; intro a S
        refine wl_nil ?_
        refine xtn ?_
        refine c_ret ?_
        refine xbr ?_
        refine xtr ?_
        refine xbr ?_
        refine xtr ?_
        have hbad : chB (s.getD i 0) = false := by
          simp only [Bool.or_eq_true, decide_eq_true_eq] at h4
          by_cases hc : (s.getD i 0).toNat < 128
          · obtain ⟨rfl, -⟩ := hlo hc
            simp only [chB, Bool.and_eq_false_iff, decide_eq_false_iff_not]
            omega
          · simp only [chB, Bool.and_eq_false_iff, decide_eq_false_iff_not]
            omega
        refine end1 S (fun _ => ?_)
        have : nameB s = false := by
          have hall : s.all chB = false := List.all_eq_false.2 ⟨s.getD i 0, by rw [List.getD_eq_getElem?_getD, List.getElem?_eq_getElem hil]; exact List.getElem_mem hil, by rw [hbad]; simp⟩
          rw [nameB, hall]; rfl
        rw [this]
      · refine c_skip ?_
        refine xbn ?_
        refine xtn ?_
        simp only [Bool.or_eq_false_iff, decide_eq_false_iff_not] at h4
        have hc : (s.getD i 0).toNat < 128 := Classical.byContradiction fun hc => by have := hhi hc; omega
        obtain ⟨rfl, rfl⟩ := hlo hc
        rw [show (bif true then i + 1 else i) = i + 1 from rfl] at S
        refine ⟨i + 1, S.uu, ⟨hil, fun j hj => ?_⟩, S.sub _ _, by omega⟩
        rcases Nat.lt_or_ge j i with h | h
        · exact hrel j h
        · obtain rfl : j = i := by omega
          simp only [chB, Bool.and_eq_true, decide_eq_true_eq]
          omega
    · refine c_exit ?_
      iterate 2 (refine xte ?_)
      refine xbe ?_
      refine xtn ?_
      refine c_seq ?_
      refine c_region ?_
      iterate 4 (refine sq S ?_; clear S; intro a S)
      iterate 3 (refine gQ S ?_; clear S; intro a S)
      iterate 2 (refine sq S ?_; clear S; intro a S)
      refine wl_nil ?_
      refine xtn ?_
      refine c_ret ?_
      have hall : s.all chB = true := by
        have hle := hmf h2
        refine List.all_eq_true.2 fun x hx => ?_
        obtain ⟨j, hj, rfl⟩ := List.getElem_of_mem hx
        have := hrel j (by omega)
        rwa [List.getD_eq_getElem?_getD, List.getElem?_eq_getElem hj] at this
      refine end1 S (fun _ => ?_)
      rw [nameB, hall, Bool.true_and]
      congr 1
      rw [Bool.eq_iff_iff]
      simp only [Bool.and_eq_true, decide_eq_true_eq]
      omega
end Go.Proofs.YtieeoakdkbackaaDoor

/- Packages meta and data: numbers, Check, Make. -/
namespace Go.Proofs.YtieeoakdkbackaaDoor
open Go Go.Wk
set_option synthInstance.maxSize 100000
set_option synthInstance.maxHeartbeats 400000
set_option maxRecDepth 100000

theorem itoa64 {n : Int} (h : 0 ≤ n ∧ n ≤ 9223372036854775807) : (Lib.itoa n).length ≤ 64 := Nat.le_trans (Lib.itoa_length_le n (by omega) (by omega)) (by omega)
theorem mdigits_c (n : Int) (hI : -9223372036854775808 ≤ n ∧ n ≤ 9223372036854775807) (w0 : World) (ht : Stable (fun _ => False) w0 TabF) : Ret Tryd.prog 48 [.int .i64 n] w0 (fun _ => False) fun v _ => v = vL (textL (Lib.itoa (max n 0))) := by
  refine enter Tryd.func48 rfl rfl (Wd.begin (fs := [TabF]) (by simpa using ht)) (fun a S => ?_)
  simp only [Tryd.ntmps48, List.length_cons, List.length_nil, Nat.reduceAdd, Nat.reduceSub, List.replicate_succ, List.replicate_zero, List.cons_append, List.nil_append] at S
  refine c_seq ?_
  refine c_region ?_
  refine sa S ?_; clear S; intro b2 a w S
  refine wl_nil ?_
  refine xtn ?_
  refine c_seq ?_
  refine c_region ?_
  iterate 2 (refine sq S ?_; clear S; intro a S)
  refine sr S (itoa_c (max n 0) ⟨by omega, by omega⟩ _ (S.mem.fact0 TabF).now) ?_; clear S; rintro _ a w rfl S
  refine sc S ?_; clear S; intro a w S
  refine sw S ?_; clear S; intro a w S
  refine wl_nil ?_
  refine xtn ?_
  refine c_ret ?_
  refine end1 S (fun _ => rfl)
instance {n : Int} {bs fs} [h : I64 n] [hf : HasFact fs TabF] : CallV Tryd.prog 48 [.int .i64 n] bs fs (vL (textL (Lib.itoa (max n 0)))) := ⟨fun w m => mdigits_c n ⟨h.lo, h.hi⟩ w (m.fact0 TabF)⟩
theorem textL_t (s : List UInt8) : (textL s).t = textT s := rfl
theorem mnumber_c (t : LTerm) (most : Int) (hs : t.text.length ≤ 1000) (hm : most ≤ 65535) (w0 : World) (ht : Stable (fun _ => False) w0 LibF) (hf : Stable (fun _ => False) w0 (LtF t)) :
    Ret Tryd.prog 43 [vL t, .int .i64 most] w0 (fun _ => False) fun v _ => ∃ (n : Int) (b : Bool), v = .tuple ⟨[.int .i64 n, .bool b]⟩ ∧ (b = true → (0 ≤ n ∧ n ≤ most) ∧ t.t = textT (Lib.itoa n)) ∧ (b = false → n = 0 ∧ ∀ m, 0 ≤ m → m ≤ most → t.t ≠ textT (Lib.itoa m)) := by
  refine enter Tryd.func43 rfl rfl (Wd.begin (fs := [TabF, LibF, LtF t]) (by simp; exact ⟨ht.imp fun _ h => h.1, ht, hf⟩)) (fun a S => ?_)
  simp only [Tryd.ntmps43, List.length_cons, List.length_nil, Nat.reduceAdd, Nat.reduceSub, List.replicate_succ, List.replicate_zero, List.cons_append, List.nil_append] at S
  refine c_seq ?_
  refine c_region ?_
  refine sa S ?_; clear S; intro b2 a w S
  iterate 2 (refine sq S ?_; clear S; intro a S)
  refine wl_nil ?_
  refine xtn ?_
  refine c_seq ?_
  refine c_region ?_
  iterate 2 (refine sq S ?_; clear S; intro a S)
  refine sr S (atoi_c t.text hs _ (S.mem.fact0 LibF).now.2.1 (S.mem.fact0 LibF).now.2.2) ?_; clear S; rintro _ a w ⟨n, b1, te, pe, rfl, hn, hbn, hv⟩ S
  have hI : I64 n := ⟨hn.1, hn.2⟩
  replace S := S.add (Φ := LtF (textL (Lib.itoa (max n 0)))) (fun _ _ => by simp [LtIn, textL, LsIn, LtF])
  iterate 5 (refine sq S ?_; clear S; intro a S)
  refine wl_nil ?_
  refine xtn ?_
  iterate 2 (refine c_seq ?_)
  refine c_drawD [(0, true), (1, true), (2, true), (3, true), (4, true), (5, true), (6, true), (7, true), (8, true), (9, true), (10, true), (11, true), (12, true), (13, true), (14, false), (15, false), (16, true), (17, true)] [] S ?_; clear S; intro w S
  iterate 3 (refine dq S ?_; clear S; intro a S)
  iterate 2 (refine dqG S ?_; clear S; intro a S)
  iterate 2 (refine dq S ?_; clear S; intro a S)
  iterate 3 (refine dqG S ?_; clear S; intro a S)
  iterate 2 (refine dq S ?_; clear S; intro a S)
  iterate 2 (refine dqG S ?_; clear S; intro a S)
  refine dl ?_
  refine gC S ?_; clear S; intro a w S
  refine de S ?_
  refine dl ?_
  refine gC S ?_; clear S; intro a w S
  refine de S ?_
  refine dqG S ?_; clear S; intro a S
  refine dq S ?_; clear S; intro a S
  refine dn ?_
  refine xtn ?_
  refine c_cond S (fun h2 => ?_) (fun h2 => ?_)
  · refine c_seq ?_
    refine c_region ?_
    iterate 2 (refine sq S ?_; clear S; intro a S)
    refine wl_nil ?_
    refine xtn ?_
    refine c_ret ?_
    refine xtr ?_
    have hno : ∀ m, 0 ≤ m → m ≤ most → t.t ≠ textT (Lib.itoa m) := by
      intro m h0 h1 he
      have e1 : t.text = Lib.itoa m := by
        rw [t.t_eq] at he
        simp only [textT, Term.mk.injEq] at he
        exact he.2.2.2.1
      have ha := atoi_itoa (n := m) ⟨h0, by omega⟩
      rw [← e1] at ha
      have e2 := hv _ ha
      have e3 := hbn.2 ⟨_, ha⟩
      subst e2
      have e4 : sameF t.t (textL (Lib.itoa (max n 0))).t = true := (sameF_iff _ _).2 (by rw [textL_t, he, show max n 0 = n from by omega])
      rw [e3, e4] at h2
      simp at h2
      omega
    refine end2 S (fun _ => ?_)
    exact ⟨0, false, rfl, nofun, fun _ => ⟨rfl, hno⟩⟩
  · refine c_skip ?_
    refine xtn ?_
    refine c_seq ?_
    refine c_region ?_
    iterate 3 (refine sq S ?_; clear S; intro a S)
    refine wl_nil ?_
    refine xtn ?_
    refine c_ret ?_
    simp only [Bool.or_eq_false_iff, decide_eq_false_iff_not, Bool.not_eq_false'] at h2
    refine end2 S (fun _ => ?_)
    refine ⟨n, true, rfl, fun _ => ⟨⟨by omega, by omega⟩, ?_⟩, nofun⟩
    have := (sameF_iff _ _).1 h2.2
    rw [this, textL_t, show max n 0 = n from by omega]
end Go.Proofs.YtieeoakdkbackaaDoor

/- The reference's names, numbers, lists. -/
namespace Go.Proofs.YtieeoakdkbackaaDoor
open Go Go.Wk
set_option synthInstance.maxSize 100000
set_option synthInstance.maxHeartbeats 400000
set_option maxRecDepth 100000

/-! decimal digits -/
def valF : List UInt8 → Nat → Nat
  | [], n => n
  | c :: cs, n => valF cs (10 * n + (c.toNat - 48))
theorem valF_append (a b : List UInt8) (n : Nat) : valF (a ++ b) n = valF b (valF a n) := by
  induction a generalizing n with
  | nil => rfl
  | cons c cs ih => exact ih _
theorem valF_le (a : List UInt8) (n : Nat) : n ≤ valF a n := by
  induction a generalizing n with
  | nil => exact Nat.le_refl _
  | cons c cs ih => have := ih (10 * n + (c.toNat - 48)); rw [valF]; omega
theorem dig_toNat {d : Nat} (h : d < 10) : (UInt8.ofNat (48 + d)).toNat = 48 + d := by rw [UInt8.toNat_ofNat_of_lt' (by show 48 + d < 256; omega)]
theorem val_dec : ∀ (N u : Nat), u ≤ N → valF (Lib.decDigits u) 0 = u ∧ ∀ c ∈ Lib.decDigits u, 48 ≤ c.toNat ∧ c.toNat ≤ 57
  | 0, u, h => by
    obtain rfl : u = 0 := by omega
    rw [Lib.decDigits, dif_pos (by omega)]
    refine ⟨by rfl, fun c hc => ?_⟩
    obtain rfl := List.mem_singleton.1 hc
    decide
  | N + 1, u, h => by
    rw [Lib.decDigits]
    split
    · rename_i h1
      refine ⟨by rw [valF, dig_toNat h1, valF]; omega, fun c hc => ?_⟩
      obtain rfl := List.mem_singleton.1 hc
      rw [dig_toNat h1]; omega
    · rename_i h1
      obtain ⟨e1, e2⟩ := val_dec N (u / 10) (by omega)
      refine ⟨by rw [valF_append, e1, valF, dig_toNat (by omega), valF]; omega, fun c hc => ?_⟩
      rcases List.mem_append.1 hc with hc | hc
      · exact e2 c hc
      · obtain rfl := List.mem_singleton.1 hc
        rw [dig_toNat (by omega)]; omega
theorem dec_len : ∀ (k u : Nat), u < 10 ^ (k + 1) → (Lib.decDigits u).length ≤ k + 1
  | 0, u, h => by rw [Lib.decDigits, dif_pos (by omega)]; simp
  | k + 1, u, h => by
    rw [Lib.decDigits]
    split
    · simp
    · have := dec_len k (u / 10) (by rw [Nat.pow_succ] at h; omega)
      simp; omega
theorem itoa_dec {n : Int} (h : 0 ≤ n) : Lib.itoa n = Lib.decDigits n.toNat := by rw [Lib.itoa, if_neg (by omega)]
abbrev digS : List UInt8 := [48, 49, 50, 51, 52, 53, 54, 55, 56, 57]
theorem dig_one : ∀ k : Fin 10, (digS.take (k.val + 1)).drop k.val = [UInt8.ofNat (48 + k.val)] := by decide
theorem rdigits_all (N : Nat) : ∀ (n : Int) (w0 : World), n.toNat < N → n ≤ 9223372036854775807 → Ret Tryd.prog 53 [.int .i64 n] w0 (fun _ => False) fun v _ => v = str (Lib.itoa (max n 0)) := by
  induction N with
  | zero => intro n w0 hN; omega
  | succ N ih =>
  intro n w0 hN hn
  refine enter Tryd.func53 rfl rfl (Wd.start w0) (fun a S => ?_)
  simp only [Tryd.ntmps53, List.length_cons, List.length_nil, Nat.reduceAdd, Nat.reduceSub, List.replicate_succ, List.replicate_zero, List.cons_append, List.nil_append] at S
  refine c_seq ?_
  refine c_region ?_
  refine sq S ?_; clear S; intro a S
  refine wl_nil ?_
  refine xtn ?_
  iterate 2 (refine c_seq ?_)
  refine c_region ?_
  iterate 2 (refine sq S ?_; clear S; intro a S)
  refine wl_nil ?_
  refine xtn ?_
  refine c_cond S (fun h1 => ?_) (fun h1 => ?_)
  · refine c_seq ?_
    refine c_seq ?_
    refine c_region ?_
    iterate 2 (refine sq S ?_; clear S; intro a S)
    refine wl_nil ?_
    refine xtn ?_
    refine c_cond S (fun h2 => ?_) (fun h2 => ?_)
    · refine c_region ?_
      refine sq S ?_; clear S; intro a S
      refine wl_nil ?_
      refine xtn ?_
      refine c_seq ?_
      refine c_region ?_
      refine sq S ?_; clear S; intro a S
      obtain ⟨k, hk, hkn, hkm⟩ : ∃ k : Nat, k < 10 ∧ max n 0 = (k : Int) ∧ True := ⟨(max n 0).toNat, by simp at h1; omega, by omega, trivial⟩
      first
      | rw [show n = (k : Int) from by simp at h2; omega] at S
      | (have hk0 : k = 0 := by simp at h2; omega
         rw [show Value.int .i64 0 = .int .i64 ((k : Nat) : Int) from by rw [hk0]; rfl] at S)
      have hL1 : LeC (k + 1) digS.length := ⟨by simp; omega⟩
      have hL2 : LeC k (k + 1) := ⟨by omega⟩
      iterate 2 (refine sq S ?_; clear S; intro a S)
      first
      | rw [w64 ((k : Int) + 1) (by omega) (by omega), show (k : Int) + 1 = ((k + 1 : Nat) : Int) from by omega] at S
      | skip
      iterate 2 (refine sq S ?_; clear S; intro a S)
      refine wl_nil ?_
      refine xtn ?_
      refine c_ret ?_
      refine xtr ?_
      refine end1 S (fun _ => ?_)
      rw [hkn, itoa_dec (by omega), Lib.decDigits, dif_pos (by omega)]
      have := dig_one ⟨k, hk⟩
      simp only at this
      rw [this]; rfl
    · refine c_skip ?_
      refine xtn ?_
      refine c_seq ?_
      refine c_region ?_
      refine sq S ?_; clear S; intro a S
      obtain ⟨k, hk, hkn, hkm⟩ : ∃ k : Nat, k < 10 ∧ max n 0 = (k : Int) ∧ True := ⟨(max n 0).toNat, by simp at h1; omega, by omega, trivial⟩
      first
      | rw [show n = (k : Int) from by simp at h2; omega] at S
      | (have hk0 : k = 0 := by simp at h2; omega
         rw [show Value.int .i64 0 = .int .i64 ((k : Nat) : Int) from by rw [hk0]; rfl] at S)
      have hL1 : LeC (k + 1) digS.length := ⟨by simp; omega⟩
      have hL2 : LeC k (k + 1) := ⟨by omega⟩
      iterate 2 (refine sq S ?_; clear S; intro a S)
      first
      | rw [w64 ((k : Int) + 1) (by omega) (by omega), show (k : Int) + 1 = ((k + 1 : Nat) : Int) from by omega] at S
      | skip
      iterate 2 (refine sq S ?_; clear S; intro a S)
      refine wl_nil ?_
      refine xtn ?_
      refine c_ret ?_
      refine xtr ?_
      refine end1 S (fun _ => ?_)
      rw [hkn, itoa_dec (by omega), Lib.decDigits, dif_pos (by omega)]
      have := dig_one ⟨k, hk⟩
      simp only at this
      rw [this]; rfl
  · refine c_skip ?_
    refine xtn ?_
    refine c_seq ?_
    obtain ⟨m, rfl⟩ : ∃ m : Nat, n = (m : Int) := ⟨n.toNat, by simp at h1; omega⟩
    have hm : 10 ≤ m := by simp at h1; omega
    have e1 : (m : Int).tdiv 10 = ((m / 10 : Nat) : Int) := by rw [Int.tdiv_eq_ediv_of_nonneg (by omega)]; omega
    have e2 : (m : Int).tmod 10 = ((m % 10 : Nat) : Int) := by rw [Int.tmod_eq_emod_of_nonneg (by omega)]; omega
    have hL1 : LeC (m % 10 + 1) digS.length := ⟨by simp; omega⟩
    have hL2 : LeC (m % 10) (m % 10 + 1) := ⟨by omega⟩
    have hlen : LeC ((Lib.itoa ((m / 10 : Nat) : Int)).length + ((digS.take (m % 10 + 1)).drop (m % 10)).length) 4611686018427387904 := ⟨by
      have h1 := Lib.itoa_length_le ((m / 10 : Nat) : Int) (by omega) (by omega)
      have h2 : ((digS.take (m % 10 + 1)).drop (m % 10)).length ≤ 10 := by rw [List.length_drop, List.length_take]; simp only [digS, List.length_cons, List.length_nil]; omega
      omega⟩
    refine c_drawD [(0, true), (1, true), (3, true), (4, true), (5, true), (6, true), (7, true), (8, true), (2, false), (9, true), (10, true)] [] S ?_; clear S; intro w S
    iterate 2 (refine dq S ?_; clear S; intro a S)
    rw [e1, w64 _ (by omega) (by omega)] at S
    iterate 2 (refine dq S ?_; clear S; intro a S)
    rw [e2] at S
    iterate 2 (refine dq S ?_; clear S; intro a S)
    rw [e2] at S
    refine dq S ?_; clear S; intro a S
    rw [w64 (((m % 10 : Nat) : Int) + 1) (by omega) (by omega), show ((m % 10 : Nat) : Int) + 1 = ((m % 10 + 1 : Nat) : Int) from by omega] at S
    refine dq S ?_; clear S; intro a S
    refine dl ?_
    refine sr S (ih ((m / 10 : Nat) : Int) _ (by omega) (by omega)) ?_; clear S; rintro _ a w rfl S
    rw [show max ((m / 10 : Nat) : Int) 0 = ((m / 10 : Nat) : Int) from by omega] at S
    refine de S ?_
    iterate 2 (refine dq S ?_; clear S; intro a S)
    refine dn ?_
    refine xtn ?_
    refine c_ret ?_
    refine end1 S (fun _ => ?_)
    have := dig_one ⟨m % 10, by omega⟩
    simp only at this
    rw [this, show max (m : Int) 0 = (m : Int) from by omega, itoa_dec (by omega), itoa_dec (by omega), show ((m / 10 : Nat) : Int).toNat = m / 10 from by omega, show (m : Int).toNat = m from by omega]
    conv => rhs; rw [Lib.decDigits, dif_neg (by omega)]
theorem rdigits_c (n : Int) (w0 : World) (hn : n ≤ 9223372036854775807) : Ret Tryd.prog 53 [.int .i64 n] w0 (fun _ => False) fun v _ => v = str (Lib.itoa (max n 0)) := rdigits_all _ n w0 (Nat.lt_succ_self _) hn
theorem nthG_val {α : Type} [Lay α] {xs : List α} {k : Nat} (h : k < xs.length) : nthG xs k = xs[k] := by
  have := nthG_get h
  rw [List.getElem?_eq_getElem h] at this
  injection this with this
  exact this.symm
theorem rname_c (s : List UInt8) (hl : s.length ≤ 1000000) (w0 : World) : Ret Tryd.prog 50 [str s] w0 (fun _ => False) fun v _ => v = .bool (nameB s) := by
  refine enter Tryd.func50 rfl rfl (Wd.start w0) (fun a S => ?_)
  simp only [Tryd.ntmps50, List.length_cons, List.length_nil, Nat.reduceAdd, Nat.reduceSub, List.replicate_succ, List.replicate_zero, List.cons_append, List.nil_append] at S
  refine c_seq ?_
  refine c_region ?_
  refine sq S ?_; clear S; intro a S
  refine wl_nil ?_
  refine xtn ?_
  iterate 2 (refine c_seq ?_)
  refine c_region ?_
  refine sq S ?_; clear S; intro a S
  refine wl_nil ?_
  refine xtn ?_
  refine c_block ?_
  refine c_forb1 S (fun (k : Nat) uu => [(2, uu 2), (0, .int .i64 (k : Nat)), (0, uu 4), (0, uu 5), (0, uu 6), (0, uu 7), (0, uu 8), (0, uu 9), (0, uu 10), (0, uu 11), (0, uu 12), (0, uu 13), (0, uu 14), (0, uu 15), (0, uu 16), (0, uu 17), (0, uu 18), (0, uu 19)]) (fun (k : Nat) => k ≤ s.length ∧ ∀ j, j < k → chB (nthG s j) = true) (fun (k : Nat) => s.length - k) (0) ?_ S.uu ?_ ?_
  · exact ⟨Nat.zero_le _, fun j hj => by omega⟩
  · first | exact S | exact S.sub _ _
  · clear S; rintro k uu a w ⟨hk, hrel⟩ S
    iterate 2 (refine c_seq ?_)
    refine c_region ?_
    iterate 4 (refine sq S ?_; clear S; intro a S)
    refine wl_nil ?_
    refine xtn ?_
    refine c_cond S (fun h2 => ?_) (fun h2 => ?_)
    · refine c_skip ?_
      refine xtn ?_
      refine c_seq ?_
      refine c_block ?_
      refine c_seq ?_
      have hkl : k < s.length := by simp at h2; omega
      have hK : KLt k s.length := ⟨hkl⟩
      refine c_region ?_
      iterate 5 (refine sq S ?_; clear S; intro a S)
      iterate 4 (refine gQ S ?_; clear S; intro a S)
      refine sq S ?_; clear S; intro a S
      refine wl_nil ?_
      refine xtn ?_
      refine c_cond S (fun h4 => ?_) (fun h4 => ?_)
      · refine c_seq ?_
        refine c_region ?_
        refine sq S ?_; clear S; intro a S
        refine wl_nil ?_
        refine xtn ?_
        refine c_ret ?_
        refine xbr ?_
        iterate 2 (refine xtr ?_)
        refine xbr ?_
        refine xtr ?_
        refine end1 S (fun _ => ?_)
        have hbad : chB (nthG s k) = false := by
          simp only [Bool.or_eq_true, decide_eq_true_eq] at h4
          simp only [chB, Bool.and_eq_false_iff, decide_eq_false_iff_not]
          omega
        have hall : s.all chB = false := List.all_eq_false.2 ⟨nthG s k, nthG_mem hkl, by rw [hbad]; simp⟩
        rw [nameB, hall]; rfl
      · refine c_skip ?_
        refine xbn ?_
        refine xtn ?_
        refine c_region ?_
        iterate 3 (refine sq S ?_; clear S; intro a S)
        refine wl_nil ?_
        refine xtn ?_
        rw [w64 ((k : Int) + 1) (by omega) (by omega)] at S
        refine ⟨k + 1, S.uu, ⟨hkl, fun j hj => ?_⟩, S.sub _ _, by omega⟩
        rcases Nat.lt_or_ge j k with h | h
        · exact hrel j h
        · obtain rfl : j = k := by omega
          simp only [Bool.or_eq_false_iff, decide_eq_false_iff_not] at h4
          simp only [chB, Bool.and_eq_true, decide_eq_true_eq]
          omega
    · refine c_exit ?_
      iterate 2 (refine xte ?_)
      refine xbe ?_
      refine xtn ?_
      refine c_seq ?_
      refine c_region ?_
      iterate 4 (refine sq S ?_; clear S; intro a S)
      iterate 3 (refine gQ S ?_; clear S; intro a S)
      iterate 2 (refine sq S ?_; clear S; intro a S)
      refine wl_nil ?_
      refine xtn ?_
      refine c_ret ?_
      have hall : s.all chB = true := by
        refine List.all_eq_true.2 fun x hx => ?_
        obtain ⟨j, hj, rfl⟩ := List.getElem_of_mem hx
        have := hrel j (by simp at h2; omega)
        rwa [nthG_val hj] at this
      refine end1 S (fun _ => ?_)
      rw [nameB, hall, Bool.true_and]
      congr 1
      rw [Bool.eq_iff_iff]
      simp only [Bool.and_eq_true, decide_eq_true_eq]
      omega
end Go.Proofs.YtieeoakdkbackaaDoor

/- The reference's Number, Unlist, List. -/
namespace Go.Proofs.YtieeoakdkbackaaDoor
open Go Go.Wk
set_option synthInstance.maxSize 100000
set_option synthInstance.maxHeartbeats 400000
set_option maxRecDepth 100000

theorem text_of {t : LTerm} {s : List UInt8} (h : t.t = textT s) : t.kind = 1 ∧ t.text = s ∧ t.t = textT t.text := by
  have h0 := h
  rw [t.t_eq] at h
  simp only [textT, Term.mk.injEq] at h
  exact ⟨h.1, h.2.2.2.1, by rw [h.2.2.2.1]; exact h0⟩
def isD (c : UInt8) : Prop := 48 ≤ c.toNat ∧ c.toNat ≤ 57
theorem val_take {s : List UInt8} {k : Nat} (h : k < s.length) : valF (s.take (k + 1)) 0 = 10 * valF (s.take k) 0 + ((nthG s k).toNat - 48) := by
  rw [nthG_take h, valF_append]; rfl
theorem val_pre (s : List UInt8) (k : Nat) : valF (s.take k) 0 ≤ valF s 0 := by
  have e : valF s 0 = valF (s.drop k) (valF (s.take k) 0) := by rw [← valF_append, List.take_append_drop]
  rw [e]; exact valF_le _ _
theorem num_text {t : LTerm} {m most : Int} (h : t.t = textT (Lib.itoa m)) (h0 : 0 ≤ m) (h1 : m ≤ most) (hm : most ≤ 65535) :
    t.kind = 1 ∧ 1 ≤ t.text.length ∧ t.text.length ≤ 19 ∧ sameF t.t (textL t.text).t = true ∧ t.text = Lib.itoa m ∧ (valF t.text 0 : Int) = m ∧ ∀ k, k < t.text.length → isD (nthG t.text k) := by
  obtain ⟨e1, e2, e3⟩ := text_of h
  have e4 := itoa_dec h0
  obtain ⟨v1, v2⟩ := val_dec _ m.toNat (Nat.le_refl _)
  have hl := dec_len 4 m.toNat (by omega)
  obtain ⟨c, r, hd, -, -⟩ := dec_head _ m.toNat (Nat.le_refl _)
  refine ⟨e1, by rw [e2, e4, hd]; simp, by rw [e2, e4]; omega, (sameF_iff _ _).2 e3, e2, by rw [e2, e4, v1]; omega, fun k hk => ?_⟩
  have := nthG_mem hk
  rw [e2, e4] at this
  have h2 := v2 _ this
  rw [e2, e4]; exact h2
theorem rnumber_c (t : LTerm) (most : Int) (hm : most ≤ 65535) (hlo : -9223372036854775808 ≤ most) (w0 : World) (hf : Stable (fun _ => False) w0 (LtF t)) :
    Ret Tryd.prog 45 [vL t, .int .i64 most] w0 (fun _ => False) fun v _ => ∃ (n : Int) (b : Bool), v = .tuple ⟨[.int .i64 n, .bool b]⟩ ∧ (b = true → (0 ≤ n ∧ n ≤ most) ∧ t.t = textT (Lib.itoa n)) ∧ (b = false → n = 0 ∧ ∀ m, 0 ≤ m → m ≤ most → t.t ≠ textT (Lib.itoa m)) := by
  refine enter Tryd.func45 rfl rfl (Wd.begin (fs := [LtF t]) (by simpa using hf)) (fun a S => ?_)
  simp only [Tryd.ntmps45, List.length_cons, List.length_nil, Nat.reduceAdd, Nat.reduceSub, List.replicate_succ, List.replicate_zero, List.cons_append, List.nil_append] at S
  refine c_seq ?_
  refine c_region ?_
  refine sa S ?_; clear S; intro b2 a w S
  iterate 2 (refine sq S ?_; clear S; intro a S)
  refine wl_nil ?_
  refine xtn ?_
  iterate 2 (refine c_seq ?_)
  refine c_drawD [(0, true), (1, true), (2, true), (3, true), (4, true), (5, true), (6, true), (7, true), (8, true), (9, true), (10, true), (11, true), (12, true), (13, true), (14, true), (15, true), (16, true), (17, true), (18, true), (19, true), (20, true), (21, true), (22, true), (23, false), (24, false), (25, true), (26, true)] [] S ?_; clear S; intro w S
  iterate 4 (refine dq S ?_; clear S; intro a S)
  iterate 2 (refine dqG S ?_; clear S; intro a S)
  iterate 2 (refine dq S ?_; clear S; intro a S)
  iterate 4 (refine dqG S ?_; clear S; intro a S)
  iterate 2 (refine dq S ?_; clear S; intro a S)
  iterate 4 (refine dqG S ?_; clear S; intro a S)
  iterate 2 (refine dq S ?_; clear S; intro a S)
  iterate 3 (refine dqG S ?_; clear S; intro a S)
  refine dl ?_
  refine gC S ?_; clear S; intro a w S
  refine de S ?_
  refine dl ?_
  refine gC S ?_; clear S; intro a w S
  refine de S ?_
  refine dqG S ?_; clear S; intro a S
  refine dq S ?_; clear S; intro a S
  refine dn ?_
  refine xtn ?_
  refine c_cond S (fun h1 => ?_) (fun h1 => ?_)
  · refine c_seq ?_
    refine c_region ?_
    iterate 2 (refine sq S ?_; clear S; intro a S)
    refine wl_nil ?_
    refine xtn ?_
    refine c_ret ?_
    refine xtr ?_
    refine end2 S (fun _ => ?_)
    refine ⟨0, false, rfl, nofun, fun _ => ⟨rfl, fun m h0 h2 he => ?_⟩⟩
    obtain ⟨a1, a2, a3, a4, -, -, -⟩ := num_text he h0 h2 hm
    simp [a1, a4] at h1
    omega
  · refine c_skip ?_
    refine xtn ?_
    refine c_seq ?_
    simp only [Bool.or_eq_false_iff, decide_eq_false_iff_not, Bool.not_eq_false'] at h1
    have hmost : 0 ≤ most := by omega
    have hln : t.text.length ≤ 19 := by omega
    have hsm : t.t = textT t.text := (sameF_iff _ _).1 h1.2
    refine c_region ?_
    refine sq S ?_; clear S; intro a S
    refine wl_nil ?_
    refine xtn ?_
    iterate 2 (refine c_seq ?_)
    refine c_region ?_
    refine sq S ?_; clear S; intro a S
    refine wl_nil ?_
    refine xtn ?_
    refine c_block ?_
    refine c_forb1 S (fun (k : Nat) uu => [(4, uu 4), (0, uu 5), (0, .int .i64 ((valF (t.text.take k) 0 : Nat) : Int)), (0, .int .i64 (k : Nat)), (0, uu 8), (27, uu 36), (0, uu 37), (0, uu 38), (0, uu 39), (0, uu 40), (0, uu 41), (0, uu 42), (0, uu 43), (0, uu 44), (0, uu 45), (0, uu 46), (0, uu 47), (0, uu 48), (0, uu 49), (0, uu 50), (0, uu 51), (0, uu 52), (0, uu 53), (0, uu 54), (0, uu 55), (0, uu 56), (0, uu 57), (0, uu 58), (0, uu 59), (0, uu 60), (0, uu 61), (0, uu 62), (0, uu 63), (0, uu 64), (0, uu 65), (0, uu 66), (0, uu 67), (0, uu 68), (0, uu 69), (0, uu 70), (0, uu 71), (0, uu 72), (0, uu 73), (0, uu 74), (0, uu 75)]) (fun (k : Nat) => k ≤ t.text.length ∧ ((valF (t.text.take k) 0 : Nat) : Int) ≤ most) (fun (k : Nat) => t.text.length - k) (0) ?_ S.uu ?_ ?_
    · exact ⟨Nat.zero_le _, by show (0 : Int) ≤ most; omega⟩
    · first | exact S | exact S.sub _ _
    · clear S; rintro k uu a w ⟨hk, hval⟩ S
      iterate 2 (refine c_seq ?_)
      refine c_region ?_
      iterate 5 (refine sq S ?_; clear S; intro a S)
      refine wl_nil ?_
      refine xtn ?_
      refine c_cond S (fun h5 => ?_) (fun h5 => ?_)
      · refine c_skip ?_
        refine xtn ?_
        refine c_seq ?_
        refine c_block ?_
        iterate 2 (refine c_seq ?_)
        have hkl : k < t.text.length := by simp at h5; omega
        have hK : KLt k t.text.length := ⟨hkl⟩
        refine c_region ?_
        iterate 6 (refine sq S ?_; clear S; intro a S)
        iterate 5 (refine gQ S ?_; clear S; intro a S)
        refine sq S ?_; clear S; intro a S
        refine wl_nil ?_
        refine xtn ?_
        refine c_cond S (fun h7 => ?_) (fun h7 => ?_)
        · refine c_seq ?_
          refine c_region ?_
          iterate 2 (refine sq S ?_; clear S; intro a S)
          refine wl_nil ?_
          refine xtn ?_
          refine c_ret ?_
          refine xtr ?_
          refine xbr ?_
          iterate 2 (refine xtr ?_)
          refine xbr ?_
          refine xtr ?_
          refine end2 S (fun _ => ?_)
          refine ⟨0, false, rfl, nofun, fun _ => ⟨rfl, fun m h0 h2 he => ?_⟩⟩
          obtain ⟨-, -, -, -, -, -, a7⟩ := num_text he h0 h2 hm
          have := a7 k hkl
          simp only [Bool.or_eq_true, decide_eq_true_eq, isD] at h7 this
          omega
        · refine c_skip ?_
          refine xtn ?_
          refine c_seq ?_
          have hdig : 48 ≤ (nthG t.text k).toNat ∧ (nthG t.text k).toNat ≤ 57 := by
            simp only [Bool.or_eq_false_iff, decide_eq_false_iff_not] at h7; omega
          have hvt := val_take hkl
          refine c_region ?_
          iterate 5 (refine sq S ?_; clear S; intro a S)
          rw [show IntKind.u8.wrap (((nthG t.text k).toNat : Int) - 48) = (((nthG t.text k).toNat - 48 : Nat) : Int) from by rw [u8_wrap, show ((nthG t.text k).toNat : Int) - 48 = (((nthG t.text k).toNat - 48 : Nat) : Int) from by omega]; simp [Wk.u8]; omega] at S
          refine sq S ?_; clear S; intro a S
          rw [w64 _ (by omega) (by omega)] at S
          generalize hd : (nthG t.text k).toNat - 48 = dg at S hvt
          refine sq S ?_; clear S; intro a S
          refine wl_nil ?_
          refine xtn ?_
          iterate 2 (refine c_seq ?_)
          have hd9 : dg ≤ 9 := by omega
          have e0 : IntKind.i64.wrap (most - (dg : Int)) = most - dg := w64 _ (by omega) (by omega)
          have e1 : ¬ most < (dg : Int) → IntKind.i64.wrap ((IntKind.i64.wrap (most - (dg : Int))).tdiv 10) = (most - dg) / 10 := fun h => by
            rw [e0, Int.tdiv_eq_ediv_of_nonneg (by omega), w64 _ (by omega) (by omega)]
          refine c_region ?_
          iterate 4 (refine sq S ?_; clear S; intro a S)
          iterate 6 (refine gQ S ?_; clear S; intro a S)
          refine sq S ?_; clear S; intro a S
          refine wl_nil ?_
          refine xtn ?_
          refine c_cond S (fun h10 => ?_) (fun h10 => ?_)
          · refine c_seq ?_
            refine c_region ?_
            iterate 2 (refine sq S ?_; clear S; intro a S)
            refine wl_nil ?_
            refine xtn ?_
            refine c_ret ?_
            refine xtr ?_
            refine xbr ?_
            iterate 2 (refine xtr ?_)
            refine xbr ?_
            refine xtr ?_
            refine end2 S (fun _ => ?_)
            refine ⟨0, false, rfl, nofun, fun _ => ⟨rfl, fun m h0 h2 he => ?_⟩⟩
            obtain ⟨-, -, -, -, -, a6, -⟩ := num_text he h0 h2 hm
            have := val_pre t.text (k + 1)
            simp only [Bool.or_eq_true, decide_eq_true_eq] at h10
            by_cases hmd : most < (dg : Int)
            · omega
            · rcases h10 with h10 | h10
              · omega
              · rw [e1 hmd] at h10; omega
          · refine c_skip ?_
            refine xtn ?_
            refine c_region ?_
            refine sq S ?_; clear S; intro a S
            have hok : 10 * ((valF (t.text.take k) 0 : Nat) : Int) + dg ≤ most := by
              simp only [Bool.or_eq_false_iff, decide_eq_false_iff_not] at h10
              have := e1 h10.1
              rw [this] at h10
              omega
            refine sq S ?_; clear S; intro a S
            rw [w64 (10 * ((valF (t.text.take k) 0 : Nat) : Int)) (by omega) (by omega)] at S
            iterate 2 (refine sq S ?_; clear S; intro a S)
            rw [w64 (10 * ((valF (t.text.take k) 0 : Nat) : Int) + (dg : Int)) (by omega) (by omega), show 10 * ((valF (t.text.take k) 0 : Nat) : Int) + (dg : Int) = ((valF (t.text.take (k + 1)) 0 : Nat) : Int) from by omega] at S
            refine sq S ?_; clear S; intro a S
            refine wl_nil ?_
            refine xbn ?_
            refine xtn ?_
            refine c_region ?_
            iterate 3 (refine sq S ?_; clear S; intro a S)
            refine wl_nil ?_
            refine xtn ?_
            rw [w64 ((k : Int) + 1) (by omega) (by omega)] at S
            exact ⟨k + 1, S.uu, ⟨hkl, by omega⟩, S.sub _ _, by omega⟩
      · refine c_exit ?_
        iterate 2 (refine xte ?_)
        refine xbe ?_
        refine xtn ?_
        iterate 2 (refine c_seq ?_)
        have hkl : k = t.text.length := by simp at h5; omega
        subst hkl
        rw [List.take_length] at S hval
        refine c_drawD [(0, true), (2, true), (3, true), (1, false), (4, true)] [] S ?_; clear S; intro w S
        iterate 3 (refine dq S ?_; clear S; intro a S)
        refine dl ?_
        refine sr S (rdigits_c ((valF t.text 0 : Nat) : Int) _ (by omega)) ?_; clear S; rintro _ a w rfl S
        rw [show max ((valF t.text 0 : Nat) : Int) 0 = ((valF t.text 0 : Nat) : Int) from by omega] at S
        refine de S ?_
        refine dq S ?_; clear S; intro a S
        refine dn ?_
        refine xtn ?_
        refine c_cond S (fun h13 => ?_) (fun h13 => ?_)
        · refine c_seq ?_
          refine c_region ?_
          iterate 2 (refine sq S ?_; clear S; intro a S)
          refine wl_nil ?_
          refine xtn ?_
          refine c_ret ?_
          refine xtr ?_
          refine end2 S (fun _ => ?_)
          refine ⟨0, false, rfl, nofun, fun _ => ⟨rfl, fun m h0 h2 he => ?_⟩⟩
          obtain ⟨-, -, -, -, a5, a6, -⟩ := num_text he h0 h2 hm
          rw [a6, a5] at h13
          simp at h13
        · refine c_skip ?_
          refine xtn ?_
          refine c_seq ?_
          refine c_region ?_
          iterate 3 (refine sq S ?_; clear S; intro a S)
          refine wl_nil ?_
          refine xtn ?_
          refine c_ret ?_
          refine end2 S (fun _ => ?_)
          refine ⟨((valF t.text 0 : Nat) : Int), true, rfl, fun _ => ⟨⟨by omega, hval⟩, ?_⟩, nofun⟩
          have : Lib.itoa ((valF t.text 0 : Nat) : Int) = t.text := by simpa using h13
          rw [this]; exact hsm
end Go.Proofs.YtieeoakdkbackaaDoor

/- The reference's Unlist, List. -/
namespace Go.Proofs.YtieeoakdkbackaaDoor
open Go Go.Wk
set_option synthInstance.maxSize 100000
set_option synthInstance.maxHeartbeats 400000
set_option maxRecDepth 100000

theorem rlist_c (xs : List LTerm) (p : Option Addr) (c : Nat) (M : Nat → Prop) (w0 : World) (hl : xs.length ≤ 1000000) (hM : ∀ k, M k → k < w0.heap.size) (hx : Stable M w0 (LsF p 0 xs)) : Ret Tryd.prog 54 [.slice p xs.length c] w0 (fun _ => False) fun v w' => IsT M w' v (listT (xs.map LTerm.t)) := by
  refine enter Tryd.func54 rfl rfl (Wd.beginM (M := M) (fs := [LsF p 0 xs]) hM (by simpa using hx)) (fun a S => ?_)
  simp only [Tryd.ntmps54, List.length_cons, List.length_nil, Nat.reduceAdd, Nat.reduceSub, List.replicate_succ, List.replicate_zero, List.cons_append, List.nil_append] at S
  refine c_seq ?_
  refine c_region ?_
  refine sa S ?_; clear S; intro b2 a w S
  refine wl_nil ?_
  refine xtn ?_
  refine c_seq ?_
  refine c_region ?_
  refine sc S ?_; clear S; intro a w S
  refine sa S ?_; clear S; intro b3 a w S
  refine sw S ?_; clear S; intro a w S
  refine wl_nil ?_
  refine xtn ?_
  iterate 2 (refine c_seq ?_)
  refine c_region ?_
  iterate 3 (refine sq S ?_; clear S; intro a S)
  rw [w64 ((xs.length : Int) - 1) (by omega) (by omega)] at S
  refine sq S ?_; clear S; intro a S
  refine wl_nil ?_
  refine xtn ?_
  refine c_block ?_
  replace S := S.add (Φ := LtF (textL [])) (fun _ _ => by simp [LtIn, textL, LsIn, LtF])
  rw [show (xs.length : Int) - 1 = (xs.length : Int) - 1 - ((0 : Nat) : Int) from by omega] at S
  refine c_fore2 S (fun (j : Nat) (x : LTerm) uu => [(4, .int .i64 ((xs.length : Int) - 1 - (j : Nat))), (4, uu 9), (0, uu 10), (0, uu 11), (0, uu 12), (0, uu 13), (0, uu 14), (0, uu 15), (0, uu 16), (0, uu 17), (0, uu 18)]) (fun (j : Nat) (x : LTerm) => [Wk.box b3 24 x.cells, Wk.box b2 24 [.int .i64 0, .int .i64 0, .int .i64 0, .string ⟨#[]⟩, .slice none 0 0], ext M]) (fun (j : Nat) (x : LTerm) => [LtF x, LsF p 0 xs]) (fun (j : Nat) (x : LTerm) => j ≤ xs.length ∧ x.t = listT ((xs.map LTerm.t).drop (xs.length - j))) (fun (j : Nat) (x : LTerm) => xs.length - j) (0) (textL []) ?_ S.uu ?_ ?_
  · exact ⟨Nat.zero_le _, by rw [Nat.sub_zero, List.drop_of_length_le (by simp)]; rfl⟩
  · exact S.sub _ _
  · clear S; rintro j x uu a w ⟨hj, hrel⟩ S
    iterate 2 (refine c_seq ?_)
    refine c_region ?_
    iterate 2 (refine sq S ?_; clear S; intro a S)
    refine wl_nil ?_
    refine xtn ?_
    refine c_cond S (fun h3 => ?_) (fun h3 => ?_)
    · refine c_skip ?_
      refine xtn ?_
      refine c_seq ?_
      refine c_block ?_
      have hjl : j < xs.length := by simp at h3; omega
      have hK : KLt (xs.length - 1 - j) xs.length := ⟨by omega⟩
      rw [show (xs.length : Int) - 1 - (j : Nat) = ((xs.length - 1 - j : Nat) : Int) from by omega] at S
      refine c_drwe1 (.q 0 (.q 1 (.q 2 (.q 3 (.l 4 (.l 5 (.l 6 (.e)))))))) S (fun (y : LTerm) uu => [(13, uu 13), (0, uu 14), (0, uu 15), (0, uu 16), (0, uu 17), (0, uu 18)]) [Wk.box b2 24 [.int .i64 0, .int .i64 0, .int .i64 0, .string ⟨#[]⟩, .slice none 0 0], ext M] (fun (y : LTerm) => [Wk.box b3 24 y.cells, Wk.box b2 24 [.int .i64 0, .int .i64 0, .int .i64 0, .string ⟨#[]⟩, .slice none 0 0], ext M]) (fun (y : LTerm) => [LtF y, LsF p 0 xs]) (fun (y : LTerm) => y.t = .pair (nthL xs (xs.length - 1 - j)).t x.t) ?_ ?_
      · intro w S
        iterate 4 (refine tq S ?_; clear S; intro a S)
        refine tl ?_
        refine sq S ?_; clear S; intro a S
        refine te S ?_
        refine tl ?_
        refine sr S (rpair_c (nthL xs (xs.length - 1 - j)) x _ w (foots_lt S) (S.t _) (S.t _)) ?_; clear S; rintro _ a w ⟨r, rfl, hr, hrf⟩ S
        replace S := S.add hrf
        refine te S ?_
        refine tl ?_
        refine sw S ?_; clear S; intro a w S
        refine te S ?_
        refine tn ?_
        exact ⟨r, S.uu, hr, S.sub _ _⟩
      clear S; rintro y uu a w hr S
      refine xbn ?_
      refine xtn ?_
      refine c_region ?_
      iterate 2 (refine sq S ?_; clear S; intro a S)
      rw [w64 _ (by omega) (by omega), show ((xs.length - 1 - j : Nat) : Int) - 1 = (xs.length : Int) - 1 - ((j + 1 : Nat) : Int) from by omega] at S
      refine sq S ?_; clear S; intro a S
      refine wl_nil ?_
      refine xtn ?_
      refine ⟨j + 1, y, S.uu, ⟨hjl, ?_⟩, S.sub _ _, by omega⟩
      rw [hr, hrel, show xs.length - j = xs.length - (j + 1) + 1 from by omega]
      have h5 : xs.length - (j + 1) < (xs.map LTerm.t).length := by simp; omega
      rw [List.drop_eq_getElem_cons h5, listT]
      simp [nthL, show xs.length - 1 - j = xs.length - (j + 1) from by omega, show xs.length - (j + 1) < xs.length from by omega]
    · refine c_exit ?_
      iterate 2 (refine xte ?_)
      refine xbe ?_
      refine xtn ?_
      refine c_seq ?_
      refine c_region ?_
      refine sq S ?_; clear S; intro a S
      refine sw S ?_; clear S; intro a w S
      refine wl_nil ?_
      refine xtn ?_
      refine c_ret ?_
      have hjl : j = xs.length := by simp at h3; omega
      rw [hjl, Nat.sub_self, List.drop_zero] at hrel
      have hlat := S.laterT (M := M) x
      refine end1 S (fun _ => ?_)
      exact ⟨x, rfl, hrel, hlat⟩
mutual
theorem dpt_cnt : ∀ t : Term, dpt t ≤ cnt t
  | .mk k u n s ks => by have := dpt_cntL ks; rw [dpt, cnt]; omega
theorem dpt_cntL : ∀ ts : List Term, dptL ts ≤ cntL ts
  | [] => by simp [dptL]
  | t :: ts => by have := dpt_cnt t; have := dpt_cntL ts; rw [dptL, cntL]; omega
end
theorem good_dpt {t : Term} (h : Good t) : dpt t ≤ 1200 := Nat.le_trans (dpt_cnt t) (good_le h)
theorem dpt_kid {t : LTerm} {k : Nat} (h : k < t.kids.length) : dpt (nthL t.kids k).t + 1 ≤ dpt t.t := by
  rw [t.t_eq, dpt]
  have := dptL_le.1 (Nat.le_refl (dptL (t.kids.map LTerm.t))) (nthL t.kids k).t (List.mem_map.2 ⟨_, nth_mem h, rfl⟩)
  omega
def UnR (M : Nat → Prop) (t : Term) (v : Value) (w : World) : Prop := ∃ (p : Option Addr) (c : Nat) (os : List LTerm) (b : Bool), v = .tuple ⟨[.slice p os.length c, .bool b]⟩ ∧ Stable M w (LsF p 0 os) ∧ os.length + 1 ≤ dpt t ∧ (Good t → (b = true → t = listT (os.map LTerm.t)) ∧ (b = false → os = [] ∧ ∀ l, t ≠ listT l))
theorem dpt_pos (t : Term) : 1 ≤ dpt t := by cases t; rw [dpt]; omega
theorem runlist_all (N : Nat) : ∀ (t : LTerm) (M : Nat → Prop) (w0 : World), SizeOf.sizeOf t < N → dpt t.t ≤ 100000 → (∀ k, M k → k < w0.heap.size) → Stable M w0 (LtF t) →
    Ret Tryd.prog 44 [vL t] w0 (fun _ => False) fun v w' => UnR M t.t v w' := by
  induction N with
  | zero => intro t _ _ h; omega
  | succ N ih =>
  intro t M w0 hN hd hM hf
  have hdp := dpt_pos t.t
  refine enter Tryd.func44 rfl rfl (Wd.beginM (M := M) (fs := [LtF t]) hM (by simpa using hf)) (fun a S => ?_)
  simp only [Tryd.ntmps44, List.length_cons, List.length_nil, Nat.reduceAdd, Nat.reduceSub, List.replicate_succ, List.replicate_zero, List.cons_append, List.nil_append] at S
  refine c_seq ?_
  refine c_region ?_
  refine sa S ?_; clear S; intro b1 a w S
  iterate 2 (refine sq S ?_; clear S; intro a S)
  refine wl_nil ?_
  refine xtn ?_
  iterate 2 (refine c_seq ?_)
  refine c_region ?_
  iterate 4 (refine sq S ?_; clear S; intro a S)
  iterate 3 (refine gQ S ?_; clear S; intro a S)
  refine sq S ?_; clear S; intro a S
  refine wl_nil ?_
  refine xtn ?_
  refine c_cond S (fun h1 => ?_) (fun h1 => ?_)
  · refine c_seq ?_
    refine c_region ?_
    iterate 2 (refine sq S ?_; clear S; intro a S)
    refine wl_nil ?_
    refine xtn ?_
    refine c_ret ?_
    refine xtr ?_
    have hk : t.kind = 1 ∧ t.text = [] := by simpa using h1
    have ht : Good t.t → t.t = textT [] := fun hg => by
      rw [t.t_eq] at hg ⊢
      have hp := plain_shape (goodP hg)
      rw [hk.1] at hp
      rcases hp with q | q | q | q | q | q | q
      · obtain ⟨-, q1, q2, -, q3⟩ := q
        rw [hk.1, hk.2, q1, q2, List.eq_nil_of_length_eq_zero q3]; rfl
      all_goals omega
    refine end2 S (fun _ => ?_)
    exact ⟨none, 0, [], true, rfl, fun w' _ => by simp [LsF, LsIn], by simp; omega, fun hg => ⟨fun _ => ht hg, nofun⟩⟩
  · refine c_skip ?_
    refine xtn ?_
    iterate 2 (refine c_seq ?_)
    refine c_region ?_
    iterate 4 (refine sq S ?_; clear S; intro a S)
    iterate 4 (refine gQ S ?_; clear S; intro a S)
    refine sq S ?_; clear S; intro a S
    refine wl_nil ?_
    refine xtn ?_
    refine c_cond S (fun h3 => ?_) (fun h3 => ?_)
    · refine c_seq ?_
      refine c_region ?_
      iterate 2 (refine sq S ?_; clear S; intro a S)
      refine wl_nil ?_
      refine xtn ?_
      refine c_ret ?_
      refine xtr ?_
      refine end2 S (fun _ => ?_)
      refine ⟨none, 0, [], false, rfl, fun w' _ => by simp [LsF, LsIn], by simp; omega, fun _ => ⟨nofun, fun _ => ⟨rfl, fun l he => ?_⟩⟩⟩
      cases l with
      | nil => exact absurd (text_of he) (fun q => by simp [q.1, q.2.1] at h1)
      | cons x l =>
        rw [t.t_eq] at he
        simp only [listT, Term.pair, Term.mk.injEq] at he
        have := congrArg List.length he.2.2.2.2
        simp at this
        simp [he.1, this] at h3
    · refine c_skip ?_
      refine xtn ?_
      refine c_seq ?_
      have hk : t.kind = 4 ∧ t.kids.length = 2 := by simp at h3; omega
      have hK0 : KLt 0 t.kids.length := ⟨by omega⟩
      have hK1 : KLt 1 t.kids.length := ⟨by omega⟩
      have hd1 := dpt_kid (t := t) (k := 1) (by omega)
      have hpr : Good t.t → Good (nthL t.kids 1).t ∧ t.t = .pair (nthL t.kids 0).t (nthL t.kids 1).t := fun hg => by
        obtain ⟨-, hpr⟩ := good_pr hg hk.1
        exact ⟨by rw [hpr] at hg; exact good_kid hg (by simp), hpr⟩
      refine c_region ?_
      iterate 4 (refine sq S ?_; clear S; intro a S)
      refine sr S (ih (nthL t.kids 1) _ w (by have := LTerm.kid_lt (nth_mem (show 1 < t.kids.length by omega)); omega) (by omega) (foots_lt S) (S.t _)) ?_; clear S; rintro _ a w ⟨p, c, us, b, rfl, hus, hul, hb⟩ S
      replace S := S.add hus
      iterate 5 (refine sq S ?_; clear S; intro a S)
      refine wl_nil ?_
      refine xtn ?_
      iterate 2 (refine c_seq ?_)
      refine c_region ?_
      iterate 2 (refine sq S ?_; clear S; intro a S)
      refine wl_nil ?_
      refine xtn ?_
      refine c_cond S (fun h6 => ?_) (fun h6 => ?_)
      · refine c_seq ?_
        refine c_region ?_
        iterate 2 (refine sq S ?_; clear S; intro a S)
        refine wl_nil ?_
        refine xtn ?_
        refine c_ret ?_
        refine xtr ?_
        have hbf : b = false := by simpa using h6
        refine end2 S (fun _ => ?_)
        refine ⟨none, 0, [], false, rfl, fun w' _ => by simp [LsF, LsIn], by simp; omega, fun hg => ⟨nofun, fun _ => ⟨rfl, fun l he => ?_⟩⟩⟩
        obtain ⟨hg1, hpr⟩ := hpr hg
        cases l with
        | nil => exact absurd (text_of he).1 (by omega)
        | cons x l =>
          rw [hpr] at he
          simp only [listT, Term.pair, Term.mk.injEq, List.cons.injEq, and_true, true_and] at he
          exact ((hb hg1).2 hbf).2 l he.2
      · refine c_skip ?_
        refine xtn ?_
        refine c_seq ?_
        refine c_region ?_
        iterate 4 (refine sq S ?_; clear S; intro a S)
        refine sn S ?_; clear S; intro b39 a w S
        refine sq S ?_; clear S; intro a S
        refine wl_nil ?_
        refine xtn ?_
        iterate 2 (refine c_seq ?_)
        refine c_region ?_
        refine sq S ?_; clear S; intro a S
        refine wl_nil ?_
        refine xtn ?_
        refine c_block ?_
        have hbt : b = true := by simpa using h6
        replace S := S.boxRow b39 5 1 rfl (by simp [maxLen])
        rw [show ([Value.int .i64 (nthL t.kids 0).kind, .int .i64 (nthL t.kids 0).user, .int .i64 (nthL t.kids 0).num, str (nthL t.kids 0).text, .slice (nthL t.kids 0).p (nthL t.kids 0).kids.length (nthL t.kids 0).cap] : List Value) = encL [nthL t.kids 0] from by simp [encL, Enc.cells, LTerm.cells]] at S
        refine c_fore4 S (fun (k : Nat) (os : List LTerm) (po : Option Addr) (co : Nat) uu => [(6, .slice po os.length co), (0, .int .i64 (k : Nat)), (32, uu 40), (0, uu 41), (0, uu 42), (0, uu 43), (0, uu 44), (0, uu 45), (0, uu 46), (0, uu 47), (0, uu 48), (0, uu 49), (0, uu 50), (0, uu 51), (0, uu 52)]) (fun (k : Nat) (os : List LTerm) (po : Option Addr) (co : Nat) => [Wk.row 24 5 po os.length co (encL os), Wk.box b1 24 t.cells, ext M]) (fun (k : Nat) (os : List LTerm) (po : Option Addr) (co : Nat) => [AllI os, LsF p 0 us, LtF t]) (fun (k : Nat) (os : List LTerm) (po : Option Addr) (co : Nat) => k ≤ us.length ∧ os = nthL t.kids 0 :: us.take k) (fun (k : Nat) (os : List LTerm) (po : Option Addr) (co : Nat) => us.length - k) (0) ([nthL t.kids 0]) (some ⟨b39, 0, none⟩) (1) ?_ S.uu ?_ ?_
        · exact ⟨Nat.zero_le _, rfl⟩
        · have h1t := S.t (nthL t.kids 0)
          exact (S.add (Φ := AllI (α := LTerm) [nthL t.kids 0]) (fun w' hw' x hx => by obtain rfl := List.mem_singleton.1 hx; exact h1t w' hw')).sub _ _
        · clear S; rintro k os po co uu a w ⟨hk2, hos⟩ S
          iterate 2 (refine c_seq ?_)
          refine c_region ?_
          iterate 4 (refine sq S ?_; clear S; intro a S)
          refine wl_nil ?_
          refine xtn ?_
          refine c_cond S (fun h10 => ?_) (fun h10 => ?_)
          · refine c_skip ?_
            refine xtn ?_
            refine c_seq ?_
            refine c_block ?_
            have hkl : k < us.length := by simp at h10; omega
            have hKu : KLt k us.length := ⟨hkl⟩
            have hol : os.length = k + 1 := by rw [hos]; simp; omega
            refine c_region ?_
            iterate 5 (refine sq S ?_; clear S; intro a S)
            refine sn S ?_; clear S; intro b51 a w S
            refine sap S (by simp [maxLen]; omega) (by omega) ?_; clear S; rintro p12 c12 a w - S
            rw [show encL os ++ [Value.int .i64 (nthL us k).kind, .int .i64 (nthL us k).user, .int .i64 (nthL us k).num, str (nthL us k).text, .slice (nthL us k).p (nthL us k).kids.length (nthL us k).cap] = encL (os ++ [nthL us k]) from by rw [encL_append]; simp [encL, Enc.cells, LTerm.cells], show os.length + 1 = (os ++ [nthL us k]).length from by simp] at S
            refine sq S ?_; clear S; intro a S
            refine wl_nil ?_
            refine xbn ?_
            refine xtn ?_
            refine c_region ?_
            iterate 3 (refine sq S ?_; clear S; intro a S)
            refine wl_nil ?_
            refine xtn ?_
            rw [w64 ((k : Int) + 1) (by omega) (by omega)] at S
            have h1 := S.wd.facts (AllI os) (by simp)
            have h2 := S.t (nthL us k)
            replace S := S.add (AllI.snoc (r := nthL us k) h1 h2)
            refine ⟨k + 1, os ++ [nthL us k], p12, c12, S.uu, ⟨hkl, ?_⟩, S.sub _ _, by omega⟩
            rw [hos, List.cons_append]
            congr 1
            exact (nthG_take hkl).symm
          · refine c_exit ?_
            iterate 2 (refine xte ?_)
            refine xbe ?_
            refine xtn ?_
            refine c_seq ?_
            refine c_region ?_
            iterate 3 (refine sq S ?_; clear S; intro a S)
            refine wl_nil ?_
            refine xtn ?_
            refine c_ret ?_
            have hkl : k = us.length := by simp at h10; omega
            rw [hkl, List.take_length] at hos
            have hrow := S.row po os.length
            have hnew := S.rowNew po os.length
            have hall := S.laterFact (Φ := AllI os) (by simp)
            refine end2 S (fun _ => ?_)
            refine ⟨po, co, os, true, rfl, ?_, by rw [hos]; simp; omega, fun hg => ⟨fun _ => ?_, nofun⟩⟩
            · exact (gl_own hrow hall (fun ad h hm => (hnew ad h).elim (fun h => h.elim) (fun h2 => by have := hM _ hm; omega))).imp fun _ h => gl_ls h
            · obtain ⟨hg1, hpr⟩ := hpr hg
              rw [hpr, (hb hg1).1 hbt, hos]; rfl
theorem runlist_c (t : LTerm) (hd : dpt t.t ≤ 100000) (M : Nat → Prop) (w0 : World) (hM : ∀ k, M k → k < w0.heap.size) (hf : Stable M w0 (LtF t)) :
    Ret Tryd.prog 44 [vL t] w0 (fun _ => False) fun v w' => UnR M t.t v w' := runlist_all _ t M w0 (Nat.lt_succ_self _) hd hM hf
end Go.Proofs.YtieeoakdkbackaaDoor

/- A guarded call that makes a term. -/
namespace Go.Wk
open Go
section
variable {P : Program} {r : Option Nat} {ops : Array Oper} {Q : Exit → Act → World → Prop} {w0 : World} {M0 : Nat → Prop} {ds : List Deferred} {a : Act} {w : World} {l : List Value} {bs : List Item} {fs : List (World → Prop)}
  {d : Option Nat} {ty : TypeId} {pos : String} {af : Array Edge} {rest : List Oper} {G : Value} {f : Nat} {x : Operand} {xs : List Operand} {args : List Value} {ts : Array TypeId} {j g : Nat} {pol : Bool} {cs : List Bool}
theorem gCT {T : Term} {l' : LTerm → List Value} {v' : LTerm → Value} [hg : GSlot ops j g] [hn : Nth l g G] [hc : Conds G pol cs] [EntF P f] [he : CallTo ⟨cs, l⟩ x xs f args] [hv : ∀ q, GifV cs (vL q) (v' q)] [hp : ∀ q, PutO l d (v' q) (l' q)] (S : St w0 M0 ds a w l bs fs)
    (hcall : (∀ c ∈ cs, c = true) → Ret P f args w (fun _ => False) fun v w' => IsT (foots bs) w' v T)
    (K : ∀ q a w', ((∀ c ∈ cs, c = true) → q.t = T) → Stable (foots bs) w' (LtF q) → St w0 M0 ds a w' (l' q) bs fs → WL P r ops Q rest a w') : WL P r ops Q (⟨d, .call { callee := .value x, args := xs.toArray, argTypes := ts }, ty, pos, af, some (j, pol)⟩ :: rest) a w := by
  have hw := wanted_iff (ops := ops) (d := d) (op := .call { callee := .value x, args := xs.toArray, argTypes := ts }) (ty := ty) (pos := pos) (af := af) (pol := pol) S hg.eq
  refine wl_guard (fun ht => ?_) (fun hf => ?_)
  · have hall := hw.1 ht
    have : CallTo ⟨[], l⟩ x xs f args := ⟨by
      obtain ⟨fi, ca, vs, h0, h1, h2⟩ := he.ex
      exact ⟨fi, ca, vs, ⟨fun _ ds => h0.eq hall ds⟩, ⟨fun _ ds => h1.eq hall ds⟩, h2⟩⟩
    refine cv_any S (hcall hall) ?_
    rintro e w' ⟨v, rfl, ha, q, rfl, hq, hqf⟩
    have e1 : v' q = vL q := by rw [(hv q).eq, if_pos hall]
    have S' := S.put (d := d) (v := v' q) (l' := l' q)
    rw [e1] at S'
    exact ⟨vL q, rfl, K q _ w' (fun _ => hq) hqf ⟨S'.slots, S'.defers, S'.wd.step ha⟩⟩
  · have hall : ¬ ∀ c ∈ cs, c = true := fun h => by rw [hw.2 h] at hf; cases hf
    have e := (hv zeroL).eq
    rw [if_neg hall] at e
    have S' := S.put (d := d) (v := v' zeroL) (l' := l' zeroL)
    rw [e] at S'
    exact K zeroL _ w (fun h => absurd h hall) (fun _ _ => zeroL_in _) S'
/-- a string as bytes. -/
theorem sbyt {t t' e : TypeId} {y : Operand} {s : List UInt8} {l' : Option Addr → Nat → List Value} [hx : Ev ⟨[], l⟩ y (str s)] [h1 : Und P t .string] [h2 : Und P t' (.slice e)] [h3 : Und P e (.int .u8)] [hp : ∀ q c, PutO l d (.slice q s.length c) (l' q c)] (S : St w0 M0 ds a w l bs fs)
    (K : ∀ q c a w, St w0 M0 ds a w (l' q c) bs (GlF q s :: fs) → WL P r ops Q rest a w) : WL P r ops Q (⟨d, .convert t t' y, ty, pos, af, none⟩ :: rest) a w := by
  have hrun : (xop a.eval (.convert t t' y) ty).run P w = .ok (.value (.slice (some ⟨w.heap.size, 0, none⟩) s.length (grownCap w s.length 0 e))) (Lib.bytesWorld w e ⟨s.toArray⟩) := by
    have h := Lib.run_convert_string_bytes (P := P) w t t' e ⟨s.toArray⟩ h1.eq h2.eq h3.eq
    have e1 : (⟨s.toArray⟩ : ByteArray).size = s.length := by simp [ByteArray.size]
    rw [e1] at h
    have hy : a.eval y = str s := S.fr.ev
    simp [xop, execOp, Sem.run_bind, hy, str, h]
  have hlt : ¬ foots bs w.heap.size := fun h => Nat.lt_irrefl _ (foots_lt S _ h)
  refine wl_plain rfl ?_
  rw [semAt_nd rfl]
  simp only [hrun, Oper.uponIn]
  have := hp (some ⟨w.heap.size, 0, none⟩) (grownCap w s.length 0 e)
  have S' := S.put (d := d) (v := .slice (some ⟨w.heap.size, 0, none⟩) s.length (grownCap w s.length 0 e)) (l' := l' (some ⟨w.heap.size, 0, none⟩) (grownCap w s.length 0 e))
  have ha : Agree (fun _ => False) w (Lib.bytesWorld w e ⟨s.toArray⟩) := ⟨rfl, rfl, rfl, by rw [Lib.bytesWorld_size]; omega, fun k hk _ => Lib.bytesWorld_at_old w e _ k hk⟩
  have hg : SlF (some ⟨w.heap.size, 0, none⟩) (encL s) (Lib.bytesWorld w e ⟨s.toArray⟩) := ⟨nofun, fun ad had j u hj => by
    obtain rfl := Option.some.inj had
    have hjl : j < s.length := by
      rcases Nat.lt_or_ge j s.length with h | h
      · exact h
      · rw [List.getElem?_eq_none (by rw [encL_len]; simpa [Enc.sz] using h)] at hj; cases hj
    have := Lib.bytesWorld_cell w e ⟨s.toArray⟩ j (by simpa [ByteArray.size] using hjl)
    rw [encB_map] at hj
    simp only [List.map_map, List.getElem?_map, List.getElem?_eq_getElem hjl, Option.map_some, Option.some.injEq] at hj
    rw [← hj]
    have e2 : (⟨w.heap.size, 0, none⟩ : Addr).add j = ⟨w.heap.size, j, none⟩ := by unfold Addr.add; split <;> simp_all
    rw [e2]
    simpa [hjl] using this⟩
  have S2 : St w0 M0 ds _ _ _ bs fs := ⟨S'.slots, S'.defers, S'.wd.step ha⟩
  exact K _ _ _ _ (S2.add (Φ := GlF (some ⟨w.heap.size, 0, none⟩) s) (fun w' hw' => ⟨(SlF.stable hg (fun ad had => by obtain rfl := Option.some.inj had; exact hlt)) w' hw', fun _ _ => trivial⟩))
end
end Go.Wk

/- Package safehouseref14: rows, leaves, roots. -/
namespace Go.Proofs.YtieeoakdkbackaaDoor
open Go Go.Wk
set_option synthInstance.maxSize 100000
set_option synthInstance.maxHeartbeats 400000
set_option maxRecDepth 100000

theorem u8_dig {d : Nat} (h : d < 10) : Wk.u8 ((48 + d : Nat) : Int) = UInt8.ofNat (48 + d) := by
  have : ∀ k : Fin 10, Wk.u8 ((48 + k.val : Nat) : Int) = UInt8.ofNat (48 + k.val) := by decide
  exact this ⟨d, h⟩
theorem r14digits_c (n : Int) (h0 : 0 ≤ n) (h1 : n ≤ 9223372036854775807) (w0 : World) : Ret Tryd.prog 138 [.int .i64 n] w0 (fun _ => False) fun v _ => v = vL (textL (Lib.itoa n)) := by
  obtain ⟨m, rfl⟩ : ∃ m : Nat, n = (m : Int) := ⟨n.toNat, by omega⟩
  have hml := Lib.itoa_length_le (m : Int) (by omega) (by omega)
  rw [itoa_dec (by omega), show (m : Int).toNat = m from by omega] at hml
  refine enter Tryd.func138 rfl rfl (Wd.start w0) (fun a S => ?_)
  simp only [Tryd.ntmps138, List.length_cons, List.length_nil, Nat.reduceAdd, Nat.reduceSub, List.replicate_succ, List.replicate_zero, List.cons_append, List.nil_append] at S
  refine c_seq ?_
  refine c_region ?_
  refine sa S ?_; clear S; intro b2 a w S
  refine wl_nil ?_
  refine xtn ?_
  refine c_seq ?_
  refine c_region ?_
  refine sq S ?_; clear S; intro a S
  refine wl_nil ?_
  refine xtn ?_
  refine c_seq ?_
  refine c_region ?_
  iterate 2 (refine sq S ?_; clear S; intro a S)
  rw [show decide ((m : Int) < 0) = false from decide_eq_false (by omega)] at S
  refine sq S ?_; clear S; intro a S
  refine wl_nil ?_
  refine xtn ?_
  refine c_seq ?_
  refine c_region ?_
  iterate 2 (refine sq S ?_; clear S; intro a S)
  rw [wu64 (m : Int) (by omega) (by omega)] at S
  refine sq S ?_; clear S; intro a S
  refine wl_nil ?_
  refine xtn ?_
  iterate 2 (refine c_seq ?_)
  refine c_region ?_
  refine sq S ?_; clear S; intro a S
  refine wl_nil ?_
  refine xtn ?_
  refine c_condF S ?_
  refine c_skip ?_
  refine xtn ?_
  refine c_seq ?_
  refine c_block ?_
  refine c_forb2 S (fun (x : Nat) (s : List UInt8) uu => [(3, str s), (1, .int .u64 (x : Nat)), (7, uu 13), (0, uu 14), (0, uu 15), (0, uu 16), (0, uu 17), (0, uu 18), (0, uu 19), (0, uu 20), (0, uu 21), (0, uu 22), (0, uu 23)]) (fun (x : Nat) (s : List UInt8) => x ≤ m ∧ Lib.decDigits x ++ s = Lib.decDigits m) (fun (x : Nat) (s : List UInt8) => x) (m) ([]) ?_ S.uu ?_ ?_
  · exact ⟨Nat.le_refl _, List.append_nil _⟩
  · first | exact S | exact S.sub _ _
  · clear S; rintro x s uu a w ⟨hx, hrel⟩ S
    refine c_block ?_
    refine c_seq ?_
    have e1 : (x : Int).tmod 10 = ((x % 10 : Nat) : Int) := by rw [Int.tmod_eq_emod_of_nonneg (by omega)]; omega
    have e2 : (x : Int).tdiv 10 = ((x / 10 : Nat) : Int) := by rw [Int.tdiv_eq_ediv_of_nonneg (by omega)]; omega
    have e3 : (48 : Int) + ((x % 10 : Nat) : Int) = ((48 + x % 10 : Nat) : Int) := by omega
    have h32 : IntKind.i32.wrap ((48 + x % 10 : Nat) : Int) = ((48 + x % 10 : Nat) : Int) := by
      unfold IntKind.wrap
      simp only [IntKind.bits, IntKind.signed, Bool.true_and]
      rw [if_neg (by simp; omega)]
      omega
    have hA : Ascii ((48 + x % 10 : Nat) : Int) := ⟨by omega, by omega⟩
    have hsl : s.length ≤ 21 := by have := congrArg List.length hrel; rw [List.length_append] at this; omega
    have hC : LeC (([Wk.u8 ((48 + x % 10 : Nat) : Int)] : List UInt8).length + s.length) 4611686018427387904 := ⟨by simp; omega⟩
    refine c_region ?_
    iterate 2 (refine sq S ?_; clear S; intro a S)
    rw [e1] at S
    refine sq S ?_; clear S; intro a S
    rw [e3, wu64 _ (by omega) (by omega)] at S
    refine sq S ?_; clear S; intro a S
    rw [h32] at S
    iterate 4 (refine sq S ?_; clear S; intro a S)
    refine wl_nil ?_
    refine xtn ?_
    refine c_seq ?_
    refine c_region ?_
    iterate 2 (refine sq S ?_; clear S; intro a S)
    rw [e2, wu64 ((x / 10 : Nat) : Int) (by omega) (by omega)] at S
    refine sq S ?_; clear S; intro a S
    refine wl_nil ?_
    refine xtn ?_
    refine c_seq ?_
    refine c_region ?_
    iterate 2 (refine sq S ?_; clear S; intro a S)
    refine wl_nil ?_
    refine xtn ?_
    refine c_cond S (fun h8 => ?_) (fun h8 => ?_)
    · refine c_exit ?_
      refine xbx ?_
      refine xte ?_
      refine xbe ?_
      refine xtn ?_
      iterate 2 (refine c_seq ?_)
      refine c_region ?_
      refine sq S ?_; clear S; intro a S
      refine wl_nil ?_
      refine xtn ?_
      refine c_condF S ?_
      refine c_skip ?_
      refine xtn ?_
      refine c_seq ?_
      refine c_region ?_
      refine sq S ?_; clear S; intro a S
      refine sc S ?_; clear S; intro a w S
      refine sw S ?_; clear S; intro a w S
      refine wl_nil ?_
      refine xtn ?_
      refine c_ret ?_
      refine end1 S (fun _ => ?_)
      have hx10 : ((x / 10 : Nat) : Int) = 0 := by simpa using h8
      rw [Lib.decDigits, dif_pos (by omega), ← u8_dig (by omega)] at hrel
      rw [itoa_dec (by omega), show (m : Int).toNat = m from by omega, ← hrel, show x % 10 = x from by omega]
    · refine c_skip ?_
      refine xbn ?_
      refine xtn ?_
      have hx10 : ¬ ((x / 10 : Nat) : Int) = 0 := by simpa using h8
      rw [Lib.decDigits, dif_neg (by omega), ← u8_dig (by omega), List.append_assoc] at hrel
      exact ⟨x / 10, _, S.uu, ⟨by omega, hrel⟩, S.sub _ _, by omega⟩
theorem r14row_c (m : LMark) (hm : 0 ≤ m.ver ∧ m.ver ≤ 9223372036854775807) (M : Nat → Prop) (w0 : World) (hM : ∀ k, M k → k < w0.heap.size) : Ret Tryd.prog 128 [vMark m] w0 (fun _ => False) fun v w' => IsT M w' v (rowM m) := by
  refine enter Tryd.func128 rfl rfl (Wd.beginM (M := M) (fs := []) hM (by simp)) (fun a S => ?_)
  simp only [Tryd.ntmps128, List.length_cons, List.length_nil, Nat.reduceAdd, Nat.reduceSub, List.replicate_succ, List.replicate_zero, List.cons_append, List.nil_append] at S
  refine c_seq ?_
  refine c_region ?_
  refine sa S ?_; clear S; intro b1 a w S
  refine sa S ?_; clear S; intro b2 a w S
  refine wl_nil ?_
  refine xtn ?_
  refine c_seq ?_
  refine c_drawD [(0, true), (1, true), (3, true), (4, true), (2, false), (5, false), (6, false), (7, false)] [b2] S ?_; clear S; intro w S
  iterate 4 (refine dq S ?_; clear S; intro a S)
  refine dl ?_
  refine sc S ?_; clear S; intro a w S
  refine de S ?_
  refine dl ?_
  refine sr S (r14digits_c m.ver hm.1 hm.2 _) ?_; clear S; rintro _ a w rfl S
  refine de S ?_
  refine dl ?_
  refine sr S (rpair_c (textL m.key) (textL (Lib.itoa m.ver)) _ w (foots_lt S) (fun _ _ => by simp [LtIn, textL, LsIn, LtF]) (fun _ _ => by simp [LtIn, textL, LsIn, LtF])) ?_; clear S; rintro _ a w ⟨r, rfl, hr, hrf⟩ S
  replace S := S.add hrf
  refine de S ?_
  refine dl ?_
  refine sw S ?_; clear S; intro a w S
  refine de S ?_
  refine dn ?_
  refine xtn ?_
  refine c_ret ?_
  have hlat := S.laterT (M := M) r
  refine end1 S (fun _ => ?_)
  exact ⟨r, rfl, hr, hlat⟩
theorem r14hash_c (t : LTerm) (M : Nat → Prop) (w0 : World) (hM : ∀ k, M k → k < w0.heap.size) (hf : Stable M w0 (LtF t)) : Ret Tryd.prog 127 [vL t] w0 (fun _ => False) fun v w' => IsT M w' v (.hash t.t) := by
  refine enter Tryd.func127 rfl rfl (Wd.beginM (M := M) (fs := [LtF t]) hM (by simpa using hf)) (fun a S => ?_)
  simp only [Tryd.ntmps127, List.length_cons, List.length_nil, Nat.reduceAdd, Nat.reduceSub, List.replicate_succ, List.replicate_zero, List.cons_append, List.nil_append] at S
  refine c_seq ?_
  refine c_region ?_
  refine sa S ?_; clear S; intro b1 a w S
  refine sa S ?_; clear S; intro b2 a w S
  refine wl_nil ?_
  refine xtn ?_
  refine c_seq ?_
  refine c_region ?_
  refine sq S ?_; clear S; intro a S
  refine sn S ?_; clear S; intro b4 a w S
  refine sq S ?_; clear S; intro a S
  refine sw S ?_; clear S; intro a w S
  refine wl_nil ?_
  refine xtn ?_
  refine c_ret ?_
  refine end1 S (fun _ => ?_)
  refine ⟨.mk 5 0 0 [] (some ⟨b4, 0, none⟩) 1 [t], rfl, rfl, fun w' hw' => ?_⟩
  have h1 := S.laterFact (Φ := LtF t) (by simp) w' hw'
  exact ⟨by simp, by simp [maxLen], LsIn.of_block [t] (S.laterBox hw' b4) (fun x hx => by obtain rfl := List.mem_singleton.1 hx; exact h1)⟩
theorem r14leaf_c (m : LMark) (hm : 0 ≤ m.ver ∧ m.ver ≤ 9223372036854775807) (M : Nat → Prop) (w0 : World) (hM : ∀ k, M k → k < w0.heap.size) : Ret Tryd.prog 107 [vMark m] w0 (fun _ => False) fun v w' => IsT M w' v (leafT m) := by
  refine enter Tryd.func107 rfl rfl (Wd.beginM (M := M) (fs := []) hM (by simp)) (fun a S => ?_)
  simp only [Tryd.ntmps107, List.length_cons, List.length_nil, Nat.reduceAdd, Nat.reduceSub, List.replicate_succ, List.replicate_zero, List.cons_append, List.nil_append] at S
  refine c_seq ?_
  refine c_region ?_
  refine sa S ?_; clear S; intro b1 a w S
  refine sa S ?_; clear S; intro b2 a w S
  refine wl_nil ?_
  refine xtn ?_
  refine c_seq ?_
  refine c_region ?_
  refine sq S ?_; clear S; intro a S
  refine sr S (r14row_c m hm _ w (foots_lt S)) ?_; clear S; rintro _ a w ⟨r, rfl, hr, hrf⟩ S
  replace S := S.add hrf
  refine sr S (r14hash_c r _ w (foots_lt S) (S.t r)) ?_; clear S; rintro _ a w ⟨q, rfl, hq, hqf⟩ S
  replace S := S.add hqf
  refine sw S ?_; clear S; intro a w S
  refine wl_nil ?_
  refine xtn ?_
  refine c_ret ?_
  have hlat := S.laterT (M := M) q
  refine end1 S (fun _ => ?_)
  exact ⟨q, rfl, by rw [hq, hr]; rfl, hlat⟩
theorem r14join_c (x y : LTerm) (M : Nat → Prop) (w0 : World) (hM : ∀ k, M k → k < w0.heap.size) (hx : Stable M w0 (LtF x)) (hy : Stable M w0 (LtF y)) : Ret Tryd.prog 108 [vL x, vL y] w0 (fun _ => False) fun v w' => IsT M w' v (joinT x.t y.t) := by
  refine enter Tryd.func108 rfl rfl (Wd.beginM (M := M) (fs := [LtF x, LtF y]) hM (by simp; exact ⟨hx, hy⟩)) (fun a S => ?_)
  simp only [Tryd.ntmps108, List.length_cons, List.length_nil, Nat.reduceAdd, Nat.reduceSub, List.replicate_succ, List.replicate_zero, List.cons_append, List.nil_append] at S
  refine c_seq ?_
  refine c_region ?_
  refine sa S ?_; clear S; intro b2 a w S
  refine sa S ?_; clear S; intro b3 a w S
  refine sa S ?_; clear S; intro b4 a w S
  refine wl_nil ?_
  refine xtn ?_
  refine c_seq ?_
  refine c_region ?_
  iterate 2 (refine sq S ?_; clear S; intro a S)
  refine sr S (rpair_c x y _ w (foots_lt S) (S.t x) (S.t y)) ?_; clear S; rintro _ a w ⟨r, rfl, hr, hrf⟩ S
  replace S := S.add hrf
  refine sr S (r14hash_c r _ w (foots_lt S) (S.t r)) ?_; clear S; rintro _ a w ⟨q, rfl, hq, hqf⟩ S
  replace S := S.add hqf
  refine sw S ?_; clear S; intro a w S
  refine wl_nil ?_
  refine xtn ?_
  refine c_ret ?_
  have hlat := S.laterT (M := M) q
  refine end1 S (fun _ => ?_)
  exact ⟨q, rfl, by rw [hq, hr]; rfl, hlat⟩
theorem r14root_c (N : Nat) : ∀ (l : List LMark) (p : Option Addr) (n c : Nat) (M : Nat → Prop) (w0 : World), l.length < N → l.length = n → n ≤ 100 → n ≤ c → (∀ m ∈ l, 0 ≤ m.ver ∧ m.ver ≤ 65535) → (∀ k, M k → k < w0.heap.size) → Stable M w0 (GlF p l) →
    Ret Tryd.prog 77 [.slice p n c] w0 (fun _ => False) fun v w' => IsT M w' v (rootT l) := by
  induction N with
  | zero => intro l _ _ _ _ _ h; exact absurd h (Nat.not_lt_zero _)
  | succ N ih =>
  intro l p n c M w0 hN hn h100 hnc hv hM hx
  subst hn
  refine enter Tryd.func77 rfl rfl (Wd.beginM (M := M) (fs := [GlF p l]) hM (by simpa using hx)) (fun a S => ?_)
  simp only [Tryd.ntmps77, List.length_cons, List.length_nil, Nat.reduceAdd, Nat.reduceSub, List.replicate_succ, List.replicate_zero, List.cons_append, List.nil_append] at S
  refine c_seq ?_
  refine c_region ?_
  refine sa S ?_; clear S; intro b2 a w S
  refine wl_nil ?_
  refine xtn ?_
  iterate 2 (refine c_seq ?_)
  refine c_region ?_
  iterate 2 (refine sq S ?_; clear S; intro a S)
  refine wl_nil ?_
  refine xtn ?_
  refine c_block ?_
  refine c_seq ?_
  refine c_region ?_
  iterate 2 (refine sq S ?_; clear S; intro a S)
  refine wl_nil ?_
  refine xtn ?_
  refine c_cond S (fun h2 => ?_) (fun h2 => ?_)
  · refine c_seq ?_
    refine c_region ?_
    refine sc S ?_; clear S; intro a w S
    refine sw S ?_; clear S; intro a w S
    refine wl_nil ?_
    refine xtn ?_
    refine c_ret ?_
    refine xbr ?_
    refine xtr ?_
    have h0 : l.length = 0 := by simpa using h2
    refine end1 S (fun _ => ?_)
    refine ⟨textL [], rfl, ?_, fun w' _ => by simp [LtIn, textL, LsIn, LtF]⟩
    rw [rootT, dif_pos h0]; rfl
  · refine c_seq ?_
    refine c_region ?_
    iterate 2 (refine sq S ?_; clear S; intro a S)
    refine wl_nil ?_
    refine xtn ?_
    refine c_cond S (fun h4 => ?_) (fun h4 => ?_)
    · refine c_seq ?_
      have h1 : l.length = 1 := by simp at h4; omega
      have hK : KLt 0 l.length := ⟨by omega⟩
      refine c_region ?_
      iterate 3 (refine sq S ?_; clear S; intro a S)
      refine sr S (r14leaf_c (nthG l 0) (by have := hv _ (nthG_mem (show 0 < l.length by omega)); omega) _ w (foots_lt S)) ?_; clear S; rintro _ a w ⟨r, rfl, hr, hrf⟩ S
      replace S := S.add hrf
      refine sw S ?_; clear S; intro a w S
      refine wl_nil ?_
      refine xtn ?_
      refine c_ret ?_
      refine xbr ?_
      refine xtr ?_
      have hlat := S.laterT (M := M) r
      refine end1 S (fun _ => ?_)
      exact ⟨r, rfl, by rw [hr, rootT_one h1], hlat⟩
    · refine c_skip ?_
      refine xbn ?_
      refine xtn ?_
      refine c_seq ?_
      refine c_region ?_
      iterate 3 (refine sq S ?_; clear S; intro a S)
      rw [w64 _ (by omega) (by omega)] at S
      refine sq S ?_; clear S; intro a S
      have h2 : 2 ≤ l.length := by have q5 := of_decide_eq_false h2; have q7 := of_decide_eq_false h4; omega
      have hh : halfN l.length < l.length ∧ 0 < halfN l.length := by unfold halfN; omega
      have eh : ((l.length : Int) + 1).tdiv 2 = ((halfN l.length : Nat) : Int) := by rw [Int.tdiv_eq_ediv_of_nonneg (by omega)]; unfold halfN; omega
      rw [eh, w64 ((halfN l.length : Nat) : Int) (by omega) (by omega)] at S
      refine sq S ?_; clear S; intro a S
      refine wl_nil ?_
      refine xtn ?_
      refine c_seq ?_
      have hlt : (l.take (halfN l.length)).length = halfN l.length := by rw [List.length_take]; omega
      have hld : (l.drop (halfN l.length)).length = l.length - halfN l.length := List.length_drop
      have hL1 : LeC (halfN l.length) c := ⟨by omega⟩
      have hL2 : LeC (halfN l.length) l.length := ⟨by omega⟩
      have hL3 : LeC l.length c := ⟨hnc⟩
      have hg := S.gl p (xs := l)
      replace S := (S.add (Φ := GlF (if c = halfN l.length then p else p.map (·.add (halfN l.length * 2))) (l.drop (halfN l.length))) (hg.imp fun _ h => h.drop _ hnc)).add (Φ := GlF p (l.take (halfN l.length))) (hg.imp fun _ h => h.take _)
      refine c_drawD [(0, true), (1, true), (2, true), (4, true), (5, true), (6, true), (3, false), (7, false), (8, false), (9, false)] [b2] S ?_; clear S; intro w S
      iterate 6 (refine dq S ?_; clear S; intro a S)
      refine dl ?_
      refine sr S (ih (l.take (halfN l.length)) p (halfN l.length) c _ w (by omega) hlt (by omega) (by omega) (fun m hm => hv m (List.take_subset _ _ hm)) (foots_lt S) (S.mem.fact (GlF p (l.take (halfN l.length))))) ?_; clear S; rintro _ a w ⟨r1, rfl, hr1, hrf1⟩ S
      replace S := S.add hrf1
      refine de S ?_
      refine dl ?_
      refine sr S (ih (l.drop (halfN l.length)) (if c = halfN l.length then p else p.map (·.add (halfN l.length * 2))) (l.length - halfN l.length) (c - halfN l.length) _ w (by omega) hld (by omega) (by omega) (fun m hm => hv m (List.drop_subset _ _ hm)) (foots_lt S) (S.mem.fact (GlF (if c = halfN l.length then p else p.map (·.add (halfN l.length * 2))) (l.drop (halfN l.length))))) ?_; clear S; rintro _ a w ⟨r2, rfl, hr2, hrf2⟩ S
      replace S := S.add hrf2
      refine de S ?_
      refine dl ?_
      refine sr S (r14join_c r1 r2 _ w (foots_lt S) (S.t r1) (S.t r2)) ?_; clear S; rintro _ a w ⟨r, rfl, hr, hrf⟩ S
      replace S := S.add hrf
      refine de S ?_
      refine dl ?_
      refine sw S ?_; clear S; intro a w S
      refine de S ?_
      refine dn ?_
      refine xtn ?_
      refine c_ret ?_
      have hlat := S.laterT (M := M) r
      refine end1 S (fun _ => ?_)
      exact ⟨r, rfl, by rw [hr, hr1, hr2, ← rootT_two h2], hlat⟩
end Go.Proofs.YtieeoakdkbackaaDoor

/- Package safehouseref14: which marks may be; reading. -/
namespace Go.Proofs.YtieeoakdkbackaaDoor
open Go Go.Wk
set_option synthInstance.maxSize 100000
set_option synthInstance.maxHeartbeats 400000
set_option maxRecDepth 100000

theorem r14one_c (m : LMark) (w0 : World) : Ret Tryd.prog 75 [vMark m] w0 (fun _ => False) fun v _ => v = .bool (markB m) := by
  refine enter Tryd.func75 rfl rfl (Wd.start w0) (fun a S => ?_)
  simp only [Tryd.ntmps75, List.length_cons, List.length_nil, Nat.reduceAdd, Nat.reduceSub, List.replicate_succ, List.replicate_zero, List.cons_append, List.nil_append] at S
  refine c_seq ?_
  refine c_region ?_
  refine sa S ?_; clear S; intro b1 a w S
  refine sq S ?_; clear S; intro a S
  refine wl_nil ?_
  refine xtn ?_
  refine c_seq ?_
  refine c_region ?_
  iterate 5 (refine sq S ?_; clear S; intro a S)
  iterate 4 (refine gQ S ?_; clear S; intro a S)
  iterate 2 (refine sq S ?_; clear S; intro a S)
  iterate 3 (refine gQ S ?_; clear S; intro a S)
  iterate 2 (refine sq S ?_; clear S; intro a S)
  iterate 3 (refine gQ S ?_; clear S; intro a S)
  iterate 2 (refine sq S ?_; clear S; intro a S)
  refine wl_nil ?_
  refine xtn ?_
  refine c_ret ?_
  refine end1 S (fun _ => ?_)
  congr 1
  have e : (decide (m.key = [])) = decide (m.key.length = 0) := by
    rw [Bool.eq_iff_iff]; simp [List.length_eq_zero_iff]
  rw [markB, e, Bool.eq_iff_iff]
  simp only [Bool.and_eq_true, decide_eq_true_eq, Bool.not_eq_true', decide_eq_false_iff_not]
  omega
instance {m : LMark} {bs fs} : CallV Tryd.prog 75 [.agg ⟨[str m.key, .int .i64 m.ver]⟩] bs fs (.bool (markB m)) := ⟨fun w _ => r14one_c m w⟩
theorem gif_pred {c b : Bool} {k : Nat} (hb : b = true → 1 ≤ k) (hk : k ≤ 1000000) : gif c (gif b (.int .i64 (IntKind.i64.wrap ((k : Int) - 1)))) = gif c (gif b (.int .i64 ((k - 1 : Nat) : Int))) := by
  cases b with
  | false => rfl
  | true => rw [w64 _ (by omega) (by omega), show (k : Int) - 1 = ((k - 1 : Nat) : Int) from by have := hb rfl; omega]
theorem markB_ne {m : LMark} (h : markB m = true) : m.key ≠ [] := by
  intro he
  simp [markB, he] at h
theorem bl_nil {s : List UInt8} (h : s ≠ []) : Op.bytesLess [] s = true := by
  cases s with
  | nil => exact absurd rfl h
  | cons c s => rfl
theorem riseM_step (l : List LMark) (k : Nat) (hk : k < l.length) : riseM (lastM l k) (l.drop k) = (markB (nthG l k) && Op.bytesLess (lastM l k) (nthG l k).key && riseM (lastM l (k + 1)) (l.drop (k + 1))) := by
  rw [nthG_drop hk]; rfl
theorem r14right_c (l : List LMark) (p : Option Addr) (n c : Nat) (w0 : World) (hn : l.length = n) (hl : n ≤ 1000000) (hx : Stable (fun _ => False) w0 (GlF p l)) :
    Ret Tryd.prog 28 [.slice p n c] w0 (fun _ => False) fun v _ => v = .bool (okM l) := by
  subst hn
  refine enter Tryd.func28 rfl rfl (Wd.begin (fs := [GlF p l]) (by simpa using hx)) (fun a S => ?_)
  simp only [Tryd.ntmps28, List.length_cons, List.length_nil, Nat.reduceAdd, Nat.reduceSub, List.replicate_succ, List.replicate_zero, List.cons_append, List.nil_append] at S
  refine c_seq ?_
  refine c_region ?_
  refine sq S ?_; clear S; intro a S
  refine wl_nil ?_
  refine xtn ?_
  iterate 2 (refine c_seq ?_)
  refine c_region ?_
  iterate 3 (refine sq S ?_; clear S; intro a S)
  refine wl_nil ?_
  refine xtn ?_
  refine c_block ?_
  refine c_forb1 S (fun (k : Nat) uu => [(2, uu 2), (0, uu 3), (0, uu 4), (2, .int .i64 (k : Nat)), (0, uu 8), (0, uu 9), (0, uu 10), (0, uu 11), (0, uu 12), (0, uu 13), (0, uu 14), (0, uu 15), (0, uu 16), (0, uu 17), (0, uu 18), (0, uu 19), (0, uu 20), (0, uu 21), (0, uu 22), (0, uu 23), (0, uu 24), (0, uu 25), (0, uu 26), (0, uu 27), (0, uu 28), (0, uu 29), (0, uu 30)]) (fun (k : Nat) => k ≤ l.length ∧ riseM (lastM l k) (l.drop k) = riseM [] l) (fun (k : Nat) => l.length - k) (0) ?_ S.uu ?_ ?_
  · exact ⟨Nat.zero_le _, rfl⟩
  · first | exact S | exact S.sub _ _
  · clear S; rintro k uu a w ⟨hk, hrel⟩ S
    refine c_seq ?_
    refine c_region ?_
    refine sq S ?_; clear S; intro a S
    refine wl_nil ?_
    refine xtn ?_
    refine c_seq ?_
    refine c_cond S (fun h2 => ?_) (fun h2 => ?_)
    · refine c_skip ?_
      refine xtn ?_
      refine c_seq ?_
      refine c_block ?_
      refine c_seq ?_
      have hkl : k < l.length := by simp at h2; omega
      have hK : KLt k l.length := ⟨hkl⟩
      have hst := riseM_step l k hkl
      have hC : CLt [!!markB (nthG l k), decide (0 < (k : Int))] (k - 1) l.length := ⟨fun _ => by omega⟩
      have hlast : markB (nthG l k) = true → Op.bytesLess (lastM l k) (nthG l k).key = (!(decide (0 < (k : Int)) && !Op.bytesLess (nthG l (k - 1)).key (nthG l k).key)) := fun hm => by
        cases k with
        | zero => rw [show lastM l 0 = [] from rfl, bl_nil (markB_ne hm)]; rfl
        | succ j =>
          rw [show lastM l (j + 1) = (nthG l j).key from rfl, show j + 1 - 1 = j from by omega, decide_eq_true (by omega : (0 : Int) < ((j + 1 : Nat) : Int))]
          simp
      refine c_region ?_
      iterate 3 (refine sq S ?_; clear S; intro a S)
      refine sa S ?_; clear S; intro b4 a w S
      refine sq S ?_; clear S; intro a S
      refine sw S ?_; clear S; intro a w S
      refine wl_nil ?_
      refine xtn ?_
      refine c_seq ?_
      refine c_drawD [(0, true), (1, false), (2, true), (3, true), (4, true), (5, true), (6, true), (7, true), (8, true), (9, true), (10, true), (11, true), (12, true), (13, true), (14, true), (15, true), (16, true), (17, true)] [] S ?_; clear S; intro w S
      refine dq S ?_; clear S; intro a S
      refine dl ?_
      refine sc S ?_; clear S; intro a w S
      refine de S ?_
      iterate 2 (refine dq S ?_; clear S; intro a S)
      iterate 6 (refine dqG S ?_; clear S; intro a S)
      rw [gif_pred (by simp; omega) (by omega)] at S
      iterate 7 (refine dqG S ?_; clear S; intro a S)
      refine dq S ?_; clear S; intro a S
      refine dn ?_
      refine xtn ?_
      refine c_cond S (fun h4 => ?_) (fun h4 => ?_)
      · refine c_seq ?_
        refine c_region ?_
        refine sq S ?_; clear S; intro a S
        refine wl_nil ?_
        refine xtn ?_
        refine c_ret ?_
        refine xbr ?_
        iterate 2 (refine xtr ?_)
        refine xbr ?_
        refine xtr ?_
        refine end1 S (fun _ => ?_)
        have : okM l = false := by
          have hf : riseM (lastM l k) (l.drop k) = false := by
            rw [hst]
            cases hm : markB (nthG l k) with
            | false => rfl
            | true =>
              have h5 := hlast hm
              rw [hm] at h4
              simp only [Bool.not_true, Bool.false_or] at h4
              rw [h5, h4]; rfl
          rw [okM, ← hrel, hf, Bool.and_false]
        rw [this]
      · refine c_skip ?_
        refine xbn ?_
        refine xtn ?_
        refine c_region ?_
        iterate 2 (refine sq S ?_; clear S; intro a S)
        refine wl_nil ?_
        refine xtn ?_
        rw [w64 ((k : Int) + 1) (by omega) (by omega)] at S
        refine ⟨k + 1, S.uu, ⟨hkl, ?_⟩, S.sub _ _, by omega⟩
        rw [← hrel, hst]
        cases hm : markB (nthG l k) with
        | false => rw [hm] at h4; simp at h4
        | true =>
          have h5 := hlast hm
          rw [hm] at h4
          simp only [Bool.not_true, Bool.false_or] at h4
          rw [h5, h4]; rfl
    · refine c_exit ?_
      iterate 2 (refine xte ?_)
      refine xbe ?_
      refine xtn ?_
      refine c_seq ?_
      refine c_region ?_
      iterate 4 (refine sq S ?_; clear S; intro a S)
      refine wl_nil ?_
      refine xtn ?_
      refine c_ret ?_
      rw [List.drop_of_length_le (by simp at h2; omega), riseM] at hrel
      refine end1 S (fun _ => ?_)
      rw [okM, ← hrel, Bool.and_true]
theorem r14same_c (xs ys : List LMark) (p q : Option Addr) (c e : Nat) (w0 : World) (hl : xs.length ≤ 1000000) (hx : Stable (fun _ => False) w0 (GlF p xs)) (hy : Stable (fun _ => False) w0 (GlF q ys)) :
    Ret Tryd.prog 31 [.slice p xs.length c, .slice q ys.length e] w0 (fun _ => False) fun v _ => v = .bool (decide (xs = ys)) := by
  refine enter Tryd.func31 rfl rfl (Wd.begin (fs := [GlF p xs, GlF q ys]) (by simp; exact ⟨hx, hy⟩)) (fun a S => ?_)
  simp only [Tryd.ntmps31, List.length_cons, List.length_nil, Nat.reduceAdd, Nat.reduceSub, List.replicate_succ, List.replicate_zero, List.cons_append, List.nil_append] at S
  refine c_seq ?_
  refine c_region ?_
  refine sq S ?_; clear S; intro a S
  refine wl_nil ?_
  refine xtn ?_
  iterate 2 (refine c_seq ?_)
  refine c_region ?_
  iterate 5 (refine sq S ?_; clear S; intro a S)
  refine wl_nil ?_
  refine xtn ?_
  refine c_cond S (fun h1 => ?_) (fun h1 => ?_)
  · refine c_seq ?_
    refine c_region ?_
    refine sq S ?_; clear S; intro a S
    refine wl_nil ?_
    refine xtn ?_
    refine c_ret ?_
    refine xtr ?_
    refine end1 S (fun _ => ?_)
    have : ¬ xs = ys := fun h => by rw [h] at h1; simp at h1
    rw [decide_eq_false this]
  · refine c_skip ?_
    refine xtn ?_
    iterate 2 (refine c_seq ?_)
    have hle : xs.length = ys.length := by simp at h1; omega
    refine c_region ?_
    iterate 3 (refine sq S ?_; clear S; intro a S)
    refine wl_nil ?_
    refine xtn ?_
    refine c_block ?_
    refine c_forb1 S (fun (k : Nat) uu => [(4, uu 4), (0, uu 5), (7, .int .i64 (k : Nat)), (0, uu 14), (0, uu 15), (0, uu 16), (0, uu 17), (0, uu 18), (0, uu 19), (0, uu 20), (0, uu 21), (0, uu 22), (0, uu 23), (0, uu 24), (0, uu 25)]) (fun (k : Nat) => k ≤ xs.length ∧ xs.take k = ys.take k) (fun (k : Nat) => xs.length - k) (0) ?_ S.uu ?_ ?_
    · exact ⟨Nat.zero_le _, rfl⟩
    · first | exact S | exact S.sub _ _
    · clear S; rintro k uu a w ⟨hk, hrel⟩ S
      refine c_seq ?_
      refine c_region ?_
      refine sq S ?_; clear S; intro a S
      refine wl_nil ?_
      refine xtn ?_
      refine c_seq ?_
      refine c_cond S (fun h4 => ?_) (fun h4 => ?_)
      · refine c_skip ?_
        refine xtn ?_
        refine c_seq ?_
        refine c_block ?_
        refine c_seq ?_
        have hkl : k < xs.length := by simp at h4; omega
        have hK : KLt k xs.length := ⟨hkl⟩
        have hK2 : KLt k ys.length := ⟨by omega⟩
        refine c_region ?_
        iterate 2 (refine sq S ?_; clear S; intro a S)
        refine wl_nil ?_
        refine xtn ?_
        refine c_seq ?_
        refine c_drawD [(0, true), (1, true), (2, true), (3, true), (4, true), (5, true), (6, true), (7, true), (8, true)] [] S ?_; clear S; intro w S
        iterate 9 (refine dq S ?_; clear S; intro a S)
        refine dn ?_
        refine xtn ?_
        refine c_cond S (fun h6 => ?_) (fun h6 => ?_)
        · refine c_seq ?_
          refine c_region ?_
          refine sq S ?_; clear S; intro a S
          refine wl_nil ?_
          refine xtn ?_
          refine c_ret ?_
          refine xbr ?_
          iterate 2 (refine xtr ?_)
          refine xbr ?_
          refine xtr ?_
          refine end1 S (fun _ => ?_)
          have : ¬ xs = ys := fun h => by subst h; simp at h6
          rw [decide_eq_false this]
        · refine c_skip ?_
          refine xbn ?_
          refine xtn ?_
          refine c_region ?_
          iterate 2 (refine sq S ?_; clear S; intro a S)
          refine wl_nil ?_
          refine xtn ?_
          rw [w64 ((k : Int) + 1) (by omega) (by omega)] at S
          refine ⟨k + 1, S.uu, ⟨hkl, ?_⟩, S.sub _ _, by omega⟩
          have he : nthG xs k = nthG ys k := by simpa using h6
          rw [nthG_take hkl, nthG_take (by omega), hrel, he]
      · refine c_exit ?_
        iterate 2 (refine xte ?_)
        refine xbe ?_
        refine xtn ?_
        refine c_seq ?_
        refine c_region ?_
        refine sq S ?_; clear S; intro a S
        refine wl_nil ?_
        refine xtn ?_
        refine c_ret ?_
        have hkl : k = xs.length := by simp at h4; omega
        rw [List.take_of_length_le (by omega), List.take_of_length_le (by omega)] at hrel
        refine end1 S (fun _ => ?_)
        rw [decide_eq_true hrel]
end Go.Proofs.YtieeoakdkbackaaDoor

/- Terms in new memory may be written over. -/
namespace Go.Proofs.YtieeoakdkbackaaDoor
open Go Go.Wk
set_option synthInstance.maxSize 100000
set_option synthInstance.maxHeartbeats 400000
set_option maxRecDepth 100000

/-! what has changed but in its numbers -/
def IntObj (o o' : Obj) : Prop := o' = o ∨ ∃ (cs cs' : Array Value) (T : TypeId) (fr : Nat × Nat), o = .cells cs T fr ∧ o' = .cells cs' T fr ∧ ∀ (i : Nat) (v : Value), cs[i]? = some v → cs'[i]? = some v ∨ ∃ n m, v = .int .i64 n ∧ cs'[i]? = some (.int .i64 m)
theorem IntObj.trans {a b c : Obj} (h : IntObj a b) (k : IntObj b c) : IntObj a c := by
  rcases h with rfl | ⟨cs, cs', T, fr, rfl, rfl, h⟩
  · exact k
  rcases k with rfl | ⟨ds, ds', T', fr', e, rfl, k⟩
  · exact .inr ⟨cs, cs', T, fr, rfl, rfl, h⟩
  injection e with e1 e2 e3
  subst e1 e2 e3
  refine .inr ⟨cs, ds', T, fr, rfl, rfl, fun i v hv => ?_⟩
  rcases h i v hv with h | ⟨n, m, rfl, h⟩
  · exact k i v h
  · rcases k i _ h with k | ⟨n', m', e, k⟩
    · exact .inr ⟨n, m, rfl, k⟩
    · exact .inr ⟨n, m', rfl, k⟩
def Step (B : Nat → Prop) (w0 w : World) : Prop := ∀ k, B k → ∃ o o', w0.heap[k]? = some o ∧ w.heap[k]? = some o' ∧ IntObj o o'
theorem Step.refl {B : Nat → Prop} {w : World} (h : ∀ k, B k → k < w.heap.size) : Step B w w := fun k hk => ⟨_, _, Array.getElem?_eq_getElem (h k hk), Array.getElem?_eq_getElem (h k hk), .inl rfl⟩
theorem Step.trans {B : Nat → Prop} {a b c : World} (h : Step B a b) (k : Step B b c) : Step B a c := fun i hi => by
  obtain ⟨o, o', h1, h2, h3⟩ := h i hi
  obtain ⟨q, q', k1, k2, k3⟩ := k i hi
  rw [h2] at k1
  injection k1 with k1
  subst k1
  exact ⟨o, q', h1, k2, h3.trans k3⟩
def stp (B : Nat → Prop) (w0 : World) : Wk.Item where
  foot := B
  holds := Step B w0
instance stpOk {B : Nat → Prop} {w0 : World} : ItOk (stp B w0) := ⟨fun w1 w2 h h1 k hk => by
  obtain ⟨o, o', e1, e2, e3⟩ := h1 k hk
  exact ⟨o, o', e1, by rw [h k hk]; exact e2, e3⟩, fun w h k hk => by
  obtain ⟨o, o', e1, e2, e3⟩ := h k hk
  exact (Array.getElem?_eq_some_iff.1 e2).1⟩
theorem cell_step {B : Nat → Prop} {w w' : World} (h : Step B w w') (ha : Agree B w w') {ad : Addr} {v : Value} (hc : w.cell? ad = some v) : w'.cell? ad = some v ∨ ∃ n m, v = .int .i64 n ∧ w'.cell? ad = some (.int .i64 m) := by
  by_cases hB : B ad.block
  · obtain ⟨o, o', h1, h2, h3⟩ := h _ hB
    rcases h3 with rfl | ⟨cs, cs', T, fr, rfl, rfl, h4⟩
    · left
      unfold World.cell? at *
      rw [h1] at hc
      rw [h2]; exact hc
    · unfold World.cell? at *
      rw [h1] at hc
      rw [h2]
      simp only at hc ⊢
      by_cases hs : ad.spot.isSome = true
      · rw [if_pos hs] at hc; cases hc
      · rw [if_neg hs] at hc ⊢
        exact h4 _ _ hc
  · left
    have hlt := cell_lt hc
    unfold World.cell? at *
    rw [ha.blk hlt hB]; exact hc
/-! terms of one shape -/
mutual
def Sk : LTerm → LTerm → Prop
  | .mk _ _ _ s p c ks, t => t.text = s ∧ t.p = p ∧ t.cap = c ∧ SkL ks t.kids
def SkL : List LTerm → List LTerm → Prop
  | [], l => l = []
  | k :: ks, l => ∃ k' ks', l = k' :: ks' ∧ Sk k k' ∧ SkL ks ks'
end
theorem SkL.len : ∀ {a b : List LTerm}, SkL a b → b.length = a.length
  | [], _, h => by rw [SkL] at h; rw [h]
  | x :: a, _, h => by
    rw [SkL] at h
    obtain ⟨k', ks', rfl, -, h2⟩ := h
    simp [SkL.len h2]
theorem SkL.get : ∀ {a b : List LTerm} {i : Nat}, SkL a b → i < a.length → Sk (nthL a i) (nthL b i)
  | [], _, i, h, hi => by simp at hi
  | x :: a, _, i, h, hi => by
    rw [SkL] at h
    obtain ⟨k', ks', rfl, h1, h2⟩ := h
    cases i with
    | zero => exact h1
    | succ i =>
      show Sk (nthL a i) (nthL ks' i)
      exact SkL.get h2 (by simpa using hi)
mutual
theorem Sk.dpt : ∀ (t t' : LTerm), Sk t t' → dpt t'.t = dpt t.t
  | .mk k u n s p c ks, t', h => by
    rw [Sk] at h
    have := SkL.dpt ks t'.kids h.2.2.2
    rw [t'.t_eq, dpt, LTerm.t_eq, dpt, this]; rfl
theorem SkL.dpt : ∀ (a b : List LTerm), SkL a b → dptL (b.map LTerm.t) = dptL (a.map LTerm.t)
  | [], _, h => by rw [SkL] at h; rw [h]
  | x :: a, _, h => by
    rw [SkL] at h
    obtain ⟨k', ks', rfl, h1, h2⟩ := h
    rw [List.map_cons, List.map_cons, dptL, dptL, Sk.dpt x k' h1, SkL.dpt a ks' h2]
end
mutual
theorem LtIn_step {B : Nat → Prop} {w w' : World} (h : Step B w w') (ha : Agree B w w') : ∀ (t : LTerm), LtIn w t → ∀ k u n, ∃ ks', SkL t.kids ks' ∧ LtIn w' (.mk k u n t.text t.p t.cap ks')
  | .mk _ _ _ s p c ks, h1, k, u, n => by
    rw [LtIn] at h1
    obtain ⟨ks', e1, e2⟩ := LsIn_step h ha ks p 0 h1.2.2
    refine ⟨ks', e1, ?_⟩
    rw [LtIn]
    exact ⟨by rw [e1.len]; exact h1.1, h1.2.1, e2⟩
theorem LsIn_step {B : Nat → Prop} {w w' : World} (h : Step B w w') (ha : Agree B w w') : ∀ (ts : List LTerm) (p : Option Addr) (i : Nat), LsIn w p i ts → ∃ ts', SkL ts ts' ∧ LsIn w' p i ts'
  | [], p, i, _ => ⟨[], by rw [SkL], by simp [LsIn]⟩
  | .mk k u n s q c ks :: ts, p, i, hl => by
    rw [LsIn] at hl
    obtain ⟨⟨ad, hp, hc⟩, h2, h3⟩ := hl
    obtain ⟨ts', e1, e2⟩ := LsIn_step h ha ts p (i + 1) h3
    have hint : ∀ j m, (LTerm.mk k u n s q c ks).cells[j]? = some (.int .i64 m) → ∃ m', w'.cell? (ad.add (i * 5 + j)) = some (.int .i64 m') := fun j m hj => by
      rcases cell_step h ha (hc j _ hj) with h | ⟨_, m', _, h⟩
      · exact ⟨m, h⟩
      · exact ⟨m', h⟩
    obtain ⟨k', hk'⟩ := hint 0 k rfl
    obtain ⟨u', hu'⟩ := hint 1 u rfl
    obtain ⟨n', hn'⟩ := hint 2 n rfl
    obtain ⟨ks', f1, f2⟩ := LtIn_step h ha (.mk k u n s q c ks) h2 k' u' n'
    have h3' : w'.cell? (ad.add (i * 5 + 3)) = some (str s) := by
      rcases cell_step h ha (hc 3 (str s) rfl) with h | ⟨_, _, h, _⟩
      · exact h
      · cases h
    have h4' : w'.cell? (ad.add (i * 5 + 4)) = some (.slice q ks.length c) := by
      rcases cell_step h ha (hc 4 (.slice q ks.length c) rfl) with h | ⟨_, _, h, _⟩
      · exact h
      · cases h
    refine ⟨.mk k' u' n' s q c ks' :: ts', ?_, ?_⟩
    · rw [SkL]
      refine ⟨_, _, rfl, ?_, e1⟩
      rw [Sk]
      exact ⟨rfl, rfl, rfl, f1⟩
    · rw [LsIn]
      refine ⟨⟨ad, hp, fun j v hj => ?_⟩, f2, e2⟩
      match j, hj with
      | 0, hj => obtain rfl := Option.some.inj hj; exact hk'
      | 1, hj => obtain rfl := Option.some.inj hj; exact hu'
      | 2, hj => obtain rfl := Option.some.inj hj; exact hn'
      | 3, hj => obtain rfl := Option.some.inj hj; exact h3'
      | 4, hj =>
        obtain rfl := Option.some.inj hj
        show w'.cell? _ = some (.slice q ks'.length c)
        rw [h4', show ks'.length = ks.length from f1.len]
      | j + 5, hj => simp [LTerm.cells] at hj
end
/-! where kids lie -/
mutual
def TU (B : Nat → Prop) (w : World) : LTerm → Prop
  | .mk _ _ _ _ p _ ks => LU B w p ks
def LU (B : Nat → Prop) (w : World) : Option Addr → List LTerm → Prop
  | _, [] => True
  | p, t :: ts => (∃ b cs T, p = some ⟨b, 0, none⟩ ∧ B b ∧ w.heap[b]? = some (.cells cs T (0, 0))) ∧ TU B w t ∧ LU B w p ts
end
theorem TU.eq {B : Nat → Prop} {w : World} (t : LTerm) : TU B w t = LU B w t.p t.kids := by cases t; rw [TU]; rfl
mutual
theorem TU_map {B B' : Nat → Prop} {w w' : World} (h : ∀ b cs T, B b → w.heap[b]? = some (.cells cs T (0, 0)) → B' b ∧ ∃ cs', w'.heap[b]? = some (.cells cs' T (0, 0))) : ∀ (t t' : LTerm), Sk t t' → TU B w t → TU B' w' t'
  | .mk _ _ _ _ p _ ks, t', hs, hu => by
    rw [Sk] at hs
    rw [TU] at hu
    rw [TU.eq, hs.2.1]
    exact LU_map h ks t'.kids p hs.2.2.2 hu
theorem LU_map {B B' : Nat → Prop} {w w' : World} (h : ∀ b cs T, B b → w.heap[b]? = some (.cells cs T (0, 0)) → B' b ∧ ∃ cs', w'.heap[b]? = some (.cells cs' T (0, 0))) : ∀ (ts ts' : List LTerm) (p : Option Addr), SkL ts ts' → LU B w p ts → LU B' w' p ts'
  | [], _, p, hs, _ => by rw [SkL] at hs; rw [hs, LU]; trivial
  | t :: ts, _, p, hs, hu => by
    rw [SkL] at hs
    obtain ⟨k', ks', rfl, h1, h2⟩ := hs
    rw [LU] at hu ⊢
    obtain ⟨⟨b, cs, T, e1, e2, e3⟩, h3, h4⟩ := hu
    obtain ⟨f1, cs', f2⟩ := h b cs T e2 e3
    exact ⟨⟨b, cs', T, e1, f1, f2⟩, TU_map h t k' h1 h3, LU_map h ts ks' p h2 h4⟩
end
mutual
theorem Sk.refl : ∀ t : LTerm, Sk t t
  | .mk _ _ _ _ _ _ ks => by rw [Sk]; exact ⟨rfl, rfl, rfl, SkL.refl ks⟩
theorem SkL.refl : ∀ ts : List LTerm, SkL ts ts
  | [] => by rw [SkL]
  | t :: ts => by rw [SkL]; exact ⟨t, ts, rfl, Sk.refl t, SkL.refl ts⟩
end
theorem LU_get {B : Nat → Prop} {w : World} {p : Option Addr} : ∀ {ts : List LTerm} {k : Nat}, LU B w p ts → k < ts.length → (∃ b cs T, p = some ⟨b, 0, none⟩ ∧ B b ∧ w.heap[b]? = some (.cells cs T (0, 0))) ∧ TU B w (nthL ts k)
  | [], k, _, hk => by simp at hk
  | t :: ts, k, h, hk => by
    rw [LU] at h
    cases k with
    | zero => exact ⟨h.1, h.2.1⟩
    | succ k =>
      obtain ⟨e1, e2⟩ := LU_get (k := k) h.2.2 (by simpa using hk)
      exact ⟨e1, e2⟩
theorem step_new {B : Nat → Prop} {w w' : World} (h : Step B w w') : ∀ b cs T, B b → w.heap[b]? = some (.cells cs T (0, 0)) → B b ∧ ∃ cs', w'.heap[b]? = some (.cells cs' T (0, 0)) := fun b cs T hb hc => by
  obtain ⟨o, o', h1, h2, h3⟩ := h b hb
  rw [hc] at h1
  injection h1 with h1
  subst h1
  refine ⟨hb, ?_⟩
  rcases h3 with rfl | ⟨ds, ds', T', fr, e, rfl, -⟩
  · exact ⟨_, h2⟩
  · injection e with e1 e2 e3
    subst e1 e2 e3
    exact ⟨_, h2⟩
theorem step_set {B : Nat → Prop} {w0 w : World} {b o : Nat} {cs : Array Value} {T : TypeId} {k m : Int} (h : Step B w0 w) (hb : w.heap[b]? = some (.cells cs T (0, 0))) (hc : cs[o]? = some (.int .i64 k)) : Step B w0 (w.setRow b (cs.toList.take o ++ [Value.int .i64 m] ++ cs.toList.drop (o + 1)).toArray) := by
  refine h.trans fun i hi => ?_
  obtain ⟨_, o1, _, h2, _⟩ := h i hi
  have ho : o < cs.size := (Array.getElem?_eq_some_iff.1 hc).1
  by_cases hib : i = b
  · subst hib
    refine ⟨_, _, hb, setRow_heap w i cs _ T _ hb, .inr ⟨_, _, _, _, rfl, rfl, fun j v hj => ?_⟩⟩
    have hj2 : cs.toList[j]? = some v := by rw [Array.getElem?_toList]; exact hj
    have hlen : (cs.toList.take o).length = o := by rw [List.length_take, Array.length_toList]; omega
    rw [List.getElem?_toArray, List.append_assoc]
    rcases Nat.lt_trichotomy j o with hjo | rfl | hjo
    · left
      rw [List.getElem?_append_left (by omega), List.getElem?_take_of_lt hjo]; exact hj2
    · right
      rw [hc] at hj
      injection hj with hj
      subst hj
      exact ⟨k, m, rfl, by rw [List.getElem?_append_right (by omega), hlen, Nat.sub_self]; rfl⟩
    · left
      rw [List.getElem?_append_right (by omega), hlen]
      obtain ⟨d, rfl⟩ : ∃ d, j = o + 1 + d := ⟨j - (o + 1), by omega⟩
      rw [show o + 1 + d - o = d + 1 from by omega]
      simp only [List.singleton_append, List.getElem?_cons_succ, List.getElem?_drop]
      exact hj2
  · have ha := Agree.setRow (M := fun k => k = b) w b (cs.toList.take o ++ [Value.int .i64 m] ++ cs.toList.drop (o + 1)).toArray rfl
    refine ⟨o1, o1, h2, ?_, .inl rfl⟩
    rw [ha.blk (Array.getElem?_eq_some_iff.1 h2).1 hib]; exact h2
section
variable {P : Program} {r : Option Nat} {ops : Array Oper} {Q : Exit → Act → World → Prop} {w0 : World} {M0 : Nat → Prop} {ds : List Deferred} {a : Act} {w : World} {l l' : List Value} {bs : List Wk.Item} {fs : List (World → Prop)}
  {d : Option Nat} {ty t : TypeId} {pos : String} {af : Array Edge} {rest : List Oper} {x y : Operand} {z : Value} {by_ : Nat}
/-- a number is written into a block that an item holds. -/
theorem sraw (B : Nat → Prop) (wB : World) {X : Addr} {b o : Nat} {cs : Array Value} {T : TypeId} {k m : Int} (S : St w0 M0 ds a w l bs fs) [Ev ⟨[], l⟩ x (.pointer (some X))] [Ev ⟨[], l⟩ y (.int .i64 m)] [TI P t z 1 by_] [hrep : ReplI bs (stp B wB) (stp B wB) bs] [hi : HasIt bs (stp B wB)] [hp : PutO l d undef l']
    (hX : X = ⟨b, o, none⟩) (hb : w.heap[b]? = some (.cells cs T (0, 0))) (hc : cs[o]? = some (.int .i64 k)) (hB : B b)
    (K : ∀ a w, St w0 M0 ds a w l' bs fs → WL P r ops Q rest a w) : WL P r ops Q (⟨d, .store t x y, ty, pos, af, none⟩ :: rest) a w := by
  refine wl_plain rfl ?_
  rw [semAt_nd rfl]
  have ho : o < cs.size := (Array.getElem?_eq_some_iff.1 hc).1
  have hrun := run_storeCells_at (P := P) b o T [Value.int .i64 m] 0 cs w hb (by simp only [List.length_singleton]; omega) (by intro v hv; obtain rfl := List.mem_singleton.1 hv; rfl)
  simp only [Nat.add_zero, List.length_singleton] at hrun
  have e1 : (xop a.eval (.store t x y) ty).run P w = .ok .skip (w.setRow b (cs.toList.take o ++ [Value.int .i64 m] ++ cs.toList.drop (o + 1)).toArray) := by
    have hx := S.fr.ev (x := x) (v := .pointer (some X))
    rw [hX] at hx
    have hcs : (Value.int .i64 m).cells = #[Value.int .i64 m] := rfl
    simp [xop, execOp, Instr.storeAt, hx, S.fr.ev (x := y) (v := .int .i64 m), Instr.sureAddr, storeVar, run_size, Sem.run_bind, hcs, hrun]
  simp only [e1, Oper.uponIn]
  have S' := S.put (d := d) (v := undef) (l' := l')
  have hst : Step B wB w := S.it (stp B wB)
  exact K _ _ (S.reput (x := stp B wB) (y := stp B wB) S'.slots S'.defers rfl (Agree.setRow w b _ hB) (step_set hst hb hc) (fun k h => .inl h) (stpOk.lt _ (step_set hst hb hc)) stpOk.loc)
end
end Go.Proofs.YtieeoakdkbackaaDoor

/- What is spoilt; proofs in new memory. -/
namespace Go.Proofs.YtieeoakdkbackaaDoor
open Go Go.Wk
set_option synthInstance.maxSize 100000
set_option synthInstance.maxHeartbeats 400000
set_option maxRecDepth 100000

theorem nthL_val {ts : List LTerm} {k : Nat} (h : k < ts.length) : ts[k]? = some (nthL ts k) := nth_get h
theorem spoil_c (N : Nat) : ∀ (t : LTerm) (B : Nat → Prop) (w0 : World), dpt t.t < N → LtIn w0 t → TU B w0 t → (∀ k, B k → k < w0.heap.size) → Ret Tryd.prog 32 [vL t] w0 B fun _ w' => Step B w0 w' := by
  induction N with
  | zero => intro t _ _ h; exact absurd h (Nat.not_lt_zero _)
  | succ N ih =>
  intro t B w0 hN hin htu hB
  have hcap : t.kids.length ≤ maxLen := Nat.le_trans (LtIn.iff.1 hin).1 (LtIn.iff.1 hin).2.1
  have hL : t.kids.length ≤ 9223372036854775807 := by unfold maxLen at hcap; omega
  have hW : Wd w0 B w0 [stp B w0] [] := ⟨Agree.refl _ _, fun it hi => by obtain rfl := List.mem_singleton.1 hi; exact Step.refl hB, fun it hi k hk => by obtain rfl := List.mem_singleton.1 hi; exact hB k hk, fun it hi _ k hk => by obtain rfl := List.mem_singleton.1 hi; exact .inl hk, by simp, by simp, fun it hi => by obtain rfl := List.mem_singleton.1 hi; exact stpOk.loc⟩
  refine enter Tryd.func32 rfl rfl (hW) (fun a S => ?_)
  simp only [Tryd.ntmps32, List.length_cons, List.length_nil, Nat.reduceAdd, Nat.reduceSub, List.replicate_succ, List.replicate_zero, List.cons_append, List.nil_append] at S
  refine c_seq ?_
  refine c_region ?_
  refine sa S ?_; clear S; intro b1 a w S
  refine wl_nil ?_
  refine xtn ?_
  refine c_seq ?_
  refine c_region ?_
  iterate 4 (refine sq S ?_; clear S; intro a S)
  refine wl_nil ?_
  refine xtn ?_
  refine c_block ?_
  refine c_fore1 S (fun (k : Nat) uu => [(2, uu 2), (3, .int .i64 (k : Nat)), (0, uu 7), (0, uu 8), (0, uu 9), (0, uu 10), (0, uu 11), (0, uu 12), (0, uu 13), (0, uu 14), (0, uu 15), (0, uu 16), (0, uu 17), (0, uu 18), (0, uu 19), (0, uu 20)]) (fun (k : Nat) => [Wk.box b1 24 t.cells, stp B w0]) (fun (k : Nat) => []) (fun (k : Nat) => k ≤ t.kids.length) (fun (k : Nat) => t.kids.length - k) (0) ?_ S.uu ?_ ?_
  · exact Nat.zero_le _
  · first | exact S | exact S.sub _ _
  · clear S; rintro k uu a w hk S
    refine c_seq ?_
    refine c_region ?_
    refine sq S ?_; clear S; intro a S
    refine wl_nil ?_
    refine xtn ?_
    refine c_seq ?_
    refine c_cond S (fun h2 => ?_) (fun h2 => ?_)
    · refine c_skip ?_
      refine xtn ?_
      refine c_seq ?_
      refine c_block ?_
      refine c_seq ?_
      refine c_region ?_
      iterate 2 (refine sq S ?_; clear S; intro a S)
      refine wl_nil ?_
      refine xtn ?_
      refine c_seq ?_
      have hkl : k < t.kids.length := by simp at h2; omega
      have hK : KLt k t.kids.length := ⟨hkl⟩
      have hst : Step B w0 w := S.it (stp B w0)
      obtain ⟨ks', hsk, hks⟩ := LsIn_step hst S.wd.agree t.kids t.p 0 (LtIn.iff.1 hin).2.2
      have hlu : LU B w0 t.p t.kids := by rw [← TU.eq]; exact htu
      have hlu2 : LU B w t.p ks' := LU_map (step_new hst) t.kids ks' t.p hsk hlu
      have hkl2 : k < ks'.length := by rw [hsk.len]; exact hkl
      obtain ⟨⟨b, cs, T, hpb, hBb, hob⟩, htuk⟩ := LU_get hlu2 hkl2
      obtain ⟨⟨ad, hpa, hca⟩, hink⟩ := LsIn.get hks (nth_get hkl2)
      have hPS : PS t.p := ⟨_, hpb⟩
      have hdk : dpt (nthL ks' k).t < N := by
        rw [(SkL.get hsk hkl).dpt]
        have := dpt_kid hkl
        omega
      refine c_region ?_
      iterate 4 (refine sq S ?_; clear S; intro a S)
      refine slA (nthL ks' k).cells S (fun j v hj => ?_) ?_
      · rw [rAddr, hpa]
        have := hca j v hj
        rw [show (0 + k) * 5 + j = k * 5 + j from by omega] at this
        simp only [Option.getD_some, add_add]
        exact this
      clear S; intro a S
      refine sit (stp B w0) S (ih (nthL ks' k) B w hdk hink htuk (fun k hk => Nat.lt_of_lt_of_le (hB k hk) S.wd.agree.size)) rfl ?_
      clear S; rintro _ a w2 hR hS
      have S := hS (stp B w0) (hst.trans hR) (fun k h => .inl h)
      clear hS
      have hst2 : Step B w0 w2 := hst.trans hR
      obtain ⟨b2, cs2, T2, hpb2, hBb2, hob2⟩ := (LU_get (LU_map (step_new hst2) t.kids ks' t.p hsk hlu) hkl2).1
      obtain ⟨ks2, hsk2, hks2⟩ := LsIn_step hst2 S.wd.agree t.kids t.p 0 (LtIn.iff.1 hin).2.2
      obtain ⟨⟨ad2, hpa2, hca2⟩, -⟩ := LsIn.get hks2 (nth_get (by rw [hsk2.len]; exact hkl) : ks2[k]? = some (nthL ks2 k))
      have hcell : cs2[k * 5]? = some (.int .i64 (nthL ks2 k).kind) := by
        have h := hca2 0 (.int .i64 (nthL ks2 k).kind) (by cases nthL ks2 k; rfl)
        rw [hpb2] at hpa2
        injection hpa2 with hpa2
        rw [← hpa2, add_lit] at h
        unfold World.cell? at h
        rw [hob2] at h
        simpa using h
      refine wl_nil ?_
      refine xtn ?_
      refine c_region ?_
      iterate 4 (refine sq S ?_; clear S; intro a S)
      rw [show rAddr t.p (k * 5) = ⟨b2, k * 5, none⟩ from by rw [rAddr, hpb2, Option.getD_some, add_lit]] at S
      refine sq S ?_; clear S; intro a S
      refine sraw B w0 S rfl hob2 hcell hBb2 ?_; clear S; intro a w S
      refine wl_nil ?_
      refine xbn ?_
      refine xtn ?_
      refine c_region ?_
      iterate 2 (refine sq S ?_; clear S; intro a S)
      refine wl_nil ?_
      refine xtn ?_
      rw [w64 ((k : Int) + 1) (by omega) (by omega)] at S
      exact ⟨k + 1, S.uu, hkl, S.sub _ _, by omega⟩
    · refine c_exit ?_
      iterate 2 (refine xte ?_)
      refine xbe ?_
      have hst : Step B w0 w := S.it (stp B w0)
      refine end0 S (fun _ => hst)
end Go.Proofs.YtieeoakdkbackaaDoor
