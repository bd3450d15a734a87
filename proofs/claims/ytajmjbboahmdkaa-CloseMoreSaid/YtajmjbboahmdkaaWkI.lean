import Derived.Test.YtajmjbboahmdkaaWkH
namespace Go.Wk
open Go

/-! who is called, with what -/
class AppL {α : Type} (x y : List α) (z : outParam (List α)) : Prop where eq : x ++ y = z
instance appl0 {α : Type} {y : List α} : AppL [] y y := ⟨rfl⟩
instance appl1 {α : Type} {u : α} {x y z : List α} [h : AppL x y z] : AppL (u :: x) y (u :: z) := ⟨by simp [h.eq]⟩
class CallTo (l : Cx) (x : Operand) (xs : List Operand) (f : outParam Nat) (args : outParam (List Value)) : Prop where
  ex : ∃ fi ca vs, Ev l x (.func (.func f) ⟨fi⟩ ⟨ca⟩) ∧ EvL l xs vs ∧ fi ++ vs ++ ca = args
instance (priority := 1100) callto0 {l : Cx} {f : Nat} {xs : List Operand} {vs : List Value} [h : EvL l xs vs] : CallTo l (.func f) xs f vs := ⟨[], [], vs, evF, h, by simp⟩
instance callto1 {l : Cx} {x : Operand} {f : Nat} {xs : List Operand} {fi ca vs u args : List Value} [h0 : Ev l x (.func (.func f) ⟨fi⟩ ⟨ca⟩)] [h : EvL l xs vs] [h1 : AppL fi vs u] [h2 : AppL u ca args] : CallTo l x xs f args := ⟨fi, ca, vs, h0, h, by rw [h1.eq, h2.eq]⟩
theorem run_callto {P : Program} {ρ : Operand → Value} {x : Operand} {f : Nat} {xs : List Operand} {l : Cx} {args : List Value} {ts : Array TypeId} {ty : TypeId} [he : EntF P f] [hc : CallTo l x xs f args] (h : Fr ρ l) (w : World) :
    (xop ρ (.call { callee := .value x, args := xs.toArray, argTypes := ts }) ty).run P w = .ok (.enter f args.toArray) w := by
  obtain ⟨fi, ca, vs, h0, h1, rfl⟩ := hc.ex
  have e := h.evl (xs := xs) (vs := vs)
  have hf : ρ x = .func (.func f) ⟨fi⟩ ⟨ca⟩ := h.ev
  have := he.run (fi ++ vs ++ ca).toArray w
  simp [xop, execOp, resolve, hf, Deferred.ofValue, invoke, e]
  simpa using this

section
variable {P : Program} {r : Option Nat} {ops : Array Oper} {Q : Exit → Act → World → Prop} {w0 : World} {M0 : Nat → Prop} {ds : List Deferred} {a : Act} {w : World} {l l' : List Value} {bs bs' : List Item} {fs : List (World → Prop)}
  {d : Option Nat} {op : Op} {ty : TypeId} {pos : String} {af : Array Edge} {rest : List Oper} {v v' G : Value} {f : Nat} {x : Operand} {xs : List Operand} {args : List Value} {ts : Array TypeId} {j g : Nat} {pol : Bool} {cs : List Bool}

theorem cv_any [EntF P f] [CallTo ⟨[], l⟩ x xs f args] (S : St w0 M0 ds a w l bs fs) {R : Ending → World → Prop} (hc : Calls P f args.toArray w R) (K : ∀ e w', R e w' → ∃ v, e = .returned v ∧ WL P r ops Q rest (a.put d v) w') :
    WL P r ops Q (⟨d, .call { callee := .value x, args := xs.toArray, argTypes := ts }, ty, pos, af, none⟩ :: rest) a w := by
  refine wl_plain rfl ?_
  rw [semAt_nd rfl]
  simp only [run_callto (f := f) (args := args) S.fr, Oper.uponIn]
  refine ⟨fun h => (by cases h), trivial, fun cs _ => ?_⟩
  obtain ⟨e, w', fr, hR, hcm, h1, h2⟩ := hc cs
  obtain ⟨v, rfl, hk⟩ := K e w' hR
  exact ⟨.returned v, w', fr, hk, (comesIn_wide (m := lone (Frame.enter P f args.toArray .normal) cs w) (e := .returned v)).2 hcm, h1, h2⟩
/-- a call by its rule: nothing that lay there has changed. -/
theorem sr {l' : Value → List Value} [EntF P f] [CallTo ⟨[], l⟩ x xs f args] [hp : ∀ v, PutO l d v (l' v)] (S : St w0 M0 ds a w l bs fs) {R : Value → World → Prop} (hc : Ret P f args w (fun _ => False) R)
    (K : ∀ v a w', R v w' → St w0 M0 ds a w' (l' v) bs fs → WL P r ops Q rest a w') :
    WL P r ops Q (⟨d, .call { callee := .value x, args := xs.toArray, argTypes := ts }, ty, pos, af, none⟩ :: rest) a w := by
  refine cv_any S hc ?_
  rintro e w' ⟨v, rfl, ha, hR⟩
  have := hp v
  have S' := S.put (d := d) (v := v)
  exact ⟨v, rfl, K v _ w' hR ⟨S'.slots, S'.defers, S'.wd.step ha⟩⟩
/-- a call whose value is known. -/
theorem sc [EntF P f] [CallTo ⟨[], l⟩ x xs f args] [hv : CallV P f args bs fs v] [hp : PutO l d v l'] (S : St w0 M0 ds a w l bs fs)
    (K : ∀ a w, St w0 M0 ds a w l' bs fs → WL P r ops Q rest a w) :
    WL P r ops Q (⟨d, .call { callee := .value x, args := xs.toArray, argTypes := ts }, ty, pos, af, none⟩ :: rest) a w := by
  refine cv_any S (hv.run w S.wd.mem) ?_
  rintro e w' ⟨u, rfl, ha, rfl⟩
  have S' := S.put (d := d) (v := u) (l' := l')
  exact ⟨u, rfl, K _ w' ⟨S'.slots, S'.defers, S'.wd.step ha⟩⟩
/-- a call that writes into one box. -/
theorem sb {l' : Value → List Value} {b : Nat} {t : TypeId} {cs : List Value} [EntF P f] [CallTo ⟨[], l⟩ x xs f args] [hp : ∀ v, PutO l d v (l' v)] [HasBox bs b t cs] (S : St w0 M0 ds a w l bs fs) {R : Value → World → Prop} (hc : Ret P f args w (fun k => k = b) R)
    (K : ∀ v a w', R v w' → (∀ cs' bs', Repl bs b t cs cs' bs' → w'.heap[b]? = some (.cells cs'.toArray t (0, 0)) → St w0 M0 ds a w' (l' v) bs' fs) → WL P r ops Q rest a w') :
    WL P r ops Q (⟨d, .call { callee := .value x, args := xs.toArray, argTypes := ts }, ty, pos, af, none⟩ :: rest) a w := by
  refine cv_any S hc ?_
  rintro e w' ⟨v, rfl, ha, hR⟩
  have := hp v
  have S' := S.put (d := d) (v := v)
  refine ⟨v, rfl, K v _ w' hR fun cs' bs' hrep hb' => ⟨S'.slots, S'.defers, ?_⟩⟩
  obtain ⟨pre, post, e1, e2⟩ := hrep.ex
  have hwd := S'.wd
  rw [e1] at hwd
  rw [e2]
  exact hwd.touch ha hb'
/-- a guarded call whose value is known. -/
theorem gC [hg : GSlot ops j g] [hn : Nth l g G] [hc : Conds G pol cs] [EntF P f] [he : CallTo ⟨cs, l⟩ x xs f args] [hq : CallV P f args bs fs v] [hv : GifV cs v v'] [hp : PutO l d v' l'] (S : St w0 M0 ds a w l bs fs)
    (K : ∀ a w, St w0 M0 ds a w l' bs fs → WL P r ops Q rest a w) : WL P r ops Q (⟨d, .call { callee := .value x, args := xs.toArray, argTypes := ts }, ty, pos, af, some (j, pol)⟩ :: rest) a w := by
  have hw := wanted_iff (ops := ops) (d := d) (op := .call { callee := .value x, args := xs.toArray, argTypes := ts }) (ty := ty) (pos := pos) (af := af) (pol := pol) S hg.eq
  have S' := S.put (d := d) (v := v') (l' := l')
  refine wl_guard (fun ht => ?_) (fun hf => ?_)
  · have hall := hw.1 ht
    have : CallTo ⟨[], l⟩ x xs f args := ⟨by
      obtain ⟨fi, ca, vs, h0, h1, h2⟩ := he.ex
      exact ⟨fi, ca, vs, ⟨fun _ ds => h0.eq hall ds⟩, ⟨fun _ ds => h1.eq hall ds⟩, h2⟩⟩
    refine sc S (v := v) (l' := l') (K := K) (hp := ⟨fun ds => ?_⟩)
    rw [← hp.eq, hv.eq, if_pos hall]
  · have hall : ¬ ∀ c ∈ cs, c = true := fun h => by rw [hw.2 h] at hf; cases hf
    have e := hv.eq
    rw [if_neg hall] at e
    rw [← e]
    exact K _ _ S'
/-- the guard is decided by cases. -/
theorem gS {c : Bool} {lt lf : List Value} [hg : GSlot ops j g] [hn : Nth l g (.bool c)] [h1 : PutAt l g (.bool true) lt] [h2 : PutAt l g (.bool false) lf] (S : St w0 M0 ds a w l bs fs)
    (ht : c = true → St w0 M0 ds a w lt bs fs → WL P r ops Q (⟨d, op, ty, pos, af, some (j, pol)⟩ :: rest) a w)
    (hf : c = false → St w0 M0 ds a w lf bs fs → WL P r ops Q (⟨d, op, ty, pos, af, some (j, pol)⟩ :: rest) a w) : WL P r ops Q (⟨d, op, ty, pos, af, some (j, pol)⟩ :: rest) a w := by
  have key : ∀ b, c = b → l.set g (.bool b) = l := fun b hb => by
    subst hb
    apply List.ext_getElem?
    intro k
    rw [List.getElem?_set]
    split
    · subst_vars
      have := hn.eq
      split <;> simp_all
    · rfl
  cases c
  · exact hf rfl (by rw [← h2.eq, key false rfl]; exact S)
  · exact ht rfl (by rw [← h1.eq, key true rfl]; exact S)
end

/-! a function's end, whatever its results -/
class ResV (P : Program) (l : List Value) (bs : List Item) (rv : ResultVar) (v : outParam Value) : Prop where
  run : ∀ (w : World), (∀ it ∈ bs, it.holds w) → (match rv with | .tmp t => (pure (l.toArray.getD t undef) : Sem Value) | .cell a t => do loadVar t (← asAddr (l.toArray.getD a undef))).run P w = .ok v w
instance resT {P l bs t v} [h : Nth l t v] : ResV P l bs (.tmp t) v := ⟨fun w _ => by
  have := h.eq; simp [Array.getD_eq_getD_getElem?, this]⟩
instance resC1 {P l bs a t b bt cs v} [h : Nth l a (.pointer (some ⟨b, 0, none⟩))] [hb : HasBox bs b bt cs] [ha : AggT P t false] [hn : Nth cs 0 v] : ResV P l bs (.cell a t) v := ⟨fun w hh => by
  have e := h.eq
  have hc : w.cell? ⟨b, 0, none⟩ = some v := by rw [cell_of_row w b 0 cs.toArray bt (0, 0) (hh _ hb.mem)]; simpa using hn.eq
  simp [Array.getD_eq_getD_getElem?, e, asAddr, loadVar, Sem.run_bind, ha.run, load, Sem.run, hc]⟩
instance resCA {P l bs a t b bt cs z n by_ vs} [h : Nth l a (.pointer (some ⟨b, 0, none⟩))] [hb : HasBox bs b bt cs] [ha : AggT P t true] [TI P t z n by_] [hn : Seg cs 0 n vs] : ResV P l bs (.cell a t) (.agg ⟨vs⟩) := ⟨fun w hh => by
  have e := h.eq
  have hl : (loadCells ⟨b, 0, none⟩ n).run P w = .ok vs.toArray w := by
    have := run_loadCells_list (P := P) w ⟨b, 0, none⟩ vs (fun j v hj => by
      have hjn : j < n := by rw [← hn.eq.1]; exact (List.getElem?_eq_some_iff.1 hj).1
      have e : (⟨b, 0, none⟩ : Addr).add j = ⟨b, j, none⟩ := by unfold Addr.add; split <;> simp_all
      have h2 := hn.eq.2 j hjn
      rw [e, cell_of_row w b j cs.toArray bt (0, 0) (hh _ hb.mem)]
      simpa [hj] using h2)
    rw [hn.eq.1] at this
    exact this
  simp [Array.getD_eq_getD_getElem?, e, asAddr, loadVar, Sem.run_bind, ha.run, run_size, hl]⟩
class FnRes (fn : Func) (rs : outParam (List ResultVar)) : Prop where eq : fn.results = rs.toArray
def resSem (l : List Value) (rv : ResultVar) : Sem Value := match rv with | .tmp t => pure (l.toArray.getD t undef) | .cell a t => do loadVar t (← asAddr (l.toArray.getD a undef))
theorem run_res {P : Program} {l : List Value} {bs : List Item} {rv : ResultVar} {v : Value} [h : ResV P l bs rv v] (w : World) (hh : ∀ it ∈ bs, it.holds w) : (resSem l rv).run P w = .ok v w := h.run w hh
theorem results_eq {fn : Func} {rs : List ResultVar} [hr : FnRes fn rs] (l : List Value) : results fn l.toArray = (do let vs ← rs.toArray.mapM (resSem l); pure (if h : vs.size = 1 then vs[0] else .tuple vs)) := by
  unfold results
  rw [hr.eq]
  rfl
section
variable {P : Program} {fn : Func} {R : Value → World → Prop} {w0 : World} {M0 : Nat → Prop} {a : Act} {w : World} {l : List Value} {bs : List Item} {fs : List (World → Prop)} {e : Exit}
theorem fin_any {v : Value} (S : St w0 M0 [] a w l bs fs) (hv : (results fn l.toArray).run P w = .ok v w) (h : Agree M0 w0 w → R v w) (he : e = .ret ∨ e = .normal := by simp) : bodyPost P fn (fun e w' => ∃ v, e = .returned v ∧ Agree M0 w0 w' ∧ R v w') e a w := by
  rw [← S.slots] at hv
  rcases he with rfl | rfl
  · exact bodyPost_ret hv S.defers ⟨_, rfl, S.wd.agree, h S.wd.agree⟩
  · exact bodyPost_end hv S.defers ⟨_, rfl, S.wd.agree, h S.wd.agree⟩
theorem end0 [hr : FnRes fn []] (S : St w0 M0 [] a w l bs fs) (h : Agree M0 w0 w → R (.tuple #[]) w) (he : e = .ret ∨ e = .normal := by simp) : bodyPost P fn (fun e w' => ∃ v, e = .returned v ∧ Agree M0 w0 w' ∧ R v w') e a w :=
  fin_any S (by rw [results_eq (rs := [])]; simp) h he
theorem end1 {r1 : ResultVar} {v1 : Value} [hr : FnRes fn [r1]] [h1 : ResV P l bs r1 v1] (S : St w0 M0 [] a w l bs fs) (h : Agree M0 w0 w → R v1 w) (he : e = .ret ∨ e = .normal := by simp) : bodyPost P fn (fun e w' => ∃ v, e = .returned v ∧ Agree M0 w0 w' ∧ R v w') e a w :=
  fin_any S (by rw [results_eq (rs := [r1])]; simp [run_res (P := P) (l := l) (bs := bs) (rv := r1) (v := v1) w S.wd.held]) h he
theorem end2 {r1 r2 : ResultVar} {v1 v2 : Value} [hr : FnRes fn [r1, r2]] [h1 : ResV P l bs r1 v1] [h2 : ResV P l bs r2 v2] (S : St w0 M0 [] a w l bs fs) (h : Agree M0 w0 w → R (.tuple ⟨[v1, v2]⟩) w) (he : e = .ret ∨ e = .normal := by simp) : bodyPost P fn (fun e w' => ∃ v, e = .returned v ∧ Agree M0 w0 w' ∧ R v w') e a w :=
  fin_any S (by rw [results_eq (rs := [r1, r2])]; simp [run_res (P := P) (l := l) (bs := bs) (rv := r1) (v := v1) w S.wd.held, run_res (P := P) (l := l) (bs := bs) (rv := r2) (v := v2) w S.wd.held]) h he
theorem end3 {r1 r2 r3 : ResultVar} {v1 v2 v3 : Value} [hr : FnRes fn [r1, r2, r3]] [h1 : ResV P l bs r1 v1] [h2 : ResV P l bs r2 v2] [h3 : ResV P l bs r3 v3] (S : St w0 M0 [] a w l bs fs) (h : Agree M0 w0 w → R (.tuple ⟨[v1, v2, v3]⟩) w) (he : e = .ret ∨ e = .normal := by simp) : bodyPost P fn (fun e w' => ∃ v, e = .returned v ∧ Agree M0 w0 w' ∧ R v w') e a w :=
  fin_any S (by rw [results_eq (rs := [r1, r2, r3])]; simp [run_res (P := P) (l := l) (bs := bs) (rv := r1) (v := v1) w S.wd.held, run_res (P := P) (l := l) (bs := bs) (rv := r2) (v := v2) w S.wd.held, run_res (P := P) (l := l) (bs := bs) (rv := r3) (v := v3) w S.wd.held]) h he
theorem end4 {r1 r2 r3 r4 : ResultVar} {v1 v2 v3 v4 : Value} [hr : FnRes fn [r1, r2, r3, r4]] [h1 : ResV P l bs r1 v1] [h2 : ResV P l bs r2 v2] [h3 : ResV P l bs r3 v3] [h4 : ResV P l bs r4 v4] (S : St w0 M0 [] a w l bs fs) (h : Agree M0 w0 w → R (.tuple ⟨[v1, v2, v3, v4]⟩) w) (he : e = .ret ∨ e = .normal := by simp) : bodyPost P fn (fun e w' => ∃ v, e = .returned v ∧ Agree M0 w0 w' ∧ R v w') e a w :=
  fin_any S (by rw [results_eq (rs := [r1, r2, r3, r4])]; simp [run_res (P := P) (l := l) (bs := bs) (rv := r1) (v := v1) w S.wd.held, run_res (P := P) (l := l) (bs := bs) (rv := r2) (v := v2) w S.wd.held, run_res (P := P) (l := l) (bs := bs) (rv := r3) (v := v3) w S.wd.held, run_res (P := P) (l := l) (bs := bs) (rv := r4) (v := v4) w S.wd.held]) h he
end

/-! structs and slices that are written out -/
/-- where the parts of a struct or an array lie. -/
class PlOf (P : Program) (t : TypeId) (pl : outParam (List (Nat × Nat))) : Prop where
  ex : ∃ fields, P.underlying t = some (.struct fields) ∧ (fields.map fun f => (f.offset, (P.info? f.type).map (·.size))) = (pl.map fun x => (x.1, some x.2)).toArray
theorem plof_of {P : Program} {t : TypeId} {pl : List (Nat × Nat)} (h : (P.underlying t).bind (fun d => match d with | .struct fs => some (fs.map fun f => (f.offset, (P.info? f.type).map (·.size))) | _ => none) = some (pl.map fun x => (x.1, some x.2)).toArray) : PlOf P t pl := ⟨by
  cases hu : P.underlying t with
  | none => simp [hu] at h
  | some d => cases d <;> simp [hu] at h; exact ⟨_, rfl, by simpa using h⟩⟩
class NthP (pl : List (Nat × Nat)) (i : Nat) (o s : outParam Nat) : Prop where eq : pl[i]? = some (o, s)
instance nthp0 {o s : Nat} {pl : List (Nat × Nat)} : NthP ((o, s) :: pl) 0 o s := ⟨rfl⟩
instance nthpS {x : Nat × Nat} {pl : List (Nat × Nat)} {i o s : Nat} [h : NthP pl i o s] : NthP (x :: pl) (i + 1) o s := ⟨by simpa using h.eq⟩
class MulN (i s : Nat) (o : outParam Nat) : Prop where eq : i * s = o
instance (priority := 1100) muln1 {i : Nat} : MulN i 1 i := ⟨by simp⟩
instance muln0 {s : Nat} : MulN 0 s 0 := ⟨by simp⟩
class AddN (a b : Nat) (c : outParam Nat) : Prop where eq : a + b = c
instance addn0 {a : Nat} : AddN a 0 a := ⟨rfl⟩
instance addnS {a b c : Nat} [h : AddN a b c] : AddN a (b + 1) (c + 1) := ⟨by rw [← h.eq]; omega⟩
instance mulnS {i s o o' : Nat} [h : MulN i s o] [h' : AddN o s o'] : MulN (i + 1) s o' := ⟨by rw [← h'.eq, ← h.eq]; simp [Nat.add_mul]⟩
class SetMany (place : Nat → Option (Nat × Nat)) (l : Cx) (cs : List Value) (parts : List (Nat × Operand)) (cs' : outParam (List Value)) : Prop where
  run : ∀ ρ : Operand → Value, Fr ρ l → Instr.fill place cs.toArray (parts.map fun (i, x) => (i, ρ x)) = some cs'.toArray
instance setm0 {place l cs} : SetMany place l cs [] cs := ⟨fun _ _ => rfl⟩
class PlaceAt (place : Nat → Option (Nat × Nat)) (i : Nat) (o s : outParam Nat) : Prop where eq : place i = some (o, s)
instance placeS {pl : List (Nat × Nat)} {i o s : Nat} [h : NthP pl i o s] : PlaceAt (fun i => pl[i]?) i o s := ⟨h.eq⟩
instance placeA {i o s : Nat} [h : MulN i s o] : PlaceAt (fun i => some (i * s, s)) i o s := ⟨by rw [h.eq]⟩
theorem fold_set (vs : List Value) (cs : List Value) (off : Nat) (h : off + vs.length ≤ cs.length) : ((vs.toArray.zipIdx.foldl (fun cs (c, j) => cs.setIfInBounds (off + j) c) cs.toArray)) = (cs.take off ++ vs ++ cs.drop (off + vs.length)).toArray := by
  have key : ∀ (vs : List Value) (k : Nat) (cs : List Value), off + k + vs.length ≤ cs.length → ((vs.zipIdx k).foldl (fun (cs : Array Value) (x : Value × Nat) => cs.setIfInBounds (off + x.2) x.1) cs.toArray) = (cs.take (off + k) ++ vs ++ cs.drop (off + k + vs.length)).toArray := by
    intro vs
    induction vs with
    | nil => intro k cs _; simp
    | cons v vs ih =>
      intro k cs h
      simp only [List.length_cons] at h
      simp only [List.zipIdx_cons, List.foldl_cons, List.setIfInBounds_toArray]
      rw [ih (k + 1) (cs.set (off + k) v) (by simp; omega)]
      congr 1
      have e1 : (cs.set (off + k) v).take (off + (k + 1)) = cs.take (off + k) ++ [v] := by
        rw [show off + (k + 1) = (off + k) + 1 from by omega, List.take_set, List.take_succ_eq_append_getElem (by omega), List.set_append_right _ _ (by simp; omega)]
        simp [List.length_take, Nat.min_eq_left (show off + k ≤ cs.length from by omega)]
      rw [e1, List.drop_set_of_lt (by omega)]
      simp only [List.append_assoc, List.cons_append, List.nil_append, List.length_cons]
      rw [show off + (k + 1) + vs.length = off + k + (vs.length + 1) from by omega]
  have := key vs 0 cs (by simpa using h)
  rw [← Array.foldl_toList, Array.toList_zipIdx]
  simpa using this
instance setmS {place : Nat → Option (Nat × Nat)} {l : Cx} {cs cs1 cs' vs : List Value} {i o s : Nat} {x : Operand} {v : Value} {parts : List (Nat × Operand)} [hp : PlaceAt place i o s] [hv : Ev l x v] [hc : Cells v vs] [hl : LenIs vs s] [hs : SetSeg cs o vs cs1] [h : SetMany place l cs1 parts cs'] : SetMany place l cs ((i, x) :: parts) cs' := ⟨fun ρ hf => by
  have e := hf.ev (x := x) (v := v)
  have hcs : v.cells = vs.toArray := by rw [← hc.eq]
  simp only [List.map_cons, Instr.fill, hp.eq, e, hcs]
  have h1 := hs.eq
  rw [if_neg (by simp [hl.eq]; have := hl.eq; omega)]
  have h2 := fold_set vs cs o h1.1
  rw [h1.2] at h2
  rw [h2]
  exact h.run ρ hf⟩
theorem run_places {P : Program} (w : World) : ∀ (fl : List Field) (pl : List (Nat × Nat)), fl.map (fun f => (f.offset, (P.info? f.type).map (·.size))) = pl.map (fun x => (x.1, some x.2)) →
    (fl.mapM (fun f => do pure (f.offset, ← sizeOf f.type) : Field → Sem (Nat × Nat))).run P w = .ok pl w
  | [], [], _ => by simp
  | [], x :: pl, h => by simp at h
  | f :: fl, [], h => by simp at h
  | f :: fl, x :: pl, h => by
    simp only [List.map_cons, List.cons.injEq, Prod.mk.injEq] at h
    obtain ⟨⟨h1, h2⟩, h3⟩ := h
    have ih := run_places w fl pl h3
    cases hi : P.info? f.type with
    | none => simp [hi] at h2
    | some i =>
      simp [hi] at h2
      have hs : (sizeOf f.type).run P w = .ok x.2 w := by simp [sizeOf, typeInfo, program, Sem.run, Sem.run_bind, hi, h2]
      simp only [List.mapM_cons, Sem.run_bind, hs, Result.andThen_ok, Sem.run_pure, ih, h1]
instance opBuildS {P : Program} {t ty : TypeId} {l : Cx} {bs : List Item} {fs : List (World → Prop)} {parts : List (Nat × Operand)} {pl : List (Nat × Nat)} {z : Value} {n by_ : Nat} {zs cs : List Value} [hp : PlOf P t pl] [TI P t z n by_] [hc : Cells z zs] [hs : SetMany (fun i => pl[i]?) l zs parts cs] : OpQ P (.build t parts.toArray) ty l bs fs (.agg ⟨cs⟩) := ⟨fun ρ w h _ => by
  obtain ⟨fields, hu, hpl⟩ := hp.ex
  have h1 := hs.run ρ h
  have hz : z.cells = zs.toArray := by rw [← hc.eq]
  have h2 := run_places (P := P) w fields.toList pl (by
    have := congrArg Array.toList hpl
    simpa using this)
  have h3 : (fields.mapM (fun f => do pure (f.offset, ← sizeOf f.type) : Field → Sem (Nat × Nat))).run P w = .ok pl.toArray w := by
    rw [Array.mapM_eq_mapM_toList]
    simp only [map_eq_pure_bind, Sem.run_bind, h2, Result.andThen_ok, Sem.run_pure]
  simp only [xop, execOp, Instr.build, Sem.run_bind, run_zero, Result.andThen_ok, run_underlying hu, h3, hz, List.map_toArray]
  simp [h1]⟩
end Go.Wk
