import Derived.Test.YtajmjbboahmdkaaWkL
import Derived.ProofKit
import Derived.OpenShut
import Derived.Carry
import Derived.Deep.Slices
namespace Go.Wk
open Go Go.Deep Go.ChangeShapes Go.WideShapes Go.ChangeAt Go.RowKit

/-! what a law's row asks, beside the walk -/
section
variable {H : Type} {enc : TypeId × Value → H} {P : Program}

theorem Agree.below {W W' : World} (h : Agree (fun _ => False) W W') : Below W.heap.size W W' := by
  obtain ⟨h1, h2, h3, h4, h5⟩ := h
  exact ⟨h1, h2, h3, h4, fun k hk => h5 k hk id⟩
theorem trodAll_below (hl : laidOutB P = true) {W W' : World} (hb : Below W.heap.size W W') : ∀ (ts : List TypeId) (vs : List Value) (ds : List (DataW H)) (ps : List MemPlace), (ts.all fun t => P.readableRec t && decide (t < P.types.size)) = true →
    DataW.TrodAll enc P W 0 (fun _ => true) true ts vs ds ps → (∀ x ∈ ps, x.block < W.heap.size) → DataW.TrodAll enc P W' 0 (fun b => decide (b < W.heap.size)) true ts vs ds ps
  | [], [], [], ps, _, h, _ => h
  | t :: ts, v :: vs, d :: ds, ps, hr, ⟨p, q, h1, h2, h3⟩, hlt => by
    simp only [List.all_cons, Bool.and_eq_true, decide_eq_true_eq] at hr
    subst h3
    exact ⟨p, q, Below.trod hl hr.1.1 hr.1.2 h1 hb (fun x hx => hlt x (List.mem_append.2 (.inl hx))), trodAll_below hl hb ts vs ds q (by simpa using hr.2) h2 (fun x hx => hlt x (List.mem_append.2 (.inr hx))), rfl⟩
theorem law_post {f : Func} {s : ChangeSpec} {B : TypeId} {W W' : World} {args : Array Value} {ds gs : List (DataW H)} {before : List MemPlace} (hl : laidOutB P = true) (hp : (f.params.toList.all fun t => P.readableRec t && decide (t < P.types.size)) = true)
    (hB : P.underlying B = some .bool) (hrt : f.resultTypes = #[B]) (hv : s.vars = [])
    (hW : DataW.Whole enc P f.params.toList s.vars false W args.toList ds gs before) (hres : (s.fn H (ds ++ gs)).results = [.lit (.bool true)]) (hargs : (s.fn H (ds ++ gs)).args = ds) (hvars : (s.fn H (ds ++ gs)).vars = [])
    (hA : Agree (fun _ => False) W W') : s.post enc P f false true false false W args (.bool true) W' := by
  have hW' := hW
  obtain ⟨p, q, hA0, hV, rfl, _, _⟩ := hW
  have hlt := hW'.lt
  refine ⟨ds, gs, _, [], p, [], hW', ?_, ?_, ?_, hA.below.frame _, fun h => by cases h⟩
  · rw [hres, hrt]; exact trodAll_mk1 (shut_bool hB _)
  · rw [hargs]; exact trodAll_below hl hA.below _ _ _ _ hp hA0 (fun x hx => hlt x (List.mem_append.2 (.inl hx)))
  · rw [hv, hvars]; exact rfl
end

theorem Ret.law {P : Program} {f : Nat} {args : List Value} {W : World} {R : Ending → World → Prop} (h : Ret P f args W (fun _ => False) fun v _ => v = .bool true)
    (hR : ∀ W', Agree (fun _ => False) W W' → R (.returned (.bool true)) W') : Calls P f args.toArray W R :=
  Calls.mono (show Calls P f args.toArray W _ from h) fun e W' he => by
    obtain ⟨v, rfl, hag, rfl⟩ := he
    exact hR W' hag

/-! terms that came in -/
class TermTy (P : Program) (T : TypeId) : Prop where
  ex : ∃ fs I S L, P.underlying T = some (.struct fs) ∧ fs.toList.map (fun f => (f.type, f.offset)) = [(I, 0), (I, 1), (I, 2), (S, 3), (L, 4)] ∧ P.underlying I = some (.int .i64) ∧ P.underlying S = some .string ∧ P.underlying L = some (.slice T) ∧
    P.cellsOf T = 5 ∧ P.cellsOf I = 1 ∧ P.cellsOf S = 1 ∧ P.cellsOf L = 1
theorem LsIn.of_all {w : World} {ad : Addr} : ∀ {i : Nat} {ks : List LTerm}, (∀ k t, ks[k]? = some t → (∀ j v, t.cells[j]? = some v → w.cell? (ad.add ((i + k) * 5 + j)) = some v) ∧ LtIn w t) → LsIn w (some ad) i ks
  | i, [], _ => trivial
  | i, x :: xs, h => by
    have h0 := h 0 x rfl
    refine ⟨⟨ad, rfl, by simpa using h0.1⟩, h0.2, LsIn.of_all fun k t hk => ?_⟩
    have h1 := h (k + 1) t (by simpa using hk)
    rw [show i + (k + 1) = i + 1 + k from by omega] at h1
    exact h1
instance : Inhabited LTerm := ⟨zeroL⟩
theorem len5 {α : Type} {l : List α} (h : l.length = 5) : ∃ a b c d e, l = [a, b, c, d, e] := by
  match l, h with
  | [a, b, c, d, e], _ => exact ⟨a, b, c, d, e, rfl⟩
section
variable {H : Type} {enc : TypeId × Value → H} {P : Program} {w : World} {base : Nat} {spare : Nat → Bool} {held : Bool} {T : TypeId}
theorem term_of_trod [hT : TermTy P T] : ∀ (fuel : Nat) (cs : List Value) (x : DataW H × List MemPlace), DataW.trod enc P w base spare held fuel T cs = some x → ∃ t : LTerm, cs = t.cells ∧ LtIn w t := by
  obtain ⟨fs, I, S, L, hu, hf, hI, hS, hL, c1, c2, c3, c4⟩ := hT.ex
  intro fuel
  induction fuel using Nat.strongRecOn with
  | _ fuel ih =>
  intro cs x h
  obtain ⟨xs, n, rfl, rfl, hlen, hxl, hx⟩ := DataW.trod_struct hu h
  rw [c1] at hlen
  obtain ⟨a, b, c, d, e, rfl⟩ := len5 hlen
  have hfl : fs.size = 5 := by
    have := congrArg List.length hf
    simpa using this
  rw [hfl] at hxl
  obtain ⟨x0, x1, x2, x3, x4, rfl⟩ := len5 hxl
  have fld : ∀ (i : Nat) (t o : Nat), (fs.toList.map (fun f => (f.type, f.offset)))[i]? = some (t, o) → ∃ f, fs[i]? = some f ∧ f.type = t ∧ f.offset = o := by
    intro i t o hi
    rw [List.getElem?_map] at hi
    obtain ⟨f, hf1, hf2⟩ := Option.map_eq_some_iff.1 hi
    simp only [Prod.mk.injEq] at hf2
    exact ⟨f, by simpa using hf1, hf2.1, hf2.2⟩
  rw [hf] at fld
  obtain ⟨f0, q0, t0, o0⟩ := fld 0 I 0 rfl
  obtain ⟨f1, q1, t1, o1⟩ := fld 1 I 1 rfl
  obtain ⟨f2, q2, t2, o2⟩ := fld 2 I 2 rfl
  obtain ⟨f3, q3, t3, o3⟩ := fld 3 S 3 rfl
  obtain ⟨f4, q4, t4, o4⟩ := fld 4 L 4 rfl
  have r0 := hx 0 f0 q0
  have r1 := hx 1 f1 q1
  have r2 := hx 2 f2 q2
  have r3 := hx 3 f3 q3
  have r4 := hx 4 f4 q4
  rw [t0, o0, c2] at r0
  rw [t1, o1, c2] at r1
  rw [t2, o2, c2] at r2
  rw [t3, o3, c3] at r3
  rw [t4, o4, c4] at r4
  obtain ⟨k, e0, _, _⟩ := DataW.trod_int hI r0
  obtain ⟨u, e1, _, _⟩ := DataW.trod_int hI r1
  obtain ⟨m, e2, _, _⟩ := DataW.trod_int hI r2
  obtain ⟨s, e3, _, _⟩ := DataW.trod_string hS r3
  simp at e0 e1 e2 e3
  subst e0 e1 e2 e3
  have hstr : ∀ s : ByteArray, Value.string s = str s.data.toList := fun s => by simp [str]
  rcases DataW.trod_slice hL r4 with ⟨e4, _⟩ | ⟨ad, len, cap, elems, rest, n', rfl, e4, _, _, hlc, hcm, hel, hem, _, _⟩
  · simp at e4
    subst e4
    exact ⟨.mk k u m s.data.toList none 0 [], by simp [LTerm.cells, LTerm.kind, LTerm.user, LTerm.num, LTerm.text, LTerm.p, LTerm.cap, LTerm.kids, hstr], by simp [LtIn, LsIn]⟩
  · simp at e4
    subst e4
    obtain ⟨g, hg⟩ := choose_lt (α := LTerm) (p := fun i t => w.cells? base (ad.add (i * 5)) 5 = some t.cells ∧ LtIn w t) (n := len) (fun i hi => by
      have h1 := hem i hi
      rw [c1, List.getElem?_eq_getElem (by omega)] at h1
      obtain ⟨cs', h2, h3⟩ := Option.bind_eq_some_iff.1 h1
      obtain ⟨t, rfl, ht⟩ := ih n' (by omega) cs' _ h3
      exact ⟨t, h2, ht⟩)
    refine ⟨.mk k u m s.data.toList (some ad) cap ((List.range len).map g), by simp [LTerm.cells, LTerm.kind, LTerm.user, LTerm.num, LTerm.text, LTerm.p, LTerm.cap, LTerm.kids, hstr], ?_⟩
    rw [LtIn]
    refine ⟨by simpa using hlc, hcm, LsIn.of_all fun i t ht => ?_⟩
    have hi : i < len := by
      rcases Nat.lt_or_ge i len with h | h
      · exact h
      · rw [List.getElem?_eq_none (by simpa using h)] at ht; cases ht
    have : t = g i := by simpa [hi] using ht.symm
    subst this
    obtain ⟨hc, hin⟩ := hg i hi
    refine ⟨fun j v hj => ?_, hin⟩
    obtain ⟨_, _, h5⟩ := World.cells?_some hc
    have hj5 : j < 5 := by
      have := (List.getElem?_eq_some_iff.1 hj).1
      simpa [LTerm.cells] using this
    have := h5 j hj5
    rw [Go.Deep.add_add, hj] at this
    simpa using this
theorem term_of_Trod [hT : TermTy P T] {v : Value} {d : DataW H} {p : List MemPlace} {r : Reach} {W : World} {base' : Nat} (h : DataW.Trod enc P w base spare held T v d p) (hv : Value.okWide P W r base' T v) : ∃ t : LTerm, v = vL t ∧ LtIn w t := by
  obtain ⟨fs, I, S, L, hu, hf, hI, hS, hL, c1, c2, c3, c4⟩ := hT.ex
  obtain ⟨cs, rfl, _⟩ := okWide_struct hu hv
  obtain ⟨fuel, hf⟩ := h
  obtain ⟨t, e, ht⟩ := term_of_trod fuel _ _ hf
  refine ⟨t, ?_, ht⟩
  have : cs.toList = t.cells := by simpa [Value.cells] using e
  rw [show vL t = .agg ⟨t.cells⟩ from rfl, ← this]
end
mutual
theorem LtIn.mono {w w' : World} (h : ∀ ad v, w.cell? ad = some v → w'.cell? ad = some v) : ∀ t : LTerm, LtIn w t → LtIn w' t
  | .mk _ _ _ _ _ _ kids, ⟨h1, h2, h3⟩ => ⟨h1, h2, LsIn.mono h kids h3⟩
theorem LsIn.mono {w w' : World} (h : ∀ ad v, w.cell? ad = some v → w'.cell? ad = some v) : ∀ {p : Option Addr} {i : Nat} (ts : List LTerm), LsIn w p i ts → LsIn w' p i ts
  | _, _, [], _ => trivial
  | _, _, t :: ts, ⟨⟨ad, hp, hc⟩, h2, h3⟩ => ⟨⟨ad, hp, fun j v hj => h _ _ (hc j v hj)⟩, LtIn.mono h t h2, LsIn.mono h ts h3⟩
end
theorem cell_agree {w w' : World} (h : Agree (fun _ => False) w w') {ad : Addr} {v : Value} (hc : w.cell? ad = some v) : w'.cell? ad = some v := by
  have hlt : ad.block < w.heap.size := by
    rcases Nat.lt_or_ge ad.block w.heap.size with h' | h'
    · exact h'
    · unfold World.cell? at hc; rw [Array.getElem?_eq_none h'] at hc; cases hc
  rw [World.cell?_of_block (w := w) (h.below.block _ hlt)]
  exact hc
/-- what came in is touched by nobody. -/
theorem LtIn.stable {w : World} {t : LTerm} (h : LtIn w t) : Stable (fun _ => False) w (LtF t) := fun w' hw' => LtIn.mono (fun _ _ hc => cell_agree hw' hc) t h
end Go.Wk
