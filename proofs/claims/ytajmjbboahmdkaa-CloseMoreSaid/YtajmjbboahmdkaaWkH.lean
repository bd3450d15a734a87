import Derived.Test.YtajmjbboahmdkaaWkG
namespace Go.Wk
open Go

/-! memory that is not one's own: a place in it, and what lies there -/
theorem run_indexAt {P : Program} {t e : TypeId} {z : Value} {sz by_ : Nat} {ad : Addr} {n c : Nat} {k : IntKind} {m : Int} [Und P t (.slice e)] [TI P e z sz by_] (h0 : 0 ≤ m) (h1 : m < n) (w : World) :
    (Instr.indexAt t (.slice (some ad) n c) (.int k m)).run P w = .ok (.pointer (some (ad.add (m.toNat * sz)))) w := by
  simp [Instr.indexAt, asIntOf, Sem.run_bind, run_und, h0, h1, run_size]
section
variable {P : Program} {r : Option Nat} {ops : Array Oper} {Q : Exit → Act → World → Prop} {w0 : World} {M0 : Nat → Prop} {ds : List Deferred} {a : Act} {w : World} {l l' : List Value} {bs bs' : List Item} {fs : List (World → Prop)}
  {d : Option Nat} {op : Op} {ty : TypeId} {pos : String} {af : Array Edge} {rest : List Oper} {v : Value}
/-- an operation whose run is shown by hand. -/
theorem sv (v : Value) [hp : PutO l d v l'] (S : St w0 M0 ds a w l bs fs) (hrun : Fr a.eval ⟨[], l⟩ → (xop a.eval op ty).run P w = .ok (.value v) w) (K : ∀ a, St w0 M0 ds a w l' bs fs → WL P r ops Q rest a w) (hnd : isDefer op = false := by rfl) :
    WL P r ops Q (⟨d, op, ty, pos, af, none⟩ :: rest) a w := by
  refine wl_plain rfl ?_
  rw [semAt_nd hnd]
  simp only [hrun S.fr, Oper.uponIn]
  exact K _ S.put
/-- the place of an element of a slice. -/
theorem si {t e : TypeId} {x y : Operand} {z : Value} {sz by_ n c : Nat} {p : Option Addr} {k : IntKind} {m : Int} (S : St w0 M0 ds a w l bs fs) [Ev ⟨[], l⟩ x (.slice p n c)] [Ev ⟨[], l⟩ y (.int k m)] [Und P t (.slice e)] [TI P e z sz by_] (ad : Addr) [hp : PutO l d (.pointer (some (ad.add (m.toNat * sz)))) l']
    (hp : p = some ad) (h0 : 0 ≤ m) (h1 : m < n) (K : ∀ a, St w0 M0 ds a w l' bs fs → WL P r ops Q rest a w) : WL P r ops Q (⟨d, .indexAddr t x y, ty, pos, af, none⟩ :: rest) a w := by
  subst hp
  refine sv (.pointer (some (ad.add (m.toNat * sz)))) S (fun hf => ?_) K
  simp [xop, execOp, hf.ev (x := x) (v := .slice (some ad) n c), hf.ev (x := y) (v := .int k m), run_indexAt (P := P) (t := t) (e := e) (z := z) (sz := sz) (by_ := by_) h0 h1]
/-- a load of a struct out of memory. -/
theorem slA {t : TypeId} {x : Operand} {ad : Addr} {z : Value} {n by_ : Nat} (vs : List Value) (S : St w0 M0 ds a w l bs fs) [Ev ⟨[], l⟩ x (.pointer (some ad))] [ha : AggT P t true] [TI P t z n by_] [hl : LenIs vs n] [hp : PutO l d (.agg ⟨vs⟩) l']
    (h : ∀ j v, vs[j]? = some v → w.cell? (ad.add j) = some v) (K : ∀ a, St w0 M0 ds a w l' bs fs → WL P r ops Q rest a w) : WL P r ops Q (⟨d, .load t x, ty, pos, af, none⟩ :: rest) a w := by
  refine sv (.agg ⟨vs⟩) S (fun hf => ?_) K
  have hlc := run_loadCells_list (P := P) w ad vs h
  rw [hl.eq] at hlc
  simp [xop, execOp, Instr.loadAt, hf.ev (x := x) (v := .pointer (some ad)), Instr.sureAddr, loadVar, Sem.run_bind, ha.run, run_size, hlc]
/-- a load of one cell out of memory. -/
theorem sl1 {t : TypeId} {x : Operand} {ad : Addr} (v : Value) (S : St w0 M0 ds a w l bs fs) [Ev ⟨[], l⟩ x (.pointer (some ad))] [ha : AggT P t false] [hp : PutO l d v l']
    (h : w.cell? ad = some v) (K : ∀ a, St w0 M0 ds a w l' bs fs → WL P r ops Q rest a w) : WL P r ops Q (⟨d, .load t x, ty, pos, af, none⟩ :: rest) a w := by
  refine sv v S (fun hf => ?_) K
  simp [xop, execOp, Instr.loadAt, hf.ev (x := x) (v := .pointer (some ad)), Instr.sureAddr, loadVar, Sem.run_bind, ha.run, load, Sem.run, h]

/-! facts -/
theorem St.fact (S : St w0 M0 ds a w l bs fs) {Φ : World → Prop} (h : Φ ∈ fs) : Stable (foots bs) w Φ := S.wd.facts Φ h
theorem Stable.imp {M : Nat → Prop} {w : World} {Φ Ψ : World → Prop} (h : Stable M w Φ) (hi : ∀ w, Φ w → Ψ w) : Stable M w Ψ := fun w' hw => hi _ (h w' hw)
theorem St.add (S : St w0 M0 ds a w l bs fs) {Φ : World → Prop} (h : Stable (foots bs) w Φ) : St w0 M0 ds a w l bs (Φ :: fs) :=
  ⟨S.slots, S.defers, S.wd.agree, S.wd.held, S.wd.lt, S.wd.own, S.wd.apart, fun Ψ hΨ => by
    rcases List.mem_cons.1 hΨ with rfl | hΨ
    · exact h
    · exact S.wd.facts Ψ hΨ, S.wd.loc⟩
end

/-- what a function begins with that is handed a variable of somebody else's, and facts that this does not touch. -/
theorem Wd.lent {w : World} {b : Nat} {t : TypeId} {cs : List Value} {fs : List (World → Prop)} (hb : w.heap[b]? = some (.cells cs.toArray t (0, 0))) (hf : ∀ Φ ∈ fs, Stable (fun k => k = b) w Φ) :
    Wd w (fun k => k = b) w [box b t cs] fs := by
  refine ⟨Agree.refl _ _, ?_, ?_, ?_, by simp, ?_, ?_⟩
  · intro it hi; obtain rfl := List.mem_singleton.1 hi; exact hb
  · intro it hi k hk; obtain rfl := List.mem_singleton.1 hi; simp only [box] at hk; subst hk
    exact (Array.getElem?_eq_some_iff.1 hb).1
  · intro it hi _ k hk; obtain rfl := List.mem_singleton.1 hi; exact .inl hk
  · intro Φ hΦ
    refine (hf Φ hΦ).less fun k _ hk => ?_
    obtain ⟨it, hi, hk⟩ := hk
    obtain rfl := List.mem_singleton.1 hi; exact hk
  · intro it hi; obtain rfl := List.mem_singleton.1 hi; exact box_loc _ _ _
theorem Wd.begin {w : World} {fs : List (World → Prop)} (hf : ∀ Φ ∈ fs, Stable (fun _ => False) w Φ) : Wd w (fun _ => False) w [] fs :=
  ⟨Agree.refl _ _, by simp, by simp, by simp, .nil, fun Φ hΦ => (hf Φ hΦ).less fun k _ hk => (by obtain ⟨it, hi, _⟩ := hk; cases hi), by simp⟩

/-- what others may write, and one's caller too: nothing is known of it. -/
def ext (M : Nat → Prop) : Item where
  foot := M
  holds := fun _ => True
  own := false
theorem Wd.beginM {w : World} {M : Nat → Prop} {fs : List (World → Prop)} (hM : ∀ k, M k → k < w.heap.size) (hf : ∀ Φ ∈ fs, Stable M w Φ) : Wd w (fun _ => False) w [ext M] fs := by
  refine ⟨Agree.refl _ _, ?_, ?_, ?_, by simp, ?_, ?_⟩
  · intro it hi; obtain rfl := List.mem_singleton.1 hi; trivial
  · intro it hi k hk; obtain rfl := List.mem_singleton.1 hi; exact hM k hk
  · intro it hi ho; obtain rfl := List.mem_singleton.1 hi; cases ho
  · intro Φ hΦ
    refine (hf Φ hΦ).less fun k _ hk => ?_
    obtain ⟨it, hi, hk⟩ := hk
    obtain rfl := List.mem_singleton.1 hi; exact hk
  · intro it hi w1 w2 _ _; obtain rfl := List.mem_singleton.1 hi; trivial
class HasExt (bs : List Item) (M : outParam (Nat → Prop)) : Prop where mem : ext M ∈ bs
instance he0 {M : Nat → Prop} {bs : List Item} : HasExt (ext M :: bs) M := ⟨List.mem_cons_self ..⟩
instance (priority := 900) he1 {M : Nat → Prop} {x : Item} {bs : List Item} [h : HasExt bs M] : HasExt (x :: bs) M := ⟨List.mem_cons_of_mem _ h.mem⟩
theorem foots_lt {w0 M0 ds a w l bs fs} (S : St w0 M0 ds a w l bs fs) : ∀ k, foots bs k → k < w.heap.size := fun k ⟨it, hi, hk⟩ => S.wd.lt it hi k hk
theorem apart_of {bs : List Item} (h : bs.Pairwise (fun x y => ∀ k, x.foot k → ¬ y.foot k)) {x y : Item} (hx : x ∈ bs) (hy : y ∈ bs) (hne : x.own ≠ y.own) (k : Nat) (hk : x.foot k) : ¬ y.foot k := by
  induction h with
  | nil => cases hx
  | cons h0 _ ih =>
    rcases List.mem_cons.1 hx with hx1 | hx1
    · rcases List.mem_cons.1 hy with hy1 | hy1
      · exact absurd (by rw [hx1, hy1]) hne
      · exact h0 _ hy1 k (hx1 ▸ hk)
    · rcases List.mem_cons.1 hy with hy1 | hy1
      · exact fun hk' => h0 _ hx1 k (hy1 ▸ hk') hk
      · exact ih hx1 hy1
/-- what a world later holds that has been left alone but for M. -/
theorem St.laterBox {w0 M0 ds a w l bs fs} (S : St w0 M0 ds a w l bs fs) {M : Nat → Prop} [he : HasExt bs M] {w' : World} (h : Agree M w w') (b : Nat) {t : TypeId} {cs : List Value} [hb : HasBox bs b t cs] : w'.heap[b]? = some (.cells cs.toArray t (0, 0)) := by
  have h1 : w.heap[b]? = some (.cells cs.toArray t (0, 0)) := S.wd.held _ hb.mem
  rw [← h1]
  exact h.blk (S.wd.lt _ hb.mem b rfl) (apart_of S.wd.apart hb.mem he.mem (by simp [box, ext]) b rfl)
theorem St.laterFact {w0 M0 ds a w l bs fs} (S : St w0 M0 ds a w l bs fs) {M : Nat → Prop} [he : HasExt bs M] {Φ : World → Prop} (hΦ : Φ ∈ fs) : Stable M w Φ := (S.wd.facts Φ hΦ).less fun _ _ hk => ⟨_, he.mem, hk⟩

/-! terms -/
inductive Term where
  | mk (kind user num : Int) (text : List UInt8) (kids : List Term)
/-- a term, and where its kids lie. -/
inductive LTerm where
  | mk (kind user num : Int) (text : List UInt8) (p : Option Addr) (cap : Nat) (kids : List LTerm)
namespace LTerm
def kind : LTerm → Int | .mk k _ _ _ _ _ _ => k
def user : LTerm → Int | .mk _ u _ _ _ _ _ => u
def num : LTerm → Int | .mk _ _ n _ _ _ _ => n
def text : LTerm → List UInt8 | .mk _ _ _ s _ _ _ => s
def p : LTerm → Option Addr | .mk _ _ _ _ p _ _ => p
def cap : LTerm → Nat | .mk _ _ _ _ _ c _ => c
def kids : LTerm → List LTerm | .mk _ _ _ _ _ _ ks => ks
mutual
def t : LTerm → Term
  | .mk k u n s _ _ ks => .mk k u n s (ts ks)
def ts : List LTerm → List Term
  | [] => []
  | x :: xs => t x :: ts xs
end
theorem ts_map : ∀ ks : List LTerm, ts ks = ks.map t
  | [] => rfl
  | x :: xs => by simp [ts, ts_map xs]
abbrev cells (t : LTerm) : List Value := [.int .i64 t.kind, .int .i64 t.user, .int .i64 t.num, str t.text, .slice t.p t.kids.length t.cap]
end LTerm
abbrev vL (t : LTerm) : Value := .agg #[.int .i64 t.kind, .int .i64 t.user, .int .i64 t.num, str t.text, .slice t.p t.kids.length t.cap]
mutual
def LtIn (w : World) : LTerm → Prop
  | .mk _ _ _ _ p cap kids => kids.length ≤ cap ∧ cap ≤ maxLen ∧ LsIn w p 0 kids
def LsIn (w : World) : Option Addr → Nat → List LTerm → Prop
  | _, _, [] => True
  | p, i, t :: ts => (∃ ad, p = some ad ∧ ∀ j v, t.cells[j]? = some v → w.cell? (ad.add (i * 5 + j)) = some v) ∧ LtIn w t ∧ LsIn w p (i + 1) ts
end
def LtF (t : LTerm) : World → Prop := fun w => LtIn w t
def LsF (p : Option Addr) (i : Nat) (ts : List LTerm) : World → Prop := fun w => LsIn w p i ts
theorem LtIn.iff {w : World} {t : LTerm} : LtIn w t ↔ t.kids.length ≤ t.cap ∧ t.cap ≤ maxLen ∧ LsIn w t.p 0 t.kids := by cases t; simp [LtIn, LTerm.kids, LTerm.cap, LTerm.p]
theorem LsIn.get {w : World} {p : Option Addr} : ∀ {i : Nat} {ts : List LTerm} {k : Nat} {t : LTerm}, LsIn w p i ts → ts[k]? = some t → (∃ ad, p = some ad ∧ ∀ j v, t.cells[j]? = some v → w.cell? (ad.add ((i + k) * 5 + j)) = some v) ∧ LtIn w t
  | i, [], k, t, _, hk => by simp at hk
  | i, x :: xs, 0, t, h, hk => by
    simp at hk; subst hk
    exact ⟨by simpa using h.1, h.2.1⟩
  | i, x :: xs, k + 1, t, h, hk => by
    have := LsIn.get (k := k) h.2.2 (by simpa using hk)
    rw [show i + 1 + k = i + (k + 1) from by omega] at this
    exact this
theorem add_add (ad : Addr) (i j : Nat) : (ad.add i).add j = ad.add (i + j) := by
  unfold Addr.add
  by_cases hi : i = 0 <;> by_cases hj : j = 0 <;> simp [hi, hj, Nat.add_assoc]
end Go.Wk
namespace Go.Wk
theorem w64 (n : Int) (h1 : -9223372036854775808 ≤ n) (h2 : n ≤ 9223372036854775807) : IntKind.i64.wrap n = n := by
  unfold IntKind.wrap
  simp only [IntKind.bits, IntKind.signed, Bool.true_and]
  by_cases h : n % (2 ^ 64 : Int) ≥ (2 ^ (64 - 1) : Int)
  · rw [if_pos (by simpa using h)]; omega
  · rw [if_neg (by simpa using h)]; omega
end Go.Wk
namespace Go.Wk
theorem LTerm.kid_lt {t x : LTerm} (h : x ∈ t.kids) : SizeOf.sizeOf x < SizeOf.sizeOf t := by
  cases t
  simp only [LTerm.kids] at h
  have := List.sizeOf_lt_of_mem h
  simp
  omega
theorem St.sub {w0 M0 ds a w l bs fs} (S : St w0 M0 ds a w l bs fs) (bs0 : List Item) (fs0 : List (World → Prop)) [hb : SubL bs0 bs] [hf : SubL fs0 fs] : St w0 M0 ds a w l bs0 fs0 := ⟨S.slots, S.defers, S.wd.sub hb.sub hf.sub⟩
theorem St.box {w0 M0 ds a w l bs fs} (S : St w0 M0 ds a w l bs fs) (b : Nat) {t : TypeId} {cs : List Value} [h : HasBox bs b t cs] : w.heap[b]? = some (.cells cs.toArray t (0, 0)) := S.wd.held _ h.mem
/-- a kid of a term, as it lies in memory. -/
theorem LTerm.kid {M : Nat → Prop} {w : World} {t : LTerm} (h : Stable M w (LtF t)) {k : Nat} (hk : k < t.kids.length) : ∃ x ad, t.kids[k]? = some x ∧ x ∈ t.kids ∧ t.p = some ad ∧ (∀ j v, x.cells[j]? = some v → w.cell? ((ad.add (k * 5)).add j) = some v) ∧ Stable M w (LtF x) := by
  have hx : t.kids[k]? = some t.kids[k] := List.getElem?_eq_getElem hk
  obtain ⟨ad, hp, hc⟩ := ((LtIn.iff.1 h.now).2.2.get hx).1
  refine ⟨_, ad, hx, List.getElem_mem hk, hp, fun j v hj => ?_, h.imp fun w' hw' => ((LtIn.iff.1 hw').2.2.get hx).2⟩
  rw [add_add]
  simpa using hc j v hj
theorem LTerm.t_eq (t : LTerm) : t.t = .mk t.kind t.user t.num t.text (t.kids.map LTerm.t) := by
  cases t; simp [LTerm.t, LTerm.ts_map, LTerm.kind, LTerm.user, LTerm.num, LTerm.text, LTerm.kids]
end Go.Wk
namespace Go.Wk
theorem St.fb {w0 M0 ds a w l bs fs} (S : St w0 M0 ds a w l bs fs) (b : Nat) {t : TypeId} {cs : List Value} [h : HasBox bs b t cs] {Φ : World → Prop} (hΦ : Φ ∈ fs) : Stable (fun k => k = b) w Φ :=
  (S.wd.facts Φ hΦ).less fun _ _ hk => ⟨_, h.mem, hk⟩
end Go.Wk
namespace Go.Wk
theorem LTerm.len_le {M : Nat → Prop} {w : World} {t : LTerm} (h : Stable M w (LtF t)) : t.kids.length ≤ 9223372036854775807 := by
  have := LtIn.iff.1 h.now
  unfold maxLen at this
  omega
end Go.Wk
