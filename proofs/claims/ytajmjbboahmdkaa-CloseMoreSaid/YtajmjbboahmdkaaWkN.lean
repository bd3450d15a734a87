import Derived.Test.YtajmjbboahmdkaaWkM
import Derived.Laws.MakeOwn
namespace Go.Wk
open Go

/-- what an append's second argument yields. -/
class SrcV (P : Program) (tx : TypeId) (x : Value) (bs : List Item) (fs : List (World → Prop)) (sz : Nat) (m : outParam Nat) (news : outParam (List Value)) : Prop where
  src : ∀ w, Mem w bs fs → Src P sz tx x m news w
instance srcStr {P : Program} {tx : TypeId} {s : List UInt8} {bs : List Item} {fs : List (World → Prop)} [h : Und P tx .string] : SrcV P tx (str s) bs fs 1 s.length (encL s) := ⟨fun w _ => by
  have e := Src.ofString (P := P) w (tx := tx) h.eq ⟨s.toArray⟩
  have h1 : byteCells ⟨s.toArray⟩ = encL s := by
    clear e
    show s.map _ = s.flatMap _
    induction s with
    | nil => rfl
    | cons x xs ih => rw [List.map_cons, List.flatMap_cons, ih]; rfl
  rw [h1] at e
  exact e⟩
theorem encT_cells {t : LTerm} : encL [t] = t.cells := by simp [encL]; rfl
class TakeC (cs : List Value) (n : Nat) (vs : outParam (List Value)) : Prop where eq : cs.take n = vs ∧ vs.length = n
instance (priority := 1100) tkAll {cs : List Value} {n : Nat} [h : LenIs cs n] : TakeC cs n cs := ⟨by rw [List.take_of_length_le (by rw [h.eq]; exact Nat.le_refl _)], h.eq⟩
instance srcBox {P : Program} {tx e : TypeId} {b m c sz n : Nat} {t : TypeId} {cs : List Value} {bs : List Item} {fs : List (World → Prop)} [h : Und P tx (.slice e)] [hb : HasBox bs b t cs] [hm : MulN m sz n] [hl : LenIs cs n] [hf : Flat cs] :
    SrcV P tx (.slice (some ⟨b, 0, none⟩) m c) bs fs sz m cs := ⟨fun w mm => Src.ofSlice w h.eq _ _ _ _ (by rw [hl.eq, hm.eq]) (fun j u hj => by
      have hj' : j < cs.length := (List.getElem?_eq_some_iff.1 hj).1
      have e : (⟨b, 0, none⟩ : Addr).add j = ⟨b, j, none⟩ := by unfold Addr.add; split <;> simp_all
      rw [e, cell_of_row w b j cs.toArray t (0, 0) mm.box]
      simpa using hj) hf.all⟩
instance (priority := 900) srcNil {P : Program} {tx e : TypeId} {c sz : Nat} {bs : List Item} {fs : List (World → Prop)} [h : Und P tx (.slice e)] : SrcV P tx (.slice none 0 c) bs fs sz 0 [] := ⟨fun _ _ => Src.ofNil _ h.eq c⟩
theorem lsIn_cells {w : World} {p : Option Addr} {xs : List LTerm} (h : LsIn w p 0 xs) {ad : Addr} (hp : p = some ad) : ∀ j u, (encL xs)[j]? = some u → w.cell? (ad.add j) = some u := by
  intro j u hj
  have hlt : j < xs.length * 5 := by
    have := (List.getElem?_eq_some_iff.1 hj).1
    rw [encL_len] at this; exact this
  have hk : j / 5 < xs.length := by omega
  obtain ⟨ad', hp', hc⟩ := (h.get (nth_get hk)).1
  rw [hp] at hp'
  cases hp'
  have := encL_get xs (j / 5) _ (nth_get hk) (j % 5) (Nat.mod_lt _ (by decide))
  have e : j / 5 * Enc.sz LTerm + j % 5 = j := by show j / 5 * 5 + j % 5 = j; omega
  rw [e, hj] at this
  have := hc (j % 5) u this.symm
  rw [show (0 + j / 5) * 5 + j % 5 = j from by omega] at this
  exact this
instance (priority := 800) srcLs {P : Program} {tx e : TypeId} {p : Option Addr} {m c : Nat} {xs : List LTerm} {bs : List Item} {fs : List (World → Prop)} [h : Und P tx (.slice e)] [hl : HasLs fs p xs] [hn : LenN xs m] :
    SrcV P tx (.slice p m c) bs fs 5 m (encL xs) := ⟨fun w mm => by
  have hs := (hl.of _ _ mm.facts).now
  have hm := hn.eq
  subst hm
  cases hp : p with
  | none =>
    have : xs = [] := by
      cases xs with
      | nil => rfl
      | cons x xs => obtain ⟨⟨ad, h0, _⟩, _⟩ := hs; rw [hp] at h0; cases h0
    subst this
    exact Src.ofNil w h.eq c
  | some ad => exact Src.ofSlice w h.eq _ _ _ _ (by rw [encL_len]; rfl) (lsIn_cells hs hp) (encL_one xs)⟩
instance (priority := 850) srcRow {P : Program} {tx e e' : TypeId} {p : Option Addr} {m c sz : Nat} {xs : List Value} {bs : List Item} {fs : List (World → Prop)} [h : Und P tx (.slice e)] [hr : HasRow bs p m e' sz c xs] [hf : FlatR xs] :
    SrcV P tx (.slice p m c) bs fs sz m xs := ⟨fun w mm => by
  have hr' : w.ownsRow 0 e' sz (.slice p m c) m xs := mm.held _ hr.mem
  rcases hr'.2 with ⟨hv, rfl⟩ | ⟨g, cap, cur, hv, _, hg, hnc, _, hcs, htake⟩
  · cases hv
    have hx : xs = [] := List.eq_nil_of_length_eq_zero (by simpa using hr'.1)
    subst hx
    exact Src.ofNil w h.eq _
  · cases hv
    exact Src.ofSlice w h.eq _ _ _ _ hr'.1 (hr'.cells (g := g) rfl) hf.all⟩

section
variable {P : Program} {r : Option Nat} {ops : Array Oper} {Q : Exit → Act → World → Prop} {w0 : World} {M0 : Nat → Prop} {ds : List Deferred} {a : Act} {w : World} {l : List Value} {bs : List Item} {fs : List (World → Prop)}
  {d : Option Nat} {op : Op} {ty : TypeId} {pos : String} {af : Array Edge} {rest : List Oper} {v : Value} {e : TypeId} {sz : Nat} {p : Option Addr} {n c : Nat} {xs : List Value}
/-- an append to a row of one's own. -/
theorem sap {x y : Operand} {t tx : TypeId} {z : Value} {by_ m : Nat} {xv : Value} {news : List Value} {l' : Option Addr → Nat → List Value} {bs' : Option Addr → Nat → List Item} (S : St w0 M0 ds a w l bs fs)
    [Ev ⟨[], l⟩ x (.slice p n c)] [Ev ⟨[], l⟩ y xv] [ht : Und P t (.slice e)] [hti : TI P e z sz by_] {zc : List Value} [hzc : Cells z zc] [hzl : LenIs zc sz] [hr : HasRow bs p n e sz c xs] [hs : SrcV P tx xv bs fs sz m news]
    [hp : ∀ p' c', PutO l d (.slice p' (n + m) c') (l' p' c')] [hrep : ∀ p' c', ReplI bs (row e sz p n c xs) (row e sz p' (n + m) c' (xs ++ news)) (bs' p' c')]
    (h63 : n + m ≤ maxLen) (hb : (n + m) * by_ ≤ 140737488355328)
    (K : ∀ p' c' a w, (0 < m → ∃ g, p' = some ⟨g, 0, none⟩) → St w0 M0 ds a w (l' p' c') (bs' p' c') fs → WL P r ops Q rest a w) :
    WL P r ops Q (⟨d, .call { callee := .builtin .append, args := #[x, y], argTypes := #[t, tx] }, ty, pos, af, none⟩ :: rest) a w := by
  refine wl_plain rfl ?_
  rw [semAt_nd rfl]
  obtain ⟨p', c', w', hrun, hown, hag, hnew, hsome⟩ := run_append_row (P := P) (w := w) (t := t) (tx := tx) (ty := ty) (z := z) (by_ := by_) (m := m) (x := xv) (news := news) (by rw [← Array.length_toList, hzc.eq, hzl.eq]) (S.row p n) (hs.src w S.wd.mem) h63 hb
  have e1 : (xop a.eval (.call { callee := .builtin .append, args := #[x, y], argTypes := #[t, tx] }) ty).run P w = .ok (.value (.slice p' (n + m) c')) w' := by
    simp [xop, execOp, resolve, invoke, builtin, S.fr.ev (x := x) (v := .slice p n c), S.fr.ev (x := y) (v := xv), Sem.run_bind, hrun]
  simp only [e1, Oper.uponIn]
  have := hp p' c'
  have S' := S.put (d := d) (v := .slice p' (n + m) c')
  obtain ⟨pre, post, q1, q2⟩ := (hrep p' c').ex
  have hwd := S'.wd
  rw [q1] at hwd
  refine K p' c' _ w' (fun hm => ?_) ⟨S'.slots, S'.defers, ?_⟩
  · rcases hown.2 with ⟨hv, h0⟩ | ⟨g, cap, cur, hv, _⟩
    · omega
    · cases hv; exact ⟨g, rfl⟩
  · rw [q2]
    refine hwd.swap rfl hag hown (fun k ⟨ad, h1, h2⟩ => ?_) (row_foot_lt hown) (row_loc _ _ _ _ _ _)
    rcases hnew ad h1 with h3 | h3
    · exact .inl ⟨ad, h3, h2⟩
    · exact .inr (h2 ▸ h3)
/-- a box is a row. -/
theorem St.boxRow {bs' : List Item} (S : St w0 M0 ds a w l bs fs) (b : Nat) (sz m : Nat) {t : TypeId} {cs : List Value} [HasBox bs b t cs] [hr : ReplI bs (Wk.box b t cs) (Wk.row t sz (some ⟨b, 0, none⟩) m m cs) bs'] (hl : cs.length = m * sz) (hm : m ≤ maxLen) : St w0 M0 ds a w l bs' fs := by
  obtain ⟨pre, post, q1, q2⟩ := hr.ex
  have hwd := S.wd
  have hb := S.box b
  rw [q1] at hwd
  refine ⟨S.slots, S.defers, ?_⟩
  have hown : (Wk.row t sz (some ⟨b, 0, none⟩) m m cs).holds w := ⟨hl, .inr ⟨b, m, _, rfl, Nat.zero_le _, hb, Nat.le_refl _, hm, by simpa using hl, by simp [← hl]⟩⟩
  rw [q2]
  exact hwd.swap rfl (Agree.refl _ _) hown (fun k ⟨ad, h1, h2⟩ => .inl (by cases h1; exact h2)) (row_foot_lt hown) (row_loc _ _ _ _ _ _)
/-- what a call hands back: a row in new memory. -/
theorem Wd.addRow {w' : World} (hold : Wd w0 M0 w bs fs) (hw : Grow w w') {p : Option Addr} {n c : Nat} {e : TypeId} {sz : Nat} {xs : List Value} (h : w'.ownsRow 0 e sz (.slice p n c) n xs) (hn : ∀ ad, p = some ad → w.heap.size ≤ ad.block) :
    Wd w0 M0 w' (Wk.row e sz p n c xs :: bs) fs := by
  have hfoot : ∀ k, (Wk.row e sz p n c xs).foot k → w.heap.size ≤ k := fun k ⟨ad, h1, h2⟩ => h2 ▸ hn ad h1
  refine (hold.step hw).more h (fun k hk => Nat.le_trans hold.agree.size (hfoot k hk)) (row_foot_lt h) (fun it hi k hk hk' => absurd (hold.lt it hi k hk') (by have := hfoot k hk; omega)) (fun Φ hΦ w'' hw'' => ?_) (row_loc _ _ _ _ _ _)
  refine hold.facts Φ hΦ w'' ((hw.mono (fun _ _ h => h.elim)).trans' hw'' fun i hi ⟨it, hm, hk⟩ => ?_)
  rcases List.mem_cons.1 hm with rfl | hm
  · exact absurd (hfoot i hk) (by omega)
  · exact ⟨it, hm, hk⟩
variable {f : Nat} {x : Operand} {ys : List Operand} {args : List Value} {ts : Array TypeId}
/-- a call that hands back a row in new memory. -/
theorem srn {l' : Value → List Value} [EntF P f] [CallTo ⟨[], l⟩ x ys f args] [hp : ∀ v, PutO l d v (l' v)] (S : St w0 M0 ds a w l bs fs) {R : Value → World → Prop} (hc : Ret P f args w (fun _ => False) R)
    (K : ∀ v a w', R v w' → (∀ {p : Option Addr} {n c : Nat} {e : TypeId} {sz : Nat} {xs : List Value}, w'.ownsRow 0 e sz (.slice p n c) n xs → (∀ ad, p = some ad → w.heap.size ≤ ad.block) → St w0 M0 ds a w' (l' v) (Wk.row e sz p n c xs :: bs) fs) → St w0 M0 ds a w' (l' v) bs fs → WL P r ops Q rest a w') :
    WL P r ops Q (⟨d, .call { callee := .value x, args := ys.toArray, argTypes := ts }, ty, pos, af, none⟩ :: rest) a w := by
  refine cv_any S hc ?_
  rintro e w' ⟨v, rfl, ha, hR⟩
  have := hp v
  have S' := S.put (d := d) (v := v)
  exact ⟨v, rfl, K v _ w' hR (fun h hn => ⟨S'.slots, S'.defers, S'.wd.addRow ha h hn⟩) ⟨S'.slots, S'.defers, S'.wd.step ha⟩⟩
/-- a call that may write what one item holds. -/
theorem sri {l' : Value → List Value} (it : Item) [EntF P f] [CallTo ⟨[], l⟩ x ys f args] [hp : ∀ v, PutO l d v (l' v)] (S : St w0 M0 ds a w l bs fs) {R : Value → World → Prop} (hc : Ret P f args w it.foot R) (ho : it.own = true)
    (K : ∀ v a w', R v w' → (∀ (y : Item) (bs' : List Item), ReplI bs it y bs' → y.holds w' → (∀ k, y.foot k → it.foot k ∨ w.heap.size ≤ k) → (∀ k, y.foot k → k < w'.heap.size) → (∀ w1 w2 : World, (∀ k, y.foot k → w2.heap[k]? = w1.heap[k]?) → y.holds w1 → y.holds w2) → St w0 M0 ds a w' (l' v) bs' fs) → WL P r ops Q rest a w') :
    WL P r ops Q (⟨d, .call { callee := .value x, args := ys.toArray, argTypes := ts }, ty, pos, af, none⟩ :: rest) a w := by
  refine cv_any S hc ?_
  rintro e w' ⟨v, rfl, ha, hR⟩
  have := hp v
  have S' := S.put (d := d) (v := v)
  refine ⟨v, rfl, K v _ w' hR fun y bs' hr hy hf hlt hloc => ⟨S'.slots, S'.defers, ?_⟩⟩
  obtain ⟨pre, post, q1, q2⟩ := hr.ex
  have hwd := S'.wd
  rw [q1] at hwd
  rw [q2]
  exact hwd.swap ho ha hy hf hlt hloc
/-- a call that may grow a row, and hands it back. -/
theorem srg {l' : Value → List Value} (p : Option Addr) (n : Nat) {e : TypeId} {sz c : Nat} {xs : List Value} [HasRow bs p n e sz c xs] [EntF P f] [CallTo ⟨[], l⟩ x ys f args] [hp : ∀ v, PutO l d v (l' v)] (S : St w0 M0 ds a w l bs fs) {R : Value → World → Prop} (hc : Ret P f args w (fun k => ∃ ad, p = some ad ∧ k = ad.block) R)
    (K : ∀ v a w', R v w' → (∀ {p' : Option Addr} {n' c' : Nat} {xs' : List Value} (bs' : List Item) [ReplI bs (Wk.row e sz p n c xs) (Wk.row e sz p' n' c' xs') bs'], w'.ownsRow 0 e sz (.slice p' n' c') n' xs' → (∀ ad, p' = some ad → (∃ ad', p = some ad' ∧ ad.block = ad'.block) ∨ w.heap.size ≤ ad.block) → St w0 M0 ds a w' (l' v) bs' fs) → WL P r ops Q rest a w') :
    WL P r ops Q (⟨d, .call { callee := .value x, args := ys.toArray, argTypes := ts }, ty, pos, af, none⟩ :: rest) a w :=
  sri (Wk.row e sz p n c xs) S hc rfl fun v a w' hR hS => K v a w' hR fun bs' hr h hf => hS _ bs' hr h (fun k ⟨ad, h1, h2⟩ => (hf ad h1).imp (fun ⟨ad', h3, h4⟩ => ⟨ad', h3, h2.trans h4⟩) (fun h3 => h2 ▸ h3)) (row_foot_lt h) (row_loc _ _ _ _ _ _)
/-- what a function begins with that is handed a row to grow. -/
theorem Wd.rowLent {w : World} {p : Option Addr} {n c : Nat} {e : TypeId} {sz : Nat} {xs : List Value} {fs : List (World → Prop)} (h : w.ownsRow 0 e sz (.slice p n c) n xs) (hf : ∀ Φ ∈ fs, Stable (fun k => ∃ ad, p = some ad ∧ k = ad.block) w Φ) :
    Wd w (fun k => ∃ ad, p = some ad ∧ k = ad.block) w [Wk.row e sz p n c xs] fs := by
  refine ⟨Agree.refl _ _, ?_, ?_, ?_, by simp, ?_, ?_⟩
  · intro it hi; obtain rfl := List.mem_singleton.1 hi; exact h
  · intro it hi; obtain rfl := List.mem_singleton.1 hi; exact row_foot_lt h
  · intro it hi _ k hk; obtain rfl := List.mem_singleton.1 hi; exact .inl hk
  · intro Φ hΦ
    refine (hf Φ hΦ).less fun k _ hk => ?_
    obtain ⟨it, hi, hk⟩ := hk
    obtain rfl := List.mem_singleton.1 hi; exact hk
  · intro it hi; obtain rfl := List.mem_singleton.1 hi; exact row_loc _ _ _ _ _ _
theorem St.rowNew (S : St w0 M0 ds a w l bs fs) (p : Option Addr) (n : Nat) {e : TypeId} {sz c : Nat} {xs : List Value} [h : HasRow bs p n e sz c xs] : ∀ ad, p = some ad → M0 ad.block ∨ w0.heap.size ≤ ad.block := fun ad hp => S.wd.own _ h.mem rfl _ ⟨ad, hp, rfl⟩
end
end Go.Wk
