/- 3: a part of this claim's texts, joined: W4. -/
import Derived.Test.YthffheckghdelaaPc2
import Derived.Scope
import Derived.Lib.AppendZeros
import Derived.Maps.RangeRun
namespace Go.Wk
open Go

/-! loops over functions -/
/-- such a loop's record, and the block of its rounds' deferred calls. -/
def lpI (L D : Nat) (r : Loop) : Item where
  foot := fun k => k = D ∨ k = L
  holds := fun w => w.heap[L]? = some (.loop r) ∧ w.heap[D]? = some (.deferred (some []))
def lpR (b : Loop) (s : LoopState) (p : Option Code) : Loop := { b with state := s, pending := p }
/-- what such loops leave behind in a frame. -/
def marks (Ds : List Nat) : Item where
  foot := fun k => k ∈ Ds
  holds := fun w => Ds.Nodup ∧ ∀ k ∈ Ds, w.heap[k]? = some (.deferred (some []))
def dsOf (Ds : List Nat) : List Deferred := Ds.map fun D => { target := .collected D, args := #[] }
theorem lpI_loc (L D : Nat) (r : Loop) (w1 w2 : World) (h : ∀ k, (lpI L D r).foot k → w2.heap[k]? = w1.heap[k]?) (h1 : (lpI L D r).holds w1) : (lpI L D r).holds w2 :=
  ⟨(h L (.inr rfl)).trans h1.1, (h D (.inl rfl)).trans h1.2⟩
theorem marks_loc (Ds : List Nat) (w1 w2 : World) (h : ∀ k, (marks Ds).foot k → w2.heap[k]? = w1.heap[k]?) (h1 : (marks Ds).holds w1) : (marks Ds).holds w2 :=
  ⟨h1.1, fun k hk => (h k hk).trans (h1.2 k hk)⟩
theorem Agree.putObj {M : Nat → Prop} (w : World) (g : Nat) (o : Obj) (hg : M g) : Agree M w (w.putObj g o) :=
  ⟨rfl, rfl, rfl, by simp, fun k _ hm => World.putObj_heap_other (fun e => hm (e ▸ hg))⟩

/-- a function that is ranged over: what it hands to yield, one thing after the other. M: what the rounds may write of what lay there. -/
def IterRet {α : Type} (P : Program) (g : Nat) (lb : List Value) (w : World) (M : Nat → Prop) (E : α → List Value → World → World → Prop) (xs : List α) : Prop :=
  ∀ (l : Nat) (J : Nat → World → Prop) (Jx : World → Prop),
    (∀ i x vs W0 W1, xs[i]? = some x → J i W0 → Grow W0 W1 → E x vs W0 W1 → YieldAt (FW none) 0 P l vs.toArray W1 fun e W' =>
      Agree M w W' ∧ ((e = .returned (.bool true) ∧ J (i + 1) W') ∨ (e = .returned (.bool false) ∧ Jx W'))) →
    J 0 w →
    CallsIn (FW none) 0 P g (.func (.yield l) #[] #[] :: lb).toArray w fun e W' => (∃ v, e = .returned v) ∧ ∃ W0, Grow W0 W' ∧ (J xs.length W0 ∨ Jx W0)

theorem Wd.rebase {w0 w1 w : World} {M0 M : Nat → Prop} {bs : List Item} {fs : List (World → Prop)} (h : Wd w1 M w bs fs) (ha : Agree M0 w0 w1) (hM : ∀ k, M k → M0 k ∨ w0.heap.size ≤ k) : Wd w0 M0 w bs fs where
  agree := ha.trans' h.agree fun i hi hm => (hM i hm).elim id (fun h => absurd h (by omega))
  held := h.held
  lt := h.lt
  own := fun it hi ho k hk => (h.own it hi ho k hk).elim (hM k) (fun h1 => .inr (Nat.le_trans ha.size h1))
  apart := h.apart
  facts := h.facts
  loc := h.loc
/-- marks are put together. -/
theorem Wd.join {w0 w : World} {M0 : Nat → Prop} {Es Ds : List Nat} {bs bs' : List Item} {fs : List (World → Prop)} (h : Wd w0 M0 w (marks Es :: bs) fs) (hr : ReplI bs (marks Ds) (marks (Es ++ Ds)) bs') : Wd w0 M0 w bs' fs := by
  obtain ⟨pre, post, rfl, rfl⟩ := hr.ex
  have h2 := h.perm (bs' := marks Es :: marks Ds :: (pre ++ post)) (.cons _ (List.perm_middle.symm))
  have hap := List.pairwise_cons.1 h2.apart
  have hap2 := List.pairwise_cons.1 hap.2
  have he : (marks Es).holds w := h2.held _ (by simp)
  have hd : (marks Ds).holds w := h2.held _ (by simp)
  refine Wd.perm (bs := marks (Es ++ Ds) :: (pre ++ post)) ?_ List.perm_middle
  have hfeq : foots (marks (Es ++ Ds) :: (pre ++ post)) = foots (marks Es :: marks Ds :: (pre ++ post)) := by
    funext k
    simp only [foots, List.mem_cons, or_and_right, exists_or, exists_eq_left, marks, List.mem_append, or_assoc]
  refine ⟨h2.agree, ?_, ?_, ?_, List.pairwise_cons.2 ⟨?_, hap2.2⟩, ?_, ?_⟩
  · intro it hi
    rcases List.mem_cons.1 hi with rfl | hi
    · exact ⟨List.nodup_append.2 ⟨he.1, hd.1, fun a ha b hb e => hap.1 (marks Ds) (by simp) a ha (e ▸ hb)⟩, fun k hk => (List.mem_append.1 hk).elim (he.2 k) (hd.2 k)⟩
    · exact h2.held it (by simp only [List.mem_cons]; exact .inr (.inr hi))
  · intro it hi k hk
    rcases List.mem_cons.1 hi with rfl | hi
    · exact (List.mem_append.1 hk).elim (fun q => h2.lt (marks Es) (by simp) k q) (fun q => h2.lt (marks Ds) (by simp) k q)
    · exact h2.lt it (by simp only [List.mem_cons]; exact .inr (.inr hi)) k hk
  · intro it hi ho k hk
    rcases List.mem_cons.1 hi with rfl | hi
    · exact (List.mem_append.1 hk).elim (fun q => h2.own (marks Es) (by simp) rfl k q) (fun q => h2.own (marks Ds) (by simp) rfl k q)
    · exact h2.own it (by simp only [List.mem_cons]; exact .inr (.inr hi)) ho k hk
  · intro it hi k hk
    rcases List.mem_append.1 hk with q | q
    · exact hap.1 it (by simp only [List.mem_cons]; exact .inr hi) k q
    · exact hap2.1 it hi k q
  · intro Φ hΦ
    rw [hfeq]; exact h2.facts Φ hΦ
  · intro it hi
    rcases List.mem_cons.1 hi with rfl | hi
    · exact marks_loc _
    · exact h2.loc it (by simp only [List.mem_cons]; exact .inr (.inr hi))

section
variable {P : Program} {Q : Exit → Act → World → Prop} {w0 : World} {M0 : Nat → Prop} {ds : List Deferred} {a : Act} {w : World} {l : List Value} {bs bs' : List Item} {fs : List (World → Prop)}

/-- what a round's end must bring. -/
def RoundEnd (P : Program) (L : Nat) (w1 : World) (M : Nat → Prop) (J : World → Prop) (Jx : Code → World → Prop) : Exit → Act → World → Prop :=
  roundPost P L fun e W' => Agree M w1 W' ∧ ((e = .returned (.bool true) ∧ J W') ∨ (e = .returned (.bool false) ∧ ∃ c, Jx c W'))
theorem Wd.putLoop {L D : Nat} {r r' : Loop} (h : Wd w0 M0 w bs fs) [hr : ReplI bs (lpI L D r) (lpI L D r') bs'] : w.heap[L]? = some (.loop r) ∧ Wd w0 M0 (w.putObj L (.loop r')) bs' fs := by
  obtain ⟨pre, post, rfl, rfl⟩ := hr.ex
  have hm : lpI L D r ∈ pre ++ lpI L D r :: post := by simp
  have hl := h.held _ hm
  have hlt : L < w.heap.size := (Array.getElem?_eq_some_iff.1 hl.1).1
  have hDL : D ≠ L := fun e => by have h1 := hl.1; have h2 := hl.2; rw [e, h1] at h2; cases h2
  exact ⟨hl.1, h.swap rfl (Agree.putObj w L _ (.inr rfl)) ⟨World.putObj_heap_same hlt, (World.putObj_heap_other hDL).trans hl.2⟩ (fun k hk => .inl hk) (fun k hk => by simpa using h.lt _ hm k hk) (lpI_loc _ _ _)⟩
theorem rend {L D : Nat} {b : Loop} {w1 : World} {M : Nat → Prop} {J : World → Prop} {Jx : Code → World → Prop} (S : St w1 M ds a w l bs fs) (jump : Option Code)
    [hr : ReplI bs (lpI L D (lpR b .busy none)) (lpI L D (lpR b (if jump.isNone then .ready else .done) jump)) bs']
    (h : ∀ W', Wd w1 M W' bs' fs → (jump = none → J W') ∧ (∀ c, jump = some c → Jx c W')) : ∃ v w', (Instr.endRound L jump).run P w = .ok v w' ∧ (Agree M w1 w' ∧ ((Ending.returned v = .returned (.bool true) ∧ J w') ∨ (Ending.returned v = .returned (.bool false) ∧ ∃ c, Jx c w'))) := by
  obtain ⟨hl, hwd⟩ := S.wd.putLoop (L := L) (D := D) (r := lpR b .busy none) (r' := lpR b (if jump.isNone then .ready else .done) jump)
  obtain ⟨h1, h2⟩ := h _ hwd
  refine ⟨_, _, run_endRound (P := P) jump hl, hwd.agree, ?_⟩
  cases jump with
  | none => exact .inl ⟨rfl, h1 rfl⟩
  | some c => exact .inr ⟨rfl, c, h2 c rfl⟩
theorem rnext {L D : Nat} {b : Loop} {w1 : World} {M : Nat → Prop} {J : World → Prop} {Jx : Code → World → Prop} (S : St w1 M ds a w l bs fs)
    [hr : ReplI bs (lpI L D (lpR b .busy none)) (lpI L D (lpR b .ready none)) bs'] (h : ∀ W', Wd w1 M W' bs' fs → J W') : RoundEnd P L w1 M J Jx .normal a w :=
  rend (D := D) (b := b) S none (hr := hr) fun W' hW => ⟨fun _ => h W' hW, fun _ h => by cases h⟩
theorem rret {L D : Nat} {b : Loop} {w1 : World} {M : Nat → Prop} {J : World → Prop} {Jx : Code → World → Prop} (S : St w1 M ds a w l bs fs)
    [hr : ReplI bs (lpI L D (lpR b .busy none)) (lpI L D (lpR b .done (some .ret))) bs'] (h : ∀ W', Wd w1 M W' bs' fs → Jx .ret W') : RoundEnd P L w1 M J Jx .ret a w :=
  rend (D := D) (b := b) S (some .ret) (hr := hr) fun W' hW => ⟨fun h => by (cases h), fun _ h' => by cases h'; exact h W' hW⟩
theorem rexit {L D id : Nat} {b : Loop} {w1 : World} {M : Nat → Prop} {J : World → Prop} {Jx : Code → World → Prop} (S : St w1 M ds a w l bs fs)
    [hr : ReplI bs (lpI L D (lpR b .busy none)) (lpI L D (lpR b .done (some (.exit id)))) bs'] (h : ∀ W', Wd w1 M W' bs' fs → Jx (.exit id) W') : RoundEnd P L w1 M J Jx (.exit id) a w :=
  rend (D := D) (b := b) S (some (.exit id)) (hr := hr) fun W' hW => ⟨fun h => by (cases h), fun _ h' => by cases h'; exact h W' hW⟩
/-- the body has begun: the record is busy. -/
theorem rbegin {L D : Nat} {b : Loop} {w1 : World} {M : Nat → Prop} {K : Act → World → Prop} (S : St w1 M ds a w l bs fs)
    [hr : ReplI bs (lpI L D (lpR b .ready none)) (lpI L D (lpR b .busy none)) bs']
    (h : ∀ a w, St w1 M ds a w l bs' fs → K a w) : ∃ w2, (Instr.beginRound L).run P w = .ok () w2 ∧ K a w2 := by
  obtain ⟨hl, hwd⟩ := S.wd.putLoop (L := L) (D := D) (r := lpR b .ready none) (r' := lpR b .busy none)
  exact ⟨_, run_beginRound (P := P) hl rfl, h _ _ ⟨S.slots, S.defers, hwd⟩⟩
theorem foldl_put (ps : List Nat) (vs : List Value) : ∀ (t : Array Value), (ps.toArray.zip vs.toArray).foldl (fun t (p, v) => t.setIfInBounds p v) t = (ps.zip vs).foldl (fun t (x : Nat × Value) => t.setIfInBounds x.1 x.2) t := by
  intro t
  simp
/-- the slots of a round. -/
class PutPs (l : List Value) (ps : List Nat) (vs : List Value) (l' : outParam (List Value)) : Prop where eq : (ps.zip vs).foldl (fun (t : Array Value) (x : Nat × Value) => t.setIfInBounds x.1 x.2) l.toArray = l'.toArray ∧ vs.length = ps.length
instance putps0 {l : List Value} : PutPs l [] [] l := ⟨by simp⟩
instance putpsS {l l1 l' : List Value} {p : Nat} {v : Value} {ps : List Nat} {vs : List Value} [h : PutAt l p v l1] [h' : PutPs l1 ps vs l'] : PutPs l (p :: ps) (v :: vs) l' := ⟨by
  obtain ⟨h1, h2⟩ := h'.eq
  have := h.eq
  simp [← h1, h2, ← this]⟩
/-- a loop over a function. -/
theorem c_range {α : Type} {g : Operand} {ps : List Nat} {assign body : Code} {gf : Nat} {lb : List Value} {Ds : List Nat} {κ κx : Type} {E : α → List Value → World → World → Prop} (xs : List α)
    (bsI : Nat → κ → List Item) (fsI : Nat → κ → List (World → Prop)) (φ : Nat → κ → Prop) (bsX : κx → List Item) (fsX : κx → List (World → Prop)) (ψ : Code → κx → Prop) (k0 : κ)
    (S : St w0 M0 (dsOf Ds) a w l bs fs) [EntF P gf] [hg : Ev ⟨[], l⟩ g (.func (.func gf) #[] ⟨lb⟩)]
    (hit : ∀ (M : Nat → Prop) (w1 : World), (∀ k, M k → k < w1.heap.size) → (∀ Φ ∈ fs, Stable M w1 Φ) → (∀ it ∈ bs, it.own = false → Stable M w1 it.holds) → IterRet P gf lb w1 M E xs)
    (hk0 : φ 0 k0 ∧ bsI 0 k0 = bs ∧ fsI 0 k0 = fs)
    (hround : ∀ (L D : Nat) (b : Loop) (M : Nat → Prop) (w1 : World) (i : Nat) (x : α) (vs : List Value) (k : κ) (W0 W : World), xs[i]? = some x → φ i k → Wd w1 M W0 (lpI L D (lpR b .ready none) :: bsI i k) (fsI i k) → Grow W0 W → E x vs W0 W → ∃ lx, PutPs l ps vs lx ∧ ∀ a,
      St w1 M [] a W lx (lpI L D (lpR b .ready none) :: bsI i k) (fsI i k) →
      Wp P (some L) assign (Exit.then (fun a w => ∃ w2, (Instr.beginRound L).run P w = .ok () w2 ∧ Wp P (some L) body (RoundEnd P L w1 M (fun W => ∃ k', φ (i + 1) k' ∧ Wd w1 M W (lpI L D (lpR b .ready none) :: bsI (i + 1) k') (fsI (i + 1) k'))
        (fun c W => (c = .ret ∨ ∃ id, c = .exit id) ∧ ∃ k', ψ c k' ∧ Wd w1 M W (lpI L D (lpR b .done (some c)) :: bsX k') (fsX k'))) a w2) (fun _ _ _ => False)) a W)
    (hdone : ∀ (D : Nat) (k : κ) (a : Act) (W : World), φ xs.length k → St w0 M0 (dsOf ([D] ++ Ds)) a W l (marks [D] :: bsI xs.length k) (fsI xs.length k) → Q .normal a W)
    (hret : ∀ (D : Nat) (k : κx) (a : Act) (W : World), ψ .ret k → St w0 M0 (dsOf ([D] ++ Ds)) a W l (marks [D] :: bsX k) (fsX k) → Q .ret a W)
    (hexit : ∀ (id D : Nat) (k : κx) (a : Act) (W : World), ψ (.exit id) k → St w0 M0 (dsOf ([D] ++ Ds)) a W l (marks [D] :: bsX k) (fsX k) → Q (.exit id) a W) :
    Wp P none (.rangeFunc g ps.toArray assign body) Q a w := by
  refine wpIn_rangeFunc ?_
  intro fn _
  obtain ⟨b, hb⟩ : ∃ b : Loop, b = { state := .ready, pending := none, fn := fn, tmps := a.tmps, params := ps.toArray, assign := assign, body := body, defers := w.heap.size } := ⟨_, rfl⟩
  obtain ⟨w1, hw1⟩ : ∃ w1, (w.alloc (.deferred (some []))).alloc (.loop b) = w1 := ⟨_, rfl⟩
  have hL1 : w1.heap[w.heap.size + 1]? = some (.loop b) := by
    rw [← hw1]; have := World.alloc_heap_new (w.alloc (.deferred (some []))) (.loop b); rwa [World.size_alloc] at this
  have hD1 : w1.heap[w.heap.size]? = some (.deferred (some [])) := by
    rw [← hw1]; exact (RowKit.Below.heap_alloc _ _ _ (by simp)).trans (World.alloc_heap_new w _)
  have hsz : w1.heap.size = w.heap.size + 2 := by rw [← hw1]; simp
  have hgrow : Grow w w1 := by rw [← hw1]; exact (Agree.alloc _ w _).trans (Agree.alloc _ _ _)
  have hlpr : lpR b .ready none = b := by rw [hb]; rfl
  obtain ⟨M, hM⟩ : ∃ M : Nat → Prop, M = fun k => k = w.heap.size ∨ k = w.heap.size + 1 ∨ ∃ it ∈ bs, it.own = true ∧ it.foot k := ⟨_, rfl⟩
  have hwd1 : Wd w1 M w1 (lpI (w.heap.size + 1) w.heap.size (lpR b .ready none) :: bs) fs := by
    have hst := S.wd.step hgrow
    refine ⟨Agree.refl _ _, ?_, ?_, ?_, List.pairwise_cons.2 ⟨?_, hst.apart⟩, ?_, ?_⟩
    · intro it hi
      rcases List.mem_cons.1 hi with rfl | hi
      · exact ⟨by rw [hlpr]; exact hL1, hD1⟩
      · exact hst.held it hi
    · intro it hi k hk
      rcases List.mem_cons.1 hi with rfl | hi
      · simp only [lpI] at hk; omega
      · exact hst.lt it hi k hk
    · intro it hi ho k hk
      rw [hM]
      rcases List.mem_cons.1 hi with rfl | hi
      · exact .inl (hk.elim .inl (fun h => .inr (.inl h)))
      · exact .inl (.inr (.inr ⟨it, hi, ho, hk⟩))
    · intro it hi k hk hk'
      have := S.wd.lt it hi k hk'
      simp only [lpI] at hk; omega
    · intro Φ hΦ w'' hw''
      refine S.wd.facts Φ hΦ w'' ((hgrow.mono (fun _ _ h => h.elim)).trans' hw'' fun i hi ⟨it, hm, hk⟩ => ?_)
      rcases List.mem_cons.1 hm with rfl | hm
      · simp only [lpI] at hk; omega
      · exact ⟨it, hm, hk⟩
    · intro it hi
      rcases List.mem_cons.1 hi with rfl | hi
      · exact lpI_loc _ _ _
      · exact hst.loc it hi
  have hMlt : ∀ k, M k → k < w1.heap.size := fun k hk => by
    rw [hM] at hk
    rcases hk with rfl | rfl | ⟨it, hi, _, hk⟩
    · omega
    · omega
    · have := S.wd.lt it hi k hk; omega
  have hMf : ∀ Φ ∈ fs, Stable M w1 Φ := fun Φ hΦ => (hwd1.facts Φ hΦ).less fun k _ hk => by
    rw [hM] at hk
    rcases hk with rfl | rfl | ⟨it, hi, _, hk⟩
    · exact ⟨_, List.mem_cons_self .., .inl rfl⟩
    · exact ⟨_, List.mem_cons_self .., .inr rfl⟩
    · exact ⟨it, List.mem_cons_of_mem _ hi, hk⟩
  have hMr : ∀ it ∈ bs, it.own = false → Stable M w1 it.holds := fun it hi ho w2 hw2 => by
    have hst := S.wd.step hgrow
    refine hst.loc it hi w1 w2 (fun k hk => hw2.blk (hst.lt it hi k hk) fun hm => ?_) (hst.held it hi)
    rw [hM] at hm
    have hlt := S.wd.lt it hi k hk
    rcases hm with rfl | rfl | ⟨it', hi', ho', hk'⟩
    · omega
    · omega
    · exact apart_of S.wd.apart hi hi' (by rw [ho, ho']; simp) k hk hk'
  have hM0 : ∀ k, M k → M0 k ∨ w0.heap.size ≤ k := fun k hk => by
    have := S.wd.agree.size
    rw [hM] at hk
    rcases hk with rfl | rfl | ⟨it, hi, ho, hk⟩
    · exact .inr this
    · exact .inr (by omega)
    · exact S.wd.own it hi ho k hk
  have hag : Agree M0 w0 w1 := (S.wd.step hgrow).agree
  have hfin : ∀ (r : Loop) (bs2 : List Item) (fs2 : List (World → Prop)) (W : World), r.state ≠ .busy → Wd w1 M W (lpI (w.heap.size + 1) w.heap.size r :: bs2) fs2 →
      ∃ W', (Instr.endLoop (w.heap.size + 1)).run P W = .ok r.pending W' ∧ St w0 M0 (dsOf ([w.heap.size] ++ Ds)) { a with defers := [{ target := .collected w.heap.size, args := #[] }] ++ a.defers } W' l (marks [w.heap.size] :: bs2) fs2 := fun r bs2 fs2 W hr hwd => by
    have hl : W.heap[w.heap.size + 1]? = some (.loop r) ∧ W.heap[w.heap.size]? = some (.deferred (some [])) := hwd.held _ (List.mem_cons_self ..)
    have hlt : w.heap.size + 1 < W.heap.size := (Array.getElem?_eq_some_iff.1 hl.1).1
    refine ⟨_, run_endLoop (P := P) hl.1 hr, S.slots, by rw [S.defers]; rfl, ?_⟩
    refine (hwd.rebase hag hM0).swap (pre := []) (y := marks [w.heap.size]) rfl (Agree.putObj W _ _ (.inr rfl)) ⟨by simp, fun k hk => ?_⟩ (fun k hk => .inl ?_) (fun k hk => ?_) (marks_loc _)
    · obtain rfl := List.mem_singleton.1 hk
      exact (World.putObj_heap_other (by omega)).trans hl.2
    · obtain rfl := List.mem_singleton.1 hk; exact .inl rfl
    · obtain rfl := List.mem_singleton.1 hk; simp; omega
  have heg := hg.eq (by simp) a.defers
  have hae : a.eval g = .func (.func gf) #[] ⟨lb⟩ := S.fr.ev
  refine ⟨w.heap.size + 1, [{ target := .collected w.heap.size, args := #[] }], w1, { target := .fn (.func gf) ⟨lb⟩, args := #[.func (.yield (w.heap.size + 1)) #[] #[]] }, w1, gf,
    (.func (.yield (w.heap.size + 1)) #[] #[] :: lb).toArray, w1, ?_, ?_, fun _ _ => trivial, ?_, fun h => (by cases h), ?_⟩
  · rw [← hw1, hb]; exact run_enterLoop_outer _ _ _ _ _
  · simp only [resolve, hae]
    simp [go_sem]
  · have := EntF.run (P := P) (f := gf) (.func (.yield (w.heap.size + 1)) #[] #[] :: lb).toArray w1
    simpa [invoke, go_sem] using this
  · have hI := hit M w1 hMlt hMf hMr
    refine CallsIn.mono (hI (w.heap.size + 1) (fun i W => ∃ k, φ i k ∧ Wd w1 M W (lpI (w.heap.size + 1) w.heap.size (lpR b .ready none) :: bsI i k) (fsI i k))
      (fun W => ∃ c, (c = .ret ∨ ∃ id, c = .exit id) ∧ ∃ k, ψ c k ∧ Wd w1 M W (lpI (w.heap.size + 1) w.heap.size (lpR b .done (some c)) :: bsX k) (fsX k)) ?_ ⟨k0, hk0.1, by rw [hk0.2.1, hk0.2.2]; exact hwd1⟩) ?_
    · rintro i x vs W0 W1 hx ⟨k, hφ, hwd⟩ hgr hE
      have hwdg := hwd.step hgr
      have hl : W1.heap[w.heap.size + 1]? = some (.loop (lpR b .ready none)) := (hwdg.held _ (List.mem_cons_self ..)).1
      obtain ⟨lx, hps, hround'⟩ := hround (w.heap.size + 1) w.heap.size b M w1 i x vs k W0 W1 hx hφ hwd hgr hE
      have hp := hps.eq
      have hy := run_yield (P := P) (args := vs.toArray) hl (by rw [hb]; simpa [lpR] using hp.2)
      refine ⟨_, _, _, _, hy, roundIn_of_wpIn trivial ?_⟩
      have e1 : (((lpR b .ready none).params.zip vs.toArray).foldl (fun tmps (t, a) => tmps.setIfInBounds t a) (lpR b .ready none).tmps) = lx.toArray := by
        rw [hb]
        simp only [lpR, S.slots, foldl_put, hp.1]
      rw [e1]
      have := hround' { tmps := lx.toArray, defers := [] } ⟨rfl, rfl, hwdg⟩
      simp only [hb, lpR] at this ⊢
      refine wpIn_mono this ?_
      intro e a' w' he
      cases e with
      | normal =>
        obtain ⟨w2, h1, h2⟩ := he
        exact ⟨w2, h1, h2⟩
      | _ => exact he.elim
    · rintro e W ⟨⟨v, rfl⟩, W0, hgr, ⟨k, hφ, hwd⟩ | ⟨c, hc, k, hψ, hwd⟩⟩
      · obtain ⟨W', h1, h2⟩ := hfin (lpR b .ready none) _ _ W (by simp [lpR]) (hwd.step hgr)
        exact ⟨none, W', h1, hdone _ k _ W' hφ h2⟩
      · obtain ⟨W', h1, h2⟩ := hfin (lpR b .done (some c)) _ _ W (by simp [lpR]) (hwd.step hgr)
        refine ⟨some c, W', h1, ?_⟩
        rcases hc with rfl | ⟨id, rfl⟩
        · exact wpIn_ret (hret _ k _ W' hψ h2)
        · exact wpIn_exit (hexit id _ k _ W' hψ h2)

theorem St.join {Es Ds : List Nat} (S : St w0 M0 ds a w l (marks Es :: bs) fs) [hr : ReplI bs (marks Ds) (marks (Es ++ Ds)) bs'] : St w0 M0 ds a w l bs' fs := ⟨S.slots, S.defers, S.wd.join hr⟩
/-! a function with such loops: its beginning and its end -/
theorem enterM {f : Nat} {fn : Func} {c : Code} {args : List Value} {l : List Value} {R : Ending → World → Prop} {M0 : Nat → Prop} {bs : List Item} {fs : List (World → Prop)}
    (hf : P.funcs[f]? = some fn) (hb : fn.body = some c) (hl : args ++ List.replicate (fn.ntmps - args.length) undef = l) (hw : Wd w M0 w bs fs)
    (h : ∀ a, St w M0 (dsOf []) a w l (marks [] :: bs) fs → Wp P none c (bodyPostM (FW none) 0 P fn R) a w) : Calls P f args.toArray w R := by
  refine (callsIn_wide (n := 0)).1 (callsIn_of_wp_marks (F := FW none) (n := 0) hf hb trivial (h _ ⟨?_, rfl, ?_⟩))
  · simp [← hl]
  · exact hw.more (y := marks []) ⟨by simp, by simp⟩ (fun k hk => by cases hk) (fun k hk => by cases hk) (fun it _ k hk => by cases hk)
      (fun Φ hΦ => (hw.facts Φ hΦ).less fun k _ ⟨it, hi, hk⟩ => by
        rcases List.mem_cons.1 hi with rfl | hi
        · cases hk
        · exact ⟨it, hi, hk⟩) (marks_loc _)
theorem leavesM {fn : Func} {R : Ending → World → Prop} {t : Array Value} : ∀ (Ds : List Nat) (w : World), Wd w0 M0 w (marks Ds :: bs) fs → (∀ w', Wd w0 M0 w' bs fs → LeavesIn (FW none) 0 P fn t R [] .returning w') → LeavesInM (FW none) 0 P fn t R (dsOf Ds) .returning w
  | [], w, hw, h => h w (hw.sub (bs0 := bs) (List.sublist_cons_self ..) (List.Sublist.refl _))
  | D :: Ds, w, hw, h => by
    have hm : (marks (D :: Ds)).holds w := hw.held _ (List.mem_cons_self ..)
    have hD := hm.2 D (List.mem_cons_self ..)
    have hlt : D < w.heap.size := (Array.getElem?_eq_some_iff.1 hD).1
    refine ⟨by simp, .inl ⟨D, _, rfl, run_takeDeferred (P := P) hD, leavesM Ds _ ?_ h⟩⟩
    refine hw.swap (pre := []) (y := marks Ds) rfl (Agree.putObj w D _ (List.mem_cons_self ..)) ⟨(List.nodup_cons.1 hm.1).2, fun k hk => ?_⟩ (fun k hk => .inl (List.mem_cons_of_mem _ hk)) (fun k hk => ?_) (marks_loc _)
    · exact (World.putObj_heap_other (fun (e : k = D) => (List.nodup_cons.1 hm.1).1 (by rw [← e]; exact hk))).trans (hm.2 k (List.mem_cons_of_mem _ hk))
    · simpa using hw.lt _ (List.mem_cons_self ..) k (List.mem_cons_of_mem _ hk)
class DropI (bs : List Item) (x : Item) (bs' : outParam (List Item)) : Prop where perm : (x :: bs').Perm bs
instance dri0 {x : Item} {bs : List Item} : DropI (x :: bs) x bs := ⟨.refl _⟩
instance (priority := 900) driS {x y : Item} {bs bs' : List Item} [h : DropI bs x bs'] : DropI (y :: bs) x (y :: bs') := ⟨(List.Perm.swap _ _ _).trans (.cons _ h.perm)⟩
theorem finM {fn : Func} {R : Value → World → Prop} {e : Exit} {Ds : List Nat} {v : Value} (S : St w0 M0 (dsOf Ds) a w l bs fs) [hd : DropI bs (marks Ds) bs'] (hv : ∀ w, (∀ it ∈ bs', it.holds w) → (results fn l.toArray).run P w = .ok v w) (h : ∀ w, Wd w0 M0 w bs' fs → R v w) (he : e = .ret ∨ e = .normal := by simp) :
    bodyPostM (FW none) 0 P fn (fun e w' => ∃ v, e = .returned v ∧ Agree M0 w0 w' ∧ R v w') e a w := by
  have key : LeavesInM (FW none) 0 P fn a.tmps (fun e w' => ∃ v, e = .returned v ∧ Agree M0 w0 w' ∧ R v w') a.defers .returning w := by
    rw [S.defers, S.slots]
    refine leavesM Ds w (S.wd.perm hd.perm) fun w' hw' => ?_
    exact ⟨v, hv w' hw'.held, v, rfl, hw'.agree, h w' hw'⟩
  rcases he with rfl | rfl <;> exact key
theorem endM1 {fn : Func} {R : Value → World → Prop} {e : Exit} {Ds : List Nat} {r1 : ResultVar} {v1 : Value} [hr : FnRes fn [r1]] (S : St w0 M0 (dsOf Ds) a w l bs fs) [hd : DropI bs (marks Ds) bs'] [h1 : ResV P l bs' r1 v1] (h : ∀ w, Wd w0 M0 w bs' fs → R v1 w) (he : e = .ret ∨ e = .normal := by simp) :
    bodyPostM (FW none) 0 P fn (fun e w' => ∃ v, e = .returned v ∧ Agree M0 w0 w' ∧ R v w') e a w :=
  finM S (fun w hw => by rw [results_eq (rs := [r1])]; simp [run_res (P := P) (l := l) (bs := bs') (rv := r1) (v := v1) w hw]) h he
theorem endM0 {fn : Func} {R : Value → World → Prop} {e : Exit} {Ds : List Nat} [hr : FnRes fn []] (S : St w0 M0 (dsOf Ds) a w l bs fs) [hd : DropI bs (marks Ds) bs'] (h : ∀ w, Wd w0 M0 w bs' fs → R (.tuple #[]) w) (he : e = .ret ∨ e = .normal := by simp) :
    bodyPostM (FW none) 0 P fn (fun e w' => ∃ v, e = .returned v ∧ Agree M0 w0 w' ∧ R v w') e a w :=
  finM S (fun w hw => by rw [results_eq (rs := [])]; simp) h he
theorem endM2 {fn : Func} {R : Value → World → Prop} {e : Exit} {Ds : List Nat} {r1 r2 : ResultVar} {v1 v2 : Value} [hr : FnRes fn [r1, r2]] (S : St w0 M0 (dsOf Ds) a w l bs fs) [hd : DropI bs (marks Ds) bs'] [h1 : ResV P l bs' r1 v1] [h2 : ResV P l bs' r2 v2] (h : ∀ w, Wd w0 M0 w bs' fs → R (.tuple ⟨[v1, v2]⟩) w) (he : e = .ret ∨ e = .normal := by simp) :
    bodyPostM (FW none) 0 P fn (fun e w' => ∃ v, e = .returned v ∧ Agree M0 w0 w' ∧ R v w') e a w :=
  finM S (fun w hw => by rw [results_eq (rs := [r1, r2])]; simp [run_res (P := P) (l := l) (bs := bs') (rv := r1) (v := v1) w hw, run_res (P := P) (l := l) (bs := bs') (rv := r2) (v := v2) w hw]) h he
end
end Go.Wk

namespace Go.Wk
open Go

/-! a region whose order is drawn, where more than one loud operation may come next -/
inductive Tr where
  | e
  | q (i : Nat) (t : Tr)
  | l (i : Nat) (t : Tr)
  | b2 (i j : Nat) (t u : Tr)
  | b3 (i j k : Nat) (t u v : Tr)
  | b4 (i j k m : Nat) (t u v x : Tr)
def Tr.len : Tr → Nat
  | .e => 0
  | .q _ t | .l _ t => t.len + 1
  | .b2 _ _ t _ => t.len + 1
  | .b3 _ _ _ t _ _ => t.len + 1
  | .b4 _ _ _ _ t _ _ _ => t.len + 1
def flowT (ops : Array Oper) : Tr → Array Bool → Bool
  | .e, listed => (Region.ready .any ops listed).isEmpty
  | .q i t, listed => ((Region.ready .any ops listed).contains i && Region.free .any ops listed i) && flowT ops t (listed.setIfInBounds i true)
  | .l i t, listed => (match Region.ready .any ops listed with | [j] => Nat.beq j i | _ => false) && flowT ops t (listed.setIfInBounds i true)
  | .b2 i j t u, listed => (match Region.ready .any ops listed with | [x, y] => Nat.beq x i && Nat.beq y j | _ => false) && (Nat.beq u.len t.len && (flowT ops t (listed.setIfInBounds i true) && flowT ops u (listed.setIfInBounds j true)))
  | .b3 i j k t u v, listed => (match Region.ready .any ops listed with | [x, y, z] => Nat.beq x i && (Nat.beq y j && Nat.beq z k) | _ => false) && (Nat.beq u.len t.len && (Nat.beq v.len t.len && (flowT ops t (listed.setIfInBounds i true) && (flowT ops u (listed.setIfInBounds j true) && flowT ops v (listed.setIfInBounds k true)))))
  | .b4 i j k m t u v x, listed => (match Region.ready .any ops listed with | [a, y, z, b] => Nat.beq a i && (Nat.beq y j && (Nat.beq z k && Nat.beq b m)) | _ => false) && (Nat.beq u.len t.len && (Nat.beq v.len t.len && (Nat.beq x.len t.len && (flowT ops t (listed.setIfInBounds i true) && (flowT ops u (listed.setIfInBounds j true) && (flowT ops v (listed.setIfInBounds k true) && flowT ops x (listed.setIfInBounds m true)))))))
section
variable {P : Program} {ops : Array Oper} {C : World → Prop} {R : Act → World → Prop}
variable {r : Option Nat} {Q : Exit → Act → World → Prop} {w0 : World} {M0 : Nat → Prop} {ds : List Deferred} {a : Act} {w : World} {l l' : List Value} {bs bs' bs0 : List Item} {fs fs0 : List (World → Prop)}
  {d : Option Nat} {op : Op} {ty : TypeId} {pos : String} {af : Array Edge} {rest : List Oper} {v v' G : Value} {j g : Nat} {pol : Bool} {cs : List Bool} {n : Nat} {listed : Array Bool}
def AT (P : Program) (ops : Array Oper) (C : World → Prop) (R : Act → World → Prop) (t : Tr) (a : Act) (w : World) : Prop :=
  ∀ listed, Region.noSelect ops = true → flowT ops t listed = true → AC P ops C R t.len listed a w
variable {t u x : Tr} {i k : Nat}
theorem tq (S : St w0 M0 ds a w l bs fs) [hb : SubL bs0 bs] [hf : SubL fs0 fs] [ho : OpAt ops i ⟨d, op, ty, pos, af, none⟩] [hq : OpQ P op ty ⟨[], l⟩ bs0 fs0 v] [hp : PutO l d v l']
    (K : ∀ a, St w0 M0 ds a w l' bs fs → AT P ops (fun w => Wd w0 M0 w bs0 fs0) R t a w) :
    AT P ops (fun w => Wd w0 M0 w bs0 fs0) R (.q i t) a w := by
  intro listed hs hflow
  simp only [flowT, Bool.and_eq_true] at hflow
  refine ac_first ho.eq (Region.noSelect_spec hs) _ listed a w (Region.free_spec ho.eq hflow.1.2) (by simpa using hflow.1.1) (v := v) (.inl ⟨rfl, fun w' hw' => ?_⟩) (S.wd.sub hb.sub hf.sub) (K _ S.put _ hs hflow.2)
  rw [execOp_eq]
  exact hq.run a.eval w' S.fr hw'.mem
theorem tqG (S : St w0 M0 ds a w l bs fs) [hb : SubL bs0 bs] [hf : SubL fs0 fs] [ho : OpAt ops i ⟨d, op, ty, pos, af, some (j, pol)⟩] [hg : GSlot ops j g] [hn : Nth l g G] [hc : Conds G pol cs] [hq : OpQ P op ty ⟨cs, l⟩ bs0 fs0 v] [hv : GifV cs v v'] [hp : PutO l d v' l']
    (K : ∀ a, St w0 M0 ds a w l' bs fs → AT P ops (fun w => Wd w0 M0 w bs0 fs0) R t a w) :
    AT P ops (fun w => Wd w0 M0 w bs0 fs0) R (.q i t) a w := by
  intro listed hs hflow
  simp only [flowT, Bool.and_eq_true] at hflow
  have hw := wanted_iff (ops := ops) (d := d) (op := op) (ty := ty) (pos := pos) (af := af) (pol := pol) S hg.eq
  refine ac_first ho.eq (Region.noSelect_spec hs) _ listed a w (Region.free_spec ho.eq hflow.1.2) (by simpa using hflow.1.1) (v := v') ?_ (S.wd.sub hb.sub hf.sub) (K _ S.put _ hs hflow.2)
  by_cases hall : ∀ c ∈ cs, c = true
  · refine .inl ⟨hw.2 hall, fun w' hw' => ?_⟩
    rw [execOp_eq, hv.eq, if_pos hall]
    exact hq.run a.eval w' (S.frc hall) hw'.mem
  · exact .inr ⟨by
      cases hx : Region.wanted _ (yielded ops a.tmps) with
      | true => exact absurd (hw.1 hx) hall
      | false => rfl, by rw [hv.eq, if_neg hall]⟩
/-- one operation out of those that are ready. -/
theorem wn_of {o : Oper} [ho : OpAt ops i o] {K : Act → World → Prop} (h : WL P none ops (fun e a' w' => e = .normal ∧ K a' w') [o] a w) : WN P ops i K a w := by
  unfold WN wpOpIn
  simp only [ho.eq]
  simp only [WL, wpListIn] at h
  split
  · rename_i hw
    rw [if_pos hw] at h
    refine ⟨fun _ _ => trivial, ?_⟩
    have h := h.2
    generalize (o.semAt (FW none).round a.eval).run P w = q at *
    cases q with
    | ok x w' =>
      cases x <;> simp only [Oper.uponIn] at h ⊢
      case value u => exact h.2
      case skip => exact h.2
      case defer d => exact h.2
      case enter f args =>
        refine ⟨h.1, CallsIn.mono h.2 fun e w'' he => ?_⟩
        cases e with
        | returned u => exact he.2
        | panicked c => exact absurd he.1 (by simp)
        | outgrown => obtain ⟨_, _, he, _⟩ := he; exact absurd he (by simp)
      case row row args => exact ⟨h.1, RowsIn.mono h.2 fun u w'' he => he.2⟩
      case round l f tmps assign body =>
        refine ⟨h.1, RoundIn.mono h.2 fun e w'' he => ?_⟩
        cases e with
        | returned u => exact he.2
        | panicked c => exact absurd he.1 (by simp)
        | outgrown => obtain ⟨_, _, he, _⟩ := he; exact absurd he (by simp)
    | halt x w' =>
      cases x <;> simp only [Oper.uponIn] at h ⊢
      case panic u => exact absurd h.1 (by simp)
  · rename_i hw
    rw [if_neg hw] at h
    exact ⟨fun _ _ => trivial, h.2.2⟩
theorem tl {o : Oper} [ho : OpAt ops i o] (h : WL P none ops (fun e a' w' => e = .normal ∧ C w' ∧ AT P ops C R t a' w') [o] a w) : AT P ops C R (.l i t) a w := by
  intro listed hs hflow
  simp only [flowT, Bool.and_eq_true] at hflow
  have hr : Region.ready .any ops listed = [i] := by
    have := hflow.1
    split at this
    · rename_i k hk; rw [hk, Nat.eq_of_beq_eq_true this]
    · cases this
  refine ⟨fun h0 => (by rw [h0] at hr; cases hr), fun k hk => ?_⟩
  rw [hr] at hk
  obtain rfl : k = i := by simpa using hk
  exact wpOpIn_mono (fun a' w' h' => ⟨h'.1, h'.2 _ hs hflow.2⟩) (wn_of h)
theorem tb2 {oi oj : Oper} [hi : OpAt ops i oi] [hj : OpAt ops j oj] (h1 : WL P none ops (fun e a' w' => e = .normal ∧ C w' ∧ AT P ops C R t a' w') [oi] a w) (h2 : WL P none ops (fun e a' w' => e = .normal ∧ C w' ∧ AT P ops C R u a' w') [oj] a w) : AT P ops C R (.b2 i j t u) a w := by
  intro listed hs hflow
  simp only [flowT, Bool.and_eq_true] at hflow
  have hr : Region.ready .any ops listed = [i, j] := by
    have := hflow.1
    split at this
    · rename_i x y hk
      simp only [Bool.and_eq_true] at this
      rw [hk, Nat.eq_of_beq_eq_true this.1, Nat.eq_of_beq_eq_true this.2]
    · cases this
  have hlen := Nat.eq_of_beq_eq_true hflow.2.1
  refine ⟨fun h0 => (by rw [h0] at hr; cases hr), fun k hk => ?_⟩
  rw [hr] at hk
  rcases List.mem_cons.1 hk with rfl | hk
  · exact wpOpIn_mono (fun a' w' h' => ⟨h'.1, h'.2 _ hs hflow.2.2.1⟩) (wn_of h1)
  · obtain rfl := List.mem_singleton.1 hk
    refine wpOpIn_mono (fun a' w' h' => ⟨h'.1, ?_⟩) (wn_of h2)
    have := h'.2 _ hs hflow.2.2.2
    rwa [hlen] at this
theorem tb3 {oi oj ok : Oper} [hi : OpAt ops i oi] [hj : OpAt ops j oj] [hk : OpAt ops k ok] (h1 : WL P none ops (fun e a' w' => e = .normal ∧ C w' ∧ AT P ops C R t a' w') [oi] a w) (h2 : WL P none ops (fun e a' w' => e = .normal ∧ C w' ∧ AT P ops C R u a' w') [oj] a w)
    (h3 : WL P none ops (fun e a' w' => e = .normal ∧ C w' ∧ AT P ops C R x a' w') [ok] a w) : AT P ops C R (.b3 i j k t u x) a w := by
  intro listed hs hflow
  simp only [flowT, Bool.and_eq_true] at hflow
  have hr : Region.ready .any ops listed = [i, j, k] := by
    have := hflow.1
    split at this
    · rename_i x y z hk
      simp only [Bool.and_eq_true] at this
      rw [hk, Nat.eq_of_beq_eq_true this.1, Nat.eq_of_beq_eq_true this.2.1, Nat.eq_of_beq_eq_true this.2.2]
    · cases this
  have hlen := Nat.eq_of_beq_eq_true hflow.2.1
  have hlen2 := Nat.eq_of_beq_eq_true hflow.2.2.1
  refine ⟨fun h0 => (by rw [h0] at hr; cases hr), fun m hm => ?_⟩
  rw [hr] at hm
  rcases List.mem_cons.1 hm with rfl | hm
  · exact wpOpIn_mono (fun a' w' h' => ⟨h'.1, h'.2 _ hs hflow.2.2.2.1⟩) (wn_of h1)
  · rcases List.mem_cons.1 hm with rfl | hm
    · refine wpOpIn_mono (fun a' w' h' => ⟨h'.1, ?_⟩) (wn_of h2)
      have := h'.2 _ hs hflow.2.2.2.2.1
      rwa [hlen] at this
    · obtain rfl := List.mem_singleton.1 hm
      refine wpOpIn_mono (fun a' w' h' => ⟨h'.1, ?_⟩) (wn_of h3)
      have := h'.2 _ hs hflow.2.2.2.2.2
      rwa [hlen2] at this
theorem tb4 {y : Tr} {m : Nat} {oi oj ok om : Oper} [hi : OpAt ops i oi] [hj : OpAt ops j oj] [hk : OpAt ops k ok] [hm : OpAt ops m om] (h1 : WL P none ops (fun e a' w' => e = .normal ∧ C w' ∧ AT P ops C R t a' w') [oi] a w) (h2 : WL P none ops (fun e a' w' => e = .normal ∧ C w' ∧ AT P ops C R u a' w') [oj] a w)
    (h3 : WL P none ops (fun e a' w' => e = .normal ∧ C w' ∧ AT P ops C R x a' w') [ok] a w) (h4 : WL P none ops (fun e a' w' => e = .normal ∧ C w' ∧ AT P ops C R y a' w') [om] a w) : AT P ops C R (.b4 i j k m t u x y) a w := by
  intro listed hs hflow
  simp only [flowT, Bool.and_eq_true] at hflow
  have hr : Region.ready .any ops listed = [i, j, k, m] := by
    have := hflow.1
    split at this
    · rename_i x y z b hk
      simp only [Bool.and_eq_true] at this
      rw [hk, Nat.eq_of_beq_eq_true this.1, Nat.eq_of_beq_eq_true this.2.1, Nat.eq_of_beq_eq_true this.2.2.1, Nat.eq_of_beq_eq_true this.2.2.2]
    · cases this
  have hlen := Nat.eq_of_beq_eq_true hflow.2.1
  have hlen2 := Nat.eq_of_beq_eq_true hflow.2.2.1
  have hlen3 := Nat.eq_of_beq_eq_true hflow.2.2.2.1
  have hfl := hflow.2.2.2.2
  refine ⟨fun h0 => (by rw [h0] at hr; cases hr), fun q hq => ?_⟩
  rw [hr] at hq
  rcases List.mem_cons.1 hq with rfl | hq
  · exact wpOpIn_mono (fun a' w' h' => ⟨h'.1, h'.2 _ hs hfl.1⟩) (wn_of h1)
  · rcases List.mem_cons.1 hq with rfl | hq
    · refine wpOpIn_mono (fun a' w' h' => ⟨h'.1, ?_⟩) (wn_of h2)
      have := h'.2 _ hs hfl.2.1
      rwa [hlen] at this
    · rcases List.mem_cons.1 hq with rfl | hq
      · refine wpOpIn_mono (fun a' w' h' => ⟨h'.1, ?_⟩) (wn_of h3)
        have := h'.2 _ hs hfl.2.2.1
        rwa [hlen2] at this
      · obtain rfl := List.mem_singleton.1 hq
        refine wpOpIn_mono (fun a' w' h' => ⟨h'.1, ?_⟩) (wn_of h4)
        have := h'.2 _ hs hfl.2.2.2
        rwa [hlen3] at this
theorem te [hb : SubL bs0 bs] [hf : SubL fs0 fs] (S : St w0 M0 ds a w l bs fs) (h : AT P ops (fun w => Wd w0 M0 w bs0 fs0) R t a w) : WL P none ops (fun e a' w' => e = .normal ∧ Wd w0 M0 w' bs0 fs0 ∧ AT P ops (fun w => Wd w0 M0 w bs0 fs0) R t a' w') [] a w :=
  wl_nil ⟨rfl, S.wd.sub hb.sub hf.sub, h⟩
theorem tn (h : R a w) : AT P ops C R .e a w := by
  intro listed hs hflow
  have hr : Region.ready .any ops listed = [] := by simpa [flowT] using hflow
  exact ⟨hr, h⟩
theorem ac_mono {R' : Act → World → Prop} (hR : ∀ a w, R a w → R' a w) : ∀ (fuel : Nat) (listed : Array Bool) (a : Act) (w : World), AC P ops C R fuel listed a w → AC P ops C R' fuel listed a w
  | 0, _, _, _, h => ⟨h.1, hR _ _ h.2⟩
  | fuel + 1, _, _, _, h => ⟨fun h0 => hR _ _ (h.1 h0), fun i hi => wpOpIn_mono (fun _ _ h' => ⟨h'.1, ac_mono hR fuel _ _ _ h'.2⟩) (h.2 i hi)⟩
/-- such a region; whatever the order, the frame is then as I says. -/
theorem c_drawT {id : Nat} {lo : List Oper} (t : Tr) (bs0 : List Item) (S : St w0 M0 ds a w l bs fs) (I : Act → World → Prop) (h : ∀ w, St w0 M0 ds a w l bs fs → AT P lo.toArray (fun w => Wd w0 M0 w bs0 fs) I t a w)
    (hk : ∀ a w, I a w → Q .normal a w) (hm : P.follows .mixedOrders = true := by kernel_rfl)
    (hd : ((lo.all fun o => !isDefer o.op) && (Nat.beq t.len lo.length && (Region.noSelect lo.toArray && flowT lo.toArray t (Array.replicate lo.length false)))) = true := by kernel_rfl) : Wp P r (.region id lo.toArray true) Q a w := by
  simp only [Bool.and_eq_true] at hd
  refine wpIn_region_any hm (any_of_ac (C := fun w => Wd w0 M0 w bs0 fs) (fun i o ho => ?_) _ _ _ _ ?_)
  · have := List.all_eq_true.1 hd.1 o (by
      rw [List.getElem?_toArray] at ho
      exact List.mem_of_getElem? ho)
    simpa using this
  · have := h { w with drawn := w.drawn + 1 } ⟨S.slots, S.defers, S.wd.step (Agree.drawn _ w _)⟩ _ hd.2.2.1 hd.2.2.2
    rw [Nat.eq_of_beq_eq_true hd.2.1] at this
    simpa using ac_mono hk _ _ _ _ this
theorem c_drawT0 {id : Nat} {lo : List Oper} {l2 : List Value} {bs2 : List Item} {fs2 : List (World → Prop)} (t : Tr) (ids : List Nat) [DropBs bs ids bs0] (S : St w0 M0 ds a w l bs fs) (h : ∀ w, St w0 M0 ds a w l bs fs → AT P lo.toArray (fun w => Wd w0 M0 w bs0 fs) (fun a w => St w0 M0 ds a w l2 bs2 fs2) t a w)
    (hk : ∀ a w, St w0 M0 ds a w l2 bs2 fs2 → Q .normal a w) (hm : P.follows .mixedOrders = true := by kernel_rfl)
    (hd : ((lo.all fun o => !isDefer o.op) && (Nat.beq t.len lo.length && (Region.noSelect lo.toArray && flowT lo.toArray t (Array.replicate lo.length false)))) = true := by kernel_rfl) : Wp P r (.region id lo.toArray true) Q a w :=
  c_drawT t _ S _ h hk hm hd
theorem c_drawT1 {id : Nat} {lo : List Oper} {l2 : Nat → List Value} {bs2 : Nat → List Item} {fs2 : Nat → List (World → Prop)} (t : Tr) (ids : List Nat) [DropBs bs ids bs0] (S : St w0 M0 ds a w l bs fs) (h : ∀ w, St w0 M0 ds a w l bs fs → AT P lo.toArray (fun w => Wd w0 M0 w bs0 fs) (fun a w => ∃ b, St w0 M0 ds a w (l2 b) (bs2 b) (fs2 b)) t a w)
    (hk : ∀ b a w, St w0 M0 ds a w (l2 b) (bs2 b) (fs2 b) → Q .normal a w) (hm : P.follows .mixedOrders = true := by kernel_rfl)
    (hd : ((lo.all fun o => !isDefer o.op) && (Nat.beq t.len lo.length && (Region.noSelect lo.toArray && flowT lo.toArray t (Array.replicate lo.length false)))) = true := by kernel_rfl) : Wp P r (.region id lo.toArray true) Q a w :=
  c_drawT t _ S _ h (fun a w ⟨b, h⟩ => hk b a w h) hm hd
theorem c_drawT2 {id : Nat} {lo : List Oper} {l2 : Nat → Nat → List Value} {bs2 : Nat → Nat → List Item} {fs2 : Nat → Nat → List (World → Prop)} (t : Tr) (ids : List Nat) [DropBs bs ids bs0] (S : St w0 M0 ds a w l bs fs) (h : ∀ w, St w0 M0 ds a w l bs fs → AT P lo.toArray (fun w => Wd w0 M0 w bs0 fs) (fun a w => ∃ b b', St w0 M0 ds a w (l2 b b') (bs2 b b') (fs2 b b')) t a w)
    (hk : ∀ b b' a w, St w0 M0 ds a w (l2 b b') (bs2 b b') (fs2 b b') → Q .normal a w) (hm : P.follows .mixedOrders = true := by kernel_rfl)
    (hd : ((lo.all fun o => !isDefer o.op) && (Nat.beq t.len lo.length && (Region.noSelect lo.toArray && flowT lo.toArray t (Array.replicate lo.length false)))) = true := by kernel_rfl) : Wp P r (.region id lo.toArray true) Q a w :=
  c_drawT t _ S _ h (fun a w ⟨b, b', h⟩ => hk b b' a w h) hm hd
end
/-- a function value, with what it captures. -/
instance opMakeFunc {P ty} {l : Cx} {bs fs} {f : Nat} {fi ca : List Operand} {vs us : List Value} [EvL l fi vs] [EvL l ca us] : OpQ P (.makeFunc (.func f) fi.toArray ca.toArray) ty l bs fs (.func (.func f) ⟨vs⟩ ⟨us⟩) := ⟨fun ρ w h _ => by
  have e1 := h.evl (xs := fi) (vs := vs)
  have e2 := h.evl (xs := ca) (vs := us)
  simp [xop, execOp, e1, e2, Instr.makeFunc]⟩
end Go.Wk

namespace Go.Wk
open Go
section
variable {P : Program} {r : Option Nat} {ops : Array Oper} {Q : Exit → Act → World → Prop} {w0 : World} {M0 : Nat → Prop} {ds : List Deferred} {a : Act} {w : World} {l : List Value} {bs bs' : List Item} {fs fs0 : List (World → Prop)}
  {d : Option Nat} {op : Op} {ty : TypeId} {pos : String} {af : Array Edge} {rest : List Oper} {ts : Array TypeId}
/-- a call of yield. -/
theorem sy {x : Operand} {xs : List Operand} {L : Nat} {vs : List Value} {l' : Bool → List Value} {wI : World} {M : Nat → Prop} {J Jx : World → Prop} [hx : Ev ⟨[], l⟩ x (.func (.yield L) #[] #[])] [hv : EvL ⟨[], l⟩ xs vs] [hp : ∀ b : Bool, PutO l d (.bool b) (l' b)]
    (S : St w0 M0 ds a w l bs fs) (hF : ∀ Φ ∈ fs0, Stable M wI Φ)
    (hy : YieldAt (FW none) 0 P L vs.toArray w fun e W' => Agree M wI W' ∧ ((e = .returned (.bool true) ∧ J W') ∨ (e = .returned (.bool false) ∧ Jx W')))
    (K : ∀ (b : Bool) (N : Nat → Prop) a W, (b = true → J W) → (b = false → Jx W) → St W (fun _ => False) ds a W (l' b) [ext N] fs0 → WL P r ops Q rest a W) :
    WL P r ops Q (⟨d, .call { callee := .value x, args := xs.toArray, argTypes := ts }, ty, pos, af, none⟩ :: rest) a w := by
  refine wl_plain rfl ?_
  rw [semAt_nd rfl]
  obtain ⟨fn, tmps, assign, body, hrun, hround⟩ := hy
  have hf : a.eval x = .func (.yield L) #[] #[] := S.fr.ev
  have e := S.fr.evl (xs := xs) (vs := vs)
  have e1 : (xop a.eval (.call { callee := .value x, args := xs.toArray, argTypes := ts }) ty).run P w = .ok (.round L fn tmps assign body) w := by
    rw [← hrun]
    simp [xop, execOp, resolve, hf, Deferred.ofValue, invoke, e]
  simp only [e1, Oper.uponIn]
  refine ⟨fun h => (by cases h), RoundIn.mono hround ?_⟩
  have key : ∀ (b : Bool) (W : World), Agree M wI W → (b = true → J W) → (b = false → Jx W) → WL P r ops Q rest (a.put d (.bool b)) W := fun b W hag h1 h2 => by
    have := hp b
    have S' := S.put (d := d) (v := .bool b)
    refine K b (fun k => (M k ∨ wI.heap.size ≤ k) ∧ k < W.heap.size) _ W h1 h2 ⟨S'.slots, S'.defers, Wd.beginM (fun k hk => hk.2) fun Φ hΦ w'' hw'' => hF Φ hΦ w'' (hag.trans' hw'' fun i hi hk => ?_)⟩
    rcases hk.1 with h | h
    · exact h
    · omega
  rintro e W ⟨hag, ⟨rfl, hJ⟩ | ⟨rfl, hJ⟩⟩
  · exact key true W hag (fun _ => hJ) (fun h => by cases h)
  · exact key false W hag (fun h => by cases h) (fun _ => hJ)
/-- a slice cut out of a slice. -/
class EvB (l : Cx) (x : Option Operand) (dflt : Nat) (v : outParam Nat) : Prop where
  eq : (x = none ∧ v = dflt) ∨ ∃ o kk, x = some o ∧ Ev l o (.int kk (v : Int))
instance evb0 {l : Cx} {n : Nat} : EvB l none n n := ⟨.inl ⟨rfl, rfl⟩⟩
instance evb1 {l : Cx} {x : Operand} {n m : Nat} {kk : IntKind} {mi : Int} [h : Ev l x (.int kk mi)] [hm : IsNat mi m] : EvB l (some x) n m := ⟨.inr ⟨x, kk, rfl, by have := hm.eq; subst this; exact h⟩⟩
theorem run_sliceBound {P : Program} {kk : IntKind} {v y : Nat} (h : v ≤ y) (code : BoundsCode) (w : World) : (Instr.sliceBound (.int kk (v : Int)) y code).run P w = .ok v w := by
  simp [Instr.sliceBound, asIntOf, h]
theorem ssl {x : Operand} {ol oh om : Option Operand} {t e : TypeId} {z : Value} {sz by_ n c lo hi mx : Nat} {p : Option Addr} {l' : List Value} (S : St w0 M0 ds a w l bs fs) [Ev ⟨[], l⟩ x (.slice p n c)] [hl : EvB ⟨[], l⟩ ol 0 lo] [hh : EvB ⟨[], l⟩ oh n hi] [hx : EvB ⟨[], l⟩ om c mx] [Und P t (.slice e)] [TI P e z sz by_]
    [hp : PutO l d (.slice (if mx = lo then p else p.map (·.add (lo * sz))) (hi - lo) (mx - lo)) l'] (h1 : mx ≤ c) (h2 : hi ≤ mx) (h3 : lo ≤ hi) (K : ∀ a, St w0 M0 ds a w l' bs fs → WL P r ops Q rest a w) (hxh : om.isSome = true → oh.isSome = true := by simp) :
    WL P r ops Q (⟨d, .slice t x ol oh om, ty, pos, af, none⟩ :: rest) a w := by
  refine sv (.slice (if mx = lo then p else p.map (·.add (lo * sz))) (hi - lo) (mx - lo)) S (fun hf => ?_) K
  have hsz := run_size (P := P) (t := e) (z := z) (s := sz) (b := by_) w
  have eX : a.eval x = .slice p n c := hf.ev
  have hb : (Instr.sliceBounds true n c (ol.map a.eval) (oh.map a.eval) (om.map a.eval)).run P w = .ok (lo, hi, mx) w := by
    rcases hx.eq with ⟨rfl, rfl⟩ | ⟨o, kk, rfl, h⟩
    · rcases hh.eq with ⟨rfl, rfl⟩ | ⟨o2, kk2, rfl, h'⟩
      · rcases hl.eq with ⟨rfl, rfl⟩ | ⟨o3, kk3, rfl, h''⟩
        · simp [Instr.sliceBounds]
        · have e3 := hf.ev (x := o3) (v := .int kk3 (lo : Int))
          simp [Instr.sliceBounds, e3, run_sliceBound h3]
      · have e2 := hf.ev (x := o2) (v := .int kk2 (hi : Int))
        have h2' : hi ≤ mx := h2
        rcases hl.eq with ⟨rfl, rfl⟩ | ⟨o3, kk3, rfl, h''⟩
        · simp [Instr.sliceBounds, e2, run_sliceBound h2']
        · have e3 := hf.ev (x := o3) (v := .int kk3 (lo : Int))
          simp [Instr.sliceBounds, Sem.run_bind, e2, e3, run_sliceBound h2', run_sliceBound h3]
    · have e1 := hf.ev (x := o) (v := .int kk (mx : Int))
      rcases hh.eq with ⟨rfl, rfl⟩ | ⟨o2, kk2, rfl, h'⟩
      · exact absurd (hxh rfl) (by simp)
      · have e2 := hf.ev (x := o2) (v := .int kk2 (hi : Int))
        rcases hl.eq with ⟨rfl, rfl⟩ | ⟨o3, kk3, rfl, h''⟩
        · simp [Instr.sliceBounds, Sem.run_bind, e1, e2, run_sliceBound h1, run_sliceBound h2]
        · have e3 := hf.ev (x := o3) (v := .int kk3 (lo : Int))
          simp [Instr.sliceBounds, Sem.run_bind, e1, e2, e3, run_sliceBound h1, run_sliceBound h2, run_sliceBound h3]
  have key : (Instr.slice t (.slice p n c) (ol.map a.eval) (oh.map a.eval) (om.map a.eval)).run P w = .ok (.slice (if mx = lo then p else p.map (·.add (lo * sz))) (hi - lo) (mx - lo)) w := by
    simp only [Instr.slice, Sem.run_bind, run_und, Result.andThen_ok, hb, hsz, Sem.run_pure]
  simp only [xop, execOp, Instr.sliceAt, eX, Sem.run_bind, run_und, Result.andThen_ok, Sem.run_pure]
  simp [key]
theorem LsIn.drop {w : World} {p : Option Addr} : ∀ {i : Nat} {ts : List LTerm} (k : Nat), LsIn w p i ts → LsIn w p (i + k) (ts.drop k)
  | i, ts, 0, h => h
  | i, [], k + 1, h => by simp [LsIn]
  | i, t :: ts, k + 1, h => by
    have := LsIn.drop (i := i + 1) k h.2.2
    rw [show i + 1 + k = i + (k + 1) from by omega] at this
    exact this
theorem LsIn.shift {w : World} {ad : Addr} : ∀ {i : Nat} {ts : List LTerm} (k : Nat), LsIn w (some ad) (k + i) ts → LsIn w (some (ad.add (k * 5))) i ts
  | i, [], k, h => by simp [LsIn]
  | i, t :: ts, k, h => by
    obtain ⟨⟨ad', he, hc⟩, ht, hr⟩ := h
    cases he
    refine ⟨⟨_, rfl, fun j v hj => ?_⟩, ht, LsIn.shift k hr⟩
    rw [add_add, show k * 5 + (i * 5 + j) = (k + i) * 5 + j from by omega]
    exact hc j v hj
/-- what is cut out of a row of terms. -/
theorem LsIn.cut {w : World} {p : Option Addr} {ts : List LTerm} {lo mx : Nat} (h : LsIn w p 0 ts) (hm : ts.length ≤ mx) : LsIn w (if mx = lo then p else p.map (·.add (lo * 5))) 0 (ts.drop lo) := by
  by_cases hd : ts.drop lo = []
  · rw [hd]; simp [LsIn]
  · have hlo : lo < ts.length := by
      rcases Nat.lt_or_ge lo ts.length with h | h
      · exact h
      · exact absurd (List.drop_of_length_le h) hd
    rw [if_neg (by omega)]
    cases p with
    | none =>
      cases ts with
      | nil => simp at hd
      | cons t ts => obtain ⟨⟨ad, h1, _⟩, _⟩ := h; cases h1
    | some ad =>
      have := LsIn.drop lo h
      rw [Nat.zero_add] at this
      exact LsIn.shift (i := 0) lo (by simpa using this)
/-! scopes that no goto goes through -/
theorem c_scope {c : Code} (h : Wp P r c (Exit.noGoto Q) a w) : Wp P r (.scope c) Q a w := by
  intro b k cs hro hb hr
  have h0 : (lone (b.atR a (.code (.scope c) :: k)) cs w).fenced P (FW r) := fenced_calm hb hr rfl
  have s1 : step P (lone (b.atR a (.code (.scope c) :: k)) cs w) = .next (lone (b.atR a (.code c :: .inScope c :: k)) cs w) := step_lone_go (by simp [stepG, stepG.exec, Frame.atR])
  have s2 : ∀ (a : Act) (w : World), step P (lone (b.atR a (.inScope c :: k)) cs w) = .next (lone (b.atR a k) cs w) := fun a w => step_lone_go (by simp [stepG, stepG.exec, Frame.atR])
  obtain ⟨e, a₁, w₁, hq, harr⟩ := h b (.inScope c :: k) cs hro hb hr
  cases e with
  | normal => exact ⟨.normal, a₁, w₁, hq, .head h0 s1 (StepsIn.trans harr (.one (fenced_calm hb hr rfl) (s2 _ _)))⟩
  | exit id =>
    have hx : exitTo id (.inScope c :: k) = exitTo id k := by simp [exitTo]
    exact ⟨.exit id, a₁, w₁, hq, fun k' hk => .head h0 s1 (harr.1 k' (by rw [hx]; exact hk)), fun hr' hk => let ⟨k₁, h1, h2⟩ := harr.2 hr' (by rw [hx]; exact hk); ⟨k₁, h1, .head h0 s1 h2⟩⟩
  | goto l => exact hq.elim
  | ret => exact ⟨_, a₁, w₁, hq, .of_steps (.one h0 s1) harr⟩
  | panic ch => exact ⟨_, a₁, w₁, hq, .of_steps (.one h0 s1) harr⟩
  | outgrown => exact ⟨_, a₁, w₁, hq, .of_steps (.one h0 s1) harr⟩
theorem xsn (h : Q .normal a w) : Exit.noGoto Q .normal a w := h
theorem xsr (h : Q .ret a w) : Exit.noGoto Q .ret a w := h
theorem xse {id : Nat} (h : Q (.exit id) a w) : Exit.noGoto Q (.exit id) a w := h
/-! what is one's own is lent to an iterator -/
def Item.ro (x : Item) : Item := { x with own := false }
theorem St.toRo {x : Item} (S : St w0 M0 ds a w l bs fs) [hr : ReplI bs x x.ro bs'] : St w0 M0 ds a w l bs' fs := by
  obtain ⟨pre, post, rfl, rfl⟩ := hr.ex
  have h := S.wd
  have key : ∀ it, it ∈ pre ++ x.ro :: post → ∃ y, y ∈ pre ++ x :: post ∧ y.foot = it.foot ∧ y.holds = it.holds ∧ (it.own = true → y.own = true) := fun it hi => by
    rcases List.mem_append.1 hi with hi | hi
    · exact ⟨it, by simp [hi], rfl, rfl, id⟩
    · rcases List.mem_cons.1 hi with rfl | hi
      · exact ⟨x, by simp, rfl, rfl, fun h => by cases h⟩
      · exact ⟨it, by simp [hi], rfl, rfl, id⟩
  have hfe : foots (pre ++ x.ro :: post) = foots (pre ++ x :: post) := foots_repl rfl
  refine ⟨S.slots, S.defers, h.agree, ?_, ?_, ?_, ?_, ?_, ?_⟩
  · intro it hi; obtain ⟨y, hy, _, h2, _⟩ := key it hi; rw [← h2]; exact h.held y hy
  · intro it hi k hk; obtain ⟨y, hy, h1, _, _⟩ := key it hi; exact h.lt y hy k (h1 ▸ hk)
  · intro it hi ho k hk; obtain ⟨y, hy, h1, _, h3⟩ := key it hi; exact h.own y hy (h3 ho) k (h1 ▸ hk)
  · have hap := List.pairwise_append.1 h.apart
    have hap2 := List.pairwise_cons.1 hap.2.1
    exact List.pairwise_append.2 ⟨hap.1, List.pairwise_cons.2 hap2, fun u hu y hy => by
      rcases List.mem_cons.1 hy with rfl | hy
      · exact hap.2.2 u hu x (by simp)
      · exact hap.2.2 u hu y (by simp [hy])⟩
  · intro Φ hΦ; rw [hfe]; exact h.facts Φ hΦ
  · intro it hi w1 w2 hk hh; obtain ⟨y, hy, h1, h2, _⟩ := key it hi; rw [← h2] at hh ⊢; exact h.loc y hy w1 w2 (fun k hk' => hk k (h1 ▸ hk')) hh
theorem St.unRo {x : Item} (S : St w0 M0 ds a w l bs fs) [hr : ReplI bs x.ro x bs'] (hown : ∀ k, x.foot k → M0 k ∨ w0.heap.size ≤ k) : St w0 M0 ds a w l bs' fs := by
  obtain ⟨pre, post, rfl, rfl⟩ := hr.ex
  have h := S.wd
  have key : ∀ it, it ∈ pre ++ x :: post → ∃ y, y ∈ pre ++ x.ro :: post ∧ y.foot = it.foot ∧ y.holds = it.holds ∧ (it = x ∨ y.own = it.own) := fun it hi => by
    rcases List.mem_append.1 hi with hi | hi
    · exact ⟨it, by simp [hi], rfl, rfl, .inr rfl⟩
    · rcases List.mem_cons.1 hi with rfl | hi
      · exact ⟨it.ro, by simp, rfl, rfl, .inl rfl⟩
      · exact ⟨it, by simp [hi], rfl, rfl, .inr rfl⟩
  have hfe : foots (pre ++ x :: post) = foots (pre ++ x.ro :: post) := foots_repl rfl
  refine ⟨S.slots, S.defers, h.agree, ?_, ?_, ?_, ?_, ?_, ?_⟩
  · intro it hi; obtain ⟨y, hy, _, h2, _⟩ := key it hi; rw [← h2]; exact h.held y hy
  · intro it hi k hk; obtain ⟨y, hy, h1, _, _⟩ := key it hi; exact h.lt y hy k (h1 ▸ hk)
  · intro it hi ho k hk
    obtain ⟨y, hy, h1, _, h3⟩ := key it hi
    rcases h3 with rfl | h3
    · exact hown k hk
    · exact h.own y hy (h3 ▸ ho) k (h1 ▸ hk)
  · have hap := List.pairwise_append.1 h.apart
    have hap2 := List.pairwise_cons.1 hap.2.1
    exact List.pairwise_append.2 ⟨hap.1, List.pairwise_cons.2 hap2, fun u hu y hy => by
      rcases List.mem_cons.1 hy with rfl | hy
      · exact hap.2.2 u hu y.ro (by simp)
      · exact hap.2.2 u hu y (by simp [hy])⟩
  · intro Φ hΦ; rw [hfe]; exact h.facts Φ hΦ
  · intro it hi w1 w2 hk hh; obtain ⟨y, hy, h1, h2, _⟩ := key it hi; rw [← h2] at hh ⊢; exact h.loc y hy w1 w2 (fun k hk' => hk k (h1 ▸ hk')) hh
end
end Go.Wk
namespace Go.Wk
theorem St.boxNew {w0 M0 ds a w l bs fs} (S : St w0 M0 ds a w l bs fs) (b : Nat) {t : TypeId} {cs : List Value} [h : HasBox bs b t cs] : M0 b ∨ w0.heap.size ≤ b := S.wd.own _ h.mem rfl b rfl
end Go.Wk
namespace Go.Wk
instance isnatL0 : IsNat 0 0 := ⟨rfl⟩
instance isnatL1 : IsNat 1 1 := ⟨rfl⟩
instance isnatL2 : IsNat 2 2 := ⟨rfl⟩
instance isnatL3 : IsNat 3 3 := ⟨rfl⟩
instance isnatL4 : IsNat 4 4 := ⟨rfl⟩
instance isnatL5 : IsNat 5 5 := ⟨rfl⟩
end Go.Wk
namespace Go.Wk
/-- an iterator's end. -/
theorem endI {P : Program} {fn : Func} {R : World → Prop} {w0 : World} {M0 : Nat → Prop} {a : Act} {w : World} {l : List Value} {bs : List Item} {fs : List (World → Prop)} {e : Exit} [hr : FnRes fn []] (S : St w0 M0 [] a w l bs fs) (h : R w) (he : e = .ret ∨ e = .normal := by simp) :
    bodyPost P fn (fun e w' => (∃ v, e = .returned v) ∧ R w') e a w := by
  have hv : (results fn l.toArray).run P w = .ok (.tuple #[]) w := by rw [results_eq (rs := [])]; simp
  rw [← S.slots] at hv
  rcases he with rfl | rfl
  · exact bodyPost_ret hv S.defers ⟨⟨_, rfl⟩, h⟩
  · exact bodyPost_end hv S.defers ⟨⟨_, rfl⟩, h⟩
end Go.Wk
namespace Go.Wk
instance (priority := 100) mulnAny {i s : Nat} : MulN i s (i * s) := ⟨rfl⟩
theorem LsIn.nil_of {w : World} {i : Nat} {xs : List LTerm} (h : LsIn w none i xs) : xs = [] := by
  cases xs with
  | nil => rfl
  | cons x xs => obtain ⟨⟨ad, h0, _⟩, _⟩ := h; cases h0
end Go.Wk

namespace Go.Wk
open Go
section
variable {P : Program} {ty : TypeId} {l : Cx} {bs : List Item} {fs : List (World → Prop)} {x y : Operand} {t e : TypeId}
instance opCapSl {p : Option Addr} {a c : Nat} [Ev l x (.slice p a c)] [Und P t (.slice e)] : OpQ P (.call { callee := .builtin .cap, args := #[x], argTypes := #[t] }) ty l bs fs (.int .i64 c) := ⟨fun ρ w h _ => by
  simp [xop, execOp, resolve, invoke, builtin, Builtin.cap_, h.ev (x := x) (v := .slice p a c), Sem.run_bind, run_und, goInt]⟩
instance (priority := 960) opIdxB {lc : Cx} {b n c k o : Nat} {kk : IntKind} {m : Int} {z : Value} {sz by_ : Nat} [Ev lc x (.slice (some ⟨b, 0, none⟩) n c)] [Ev lc y (.int kk m)] [Und P t (.slice e)] [TI P e z sz by_] [hm : IsNat m k] [hk : KLt k n] [hmul : MulN k sz o] :
    OpQ P (.indexAddr t x y) ty lc bs fs (.pointer (some ⟨b, o, none⟩)) := ⟨fun ρ w h mm => by
  have hlt := hk.lt
  have h2 := hm.eq
  subst h2
  have he : (⟨b, 0, none⟩ : Addr).add (k * sz) = ⟨b, o, none⟩ := by rw [hmul.eq, add_lit]
  simp [xop, execOp, h.ev (x := x) (v := .slice (some ⟨b, 0, none⟩) n c), h.ev (x := y) (v := .int kk (k : Int))]
  simp [run_indexAt (P := P) (t := t) (e := e) (z := z) (sz := sz) (by_ := by_) (Int.natCast_nonneg k) (Int.ofNat_lt.2 hlt), he]⟩
class LeC (a b : Nat) : Prop where le : a ≤ b
instance (priority := 1100) lec0 {a : Nat} : LeC a a := ⟨Nat.le_refl _⟩
class HiOk (om oh : Option Operand) : Prop where ok : om.isSome = true → oh.isSome = true
instance hiok0 {oh : Option Operand} : HiOk none oh := ⟨fun h => by cases h⟩
instance hiok1 {om : Option Operand} {x : Operand} : HiOk om (some x) := ⟨fun _ => rfl⟩
end
section
variable {P : Program} {r : Option Nat} {ops : Array Oper} {Q : Exit → Act → World → Prop} {w0 : World} {M0 : Nat → Prop} {ds : List Deferred} {a : Act} {w : World} {l : List Value} {bs bs' : List Item} {fs : List (World → Prop)}
  {d : Option Nat} {op : Op} {ty : TypeId} {pos : String} {af : Array Edge} {rest : List Oper} {v : Value} {t e : TypeId} {sz by_ n c : Nat} {z : Value} {p : Option Addr} {xs : List Value} {x y : Operand}
theorem add_lit_off (g o j : Nat) : (⟨g, o, none⟩ : Addr).add j = ⟨g, o + j, none⟩ := by unfold Addr.add; split <;> simp_all
theorem run_cut {ρ : Operand → Value} {lc : Cx} {ol oh om : Option Operand} {lo hi mx : Nat} [Ev lc x (.slice p n c)] [hl : EvB lc ol 0 lo] [hh : EvB lc oh n hi] [hx : EvB lc om c mx] [Und P t (.slice e)] [TI P e z sz by_] (hf : Fr ρ lc)
    (h1 : mx ≤ c) (h2 : hi ≤ mx) (h3 : lo ≤ hi) (hxh : om.isSome = true → oh.isSome = true) (w : World) :
    (xop ρ (.slice t x ol oh om) ty).run P w = .ok (.value (.slice (if mx = lo then p else p.map (·.add (lo * sz))) (hi - lo) (mx - lo))) w := by
  have hsz := run_size (P := P) (t := e) (z := z) (s := sz) (b := by_) w
  have eX : ρ x = .slice p n c := hf.ev
  have hb : (Instr.sliceBounds true n c (ol.map ρ) (oh.map ρ) (om.map ρ)).run P w = .ok (lo, hi, mx) w := by
    rcases hx.eq with ⟨rfl, rfl⟩ | ⟨o, kk, rfl, h⟩
    · rcases hh.eq with ⟨rfl, rfl⟩ | ⟨o2, kk2, rfl, h'⟩
      · rcases hl.eq with ⟨rfl, rfl⟩ | ⟨o3, kk3, rfl, h''⟩
        · simp [Instr.sliceBounds]
        · have e3 := hf.ev (x := o3) (v := .int kk3 (lo : Int))
          simp [Instr.sliceBounds, e3, run_sliceBound h3]
      · have e2 := hf.ev (x := o2) (v := .int kk2 (hi : Int))
        have h2' : hi ≤ mx := h2
        rcases hl.eq with ⟨rfl, rfl⟩ | ⟨o3, kk3, rfl, h''⟩
        · simp [Instr.sliceBounds, e2, run_sliceBound h2']
        · have e3 := hf.ev (x := o3) (v := .int kk3 (lo : Int))
          simp [Instr.sliceBounds, Sem.run_bind, e2, e3, run_sliceBound h2', run_sliceBound h3]
    · have e1 := hf.ev (x := o) (v := .int kk (mx : Int))
      rcases hh.eq with ⟨rfl, rfl⟩ | ⟨o2, kk2, rfl, h'⟩
      · exact absurd (hxh rfl) (by simp)
      · have e2 := hf.ev (x := o2) (v := .int kk2 (hi : Int))
        rcases hl.eq with ⟨rfl, rfl⟩ | ⟨o3, kk3, rfl, h''⟩
        · simp [Instr.sliceBounds, Sem.run_bind, e1, e2, run_sliceBound h1, run_sliceBound h2]
        · have e3 := hf.ev (x := o3) (v := .int kk3 (lo : Int))
          simp [Instr.sliceBounds, Sem.run_bind, e1, e2, e3, run_sliceBound h1, run_sliceBound h2, run_sliceBound h3]
  have key : (Instr.slice t (.slice p n c) (ol.map ρ) (oh.map ρ) (om.map ρ)).run P w = .ok (.slice (if mx = lo then p else p.map (·.add (lo * sz))) (hi - lo) (mx - lo)) w := by
    simp only [Instr.slice, Sem.run_bind, run_und, Result.andThen_ok, hb, hsz, Sem.run_pure]
  simp only [xop, execOp, Instr.sliceAt, eX, Sem.run_bind, run_und, Result.andThen_ok, Sem.run_pure]
  simp [key]
instance (priority := 700) opSliceQ {lc : Cx} {ol oh om : Option Operand} {lo hi mx : Nat} [Ev lc x (.slice p n c)] [EvB lc ol 0 lo] [EvB lc oh n hi] [EvB lc om c mx] [Und P t (.slice e)] [TI P e z sz by_] [h1 : LeC mx c] [h2 : LeC hi mx] [h3 : LeC lo hi] [h4 : HiOk om oh] :
    OpQ P (.slice t x ol oh om) ty lc bs fs (.slice (if mx = lo then p else p.map (·.add (lo * sz))) (hi - lo) (mx - lo)) := ⟨fun _ρ w h _ => run_cut h h1.le h2.le h3.le h4.ok w⟩
/-- append(nil, make([]T, n)...): a new row of noughts. -/
theorem sapz {tn : TypeId} {kn k : IntKind} {m : Nat} {mi : Int} {l' : Nat → Nat → List Value} (S : St w0 M0 ds a w l bs fs) [Ev ⟨[], l⟩ x (.slice none 0 0)] [Ev ⟨[], l⟩ y (.int k mi)] [hm : IsNat mi m] [ht : Und P t (.slice e)] [htn : Und P tn (.int kn)] [hti : TI P e z sz by_] {zc : List Value} [hzc : Cells z zc] [hzl : LenIs zc sz]
    [hp : ∀ b c, PutO l d (.slice (some ⟨b, 0, none⟩) m c) (l' b c)] (h0 : 0 < m) (hs : 0 < sz) (h63 : m ≤ maxLen) (h48 : m * by_ ≤ 140737488355328)
    (K : ∀ b c zs a w, St w0 M0 ds a w (l' b c) (row e sz (some ⟨b, 0, none⟩) m c zs :: bs) fs → WL P r ops Q rest a w) :
    WL P r ops Q (⟨d, .call { callee := .builtin .append, args := #[x, y], argTypes := #[t, tn] }, ty, pos, af, none⟩ :: rest) a w := by
  refine wl_plain rfl ?_
  rw [semAt_nd rfl]
  obtain ⟨i, hi, hz', hsize, hby⟩ := hti.ex
  subst hsize hby
  have hmm := hm.eq
  subst hmm
  have h63' := h63
  have hzs : z.cells.size = i.size := by rw [← Array.length_toList, hzc.eq, hzl.eq]
  have hrun := Lib.run_append_nil_zeros (P := P) w t tn ty e i z k kn ht.eq htn.eq hi hz' m h0 hs (by unfold maxLen at h63; omega) (by omega)
  have e1 : (xop a.eval (.call { callee := .builtin .append, args := #[x, y], argTypes := #[t, tn] }) ty).run P w = .ok (.value (.slice (some ⟨w.heap.size, 0, none⟩) m (grownCap w m 0 e))) (w.drew.alloc (.cells (Builtin.zeroCells z.cells m ++ Builtin.zeroCells z.cells (grownCap w m 0 e - m)) e)) := by
    simp [xop, execOp, resolve, invoke, builtin, S.fr.ev (x := x) (v := .slice none 0 0), S.fr.ev (x := y) (v := .int k (m : Int)), hrun]
  simp only [e1, Oper.uponIn]
  have := hp w.heap.size (grownCap w m 0 e)
  have S' := S.put (d := d) (v := .slice (some ⟨w.heap.size, 0, none⟩) m (grownCap w m 0 e))
  have hge := grownCap_ge w m 0 e
  have hgrow : Grow w (w.drew.alloc (.cells (Builtin.zeroCells z.cells m ++ Builtin.zeroCells z.cells (grownCap w m 0 e - m)) e)) := (Agree.drawn _ w _).trans (Agree.alloc _ w.drew _)
  refine K _ _ ((Builtin.zeroCells z.cells m).toList) _ _ ⟨S'.slots, S'.defers, S'.wd.addRow hgrow (e := e) (sz := i.size) ⟨?_, .inr ⟨w.heap.size, _, _, rfl, Nat.zero_le _, heap_alloc_new w.drew _, hge, grownCap_le_maxLen w m 0 e h63', ?_, ?_⟩⟩ (fun ad h => by cases h; exact Nat.le_refl _)⟩
  · rw [Array.length_toList, size_zeroCells, hzs]
  · rw [Array.size_append, size_zeroCells, size_zeroCells, hzs, ← Nat.add_mul]; congr 1; omega
  · rw [Array.toList_append]
    have : (Builtin.zeroCells z.cells m).toList.length = m * i.size := by rw [Array.length_toList, size_zeroCells, hzs]
    rw [← this]; exact List.take_left
/-- append(s[:i], s[j:]...) in a row of one's own: what lies between falls out. -/
theorem sapr {i j m cy : Nat} {q : Option Addr} {tx e' : TypeId} {l' : List Value} (p : Option Addr) (n : Nat) (S : St w0 M0 ds a w l bs fs) {c : Nat} {xs : List Value} [hr : HasRow bs p n e sz c xs] [Ev ⟨[], l⟩ x (.slice p i c)] [Ev ⟨[], l⟩ y (.slice q m cy)] [ht : Und P t (.slice e)] [htx : Und P tx (.slice e')] [hti : TI P e z sz by_] [hfl : FlatR xs]
    [hp : PutO l d (.slice p (i + m) c) l'] [hrep : ReplI bs (row e sz p n c xs) (row e sz p (i + m) c (xs.take (i * sz) ++ xs.drop (j * sz))) bs'] (hq : q = if c = j then p else p.map (·.add (j * sz))) (hm : m = n - j) (hij : i ≤ j) (hj : j ≤ n) (hn : 0 < n)
    (K : ∀ a w, St w0 M0 ds a w l' bs' fs → WL P r ops Q rest a w) :
    WL P r ops Q (⟨d, .call { callee := .builtin .append, args := #[x, y], argTypes := #[t, tx] }, ty, pos, af, none⟩ :: rest) a w := by
  refine wl_plain rfl ?_
  rw [semAt_nd rfl]
  obtain ⟨ii, hi, hz', hsize, hby⟩ := hti.ex
  subst hsize hby
  have hrow := S.row p n
  obtain ⟨g, cur, hpp, hg, hnc, hcs, htk, hcm⟩ := own_cells hrow hn
  have hxl := hrow.1
  have hnl : (xs.drop (j * ii.size)).length = m * ii.size := by rw [List.length_drop, hxl, hm, Nat.sub_mul]
  have hjn := Nat.mul_le_mul_right ii.size hj
  have hijn := Nat.mul_le_mul_right ii.size hij
  have hncn := Nat.mul_le_mul_right ii.size hnc
  have hxc : ∀ k u, xs[k]? = some u → cur[k]? = some u := fun k u hk => by
    rw [← htk, List.getElem?_take] at hk
    split at hk
    · simpa using hk
    · cases hk
  have hs : Src P ii.size tx (.slice q m cy) m (xs.drop (j * ii.size)) w := by
    by_cases hcj : c = j
    · rw [if_pos hcj, hpp] at hq
      subst hq
      have h0 : xs.drop (j * ii.size) = [] := by
        have h00 : n - j = 0 := by omega
        refine List.eq_nil_of_length_eq_zero ?_
        rw [hnl, hm, h00, Nat.zero_mul]
      exact Src.ofSlice w htx.eq _ _ _ _ hnl (fun k u hk => by rw [h0] at hk; simp at hk) (fun u hu => hfl.all u (List.mem_of_mem_drop hu))
    · rw [if_neg hcj, hpp] at hq
      subst hq
      refine Src.ofSlice w htx.eq _ _ _ _ hnl (fun k u hk => ?_) (fun u hu => hfl.all u (List.mem_of_mem_drop hu))
      show w.cell? (((⟨g, 0, none⟩ : Addr).add (j * ii.size)).add k) = some u
      rw [add_lit, add_lit_off, cell_of_row w g _ cur e (0, 0) hg]
      rw [List.getElem?_drop] at hk
      exact hxc _ _ hk
  have hroom : i + m ≤ c := by omega
  have him : (i + m) * ii.size ≤ c * ii.size := Nat.mul_le_mul_right _ hroom
  have hcell : ∀ k, w.cell? ⟨g, k, none⟩ = cur[k]? := fun k => cell_of_row w g k cur e (0, 0) hg
  have hb0 : ∀ k, k < (xs.drop (j * ii.size)).length → i * ii.size + k < cur.size := fun k hk => by
    rw [hnl] at hk
    rw [hcs]
    rw [Nat.add_mul] at him
    omega
  have hrun := run_append_room_src (P := P) w t tx ty e ii ht.eq hi g 0 i c (.slice q m cy) m _ hs hroom
    (fun k hk => by simp only [Nat.zero_add]; rw [hcell]; simpa using hb0 k hk) (fun k hk => by simp [World.frozen?, hg])
  simp only [Nat.zero_add] at hrun
  have hfit2 : i * ii.size + (xs.drop (j * ii.size)).length ≤ cur.size := by rw [hnl, hcs, ← Nat.add_mul]; exact him
  have hsc : w.setCells g (i * ii.size) (xs.drop (j * ii.size)) = w.setRow g ((cur.toList.take (i * ii.size) ++ xs.drop (j * ii.size) ++ cur.toList.drop (i * ii.size + (xs.drop (j * ii.size)).length)).toArray) := by
    have h1 := run_storeCells_cells (P := P) g (i * ii.size) (xs.drop (j * ii.size)) 0 w (fun k hk => by rw [hcell]; simpa using hb0 k hk) (fun k hk => by simp [World.frozen?, hg]) hs.one
    have h2 := run_storeCells_at (P := P) g (i * ii.size) e (xs.drop (j * ii.size)) 0 cur w hg (by simpa using hfit2) hs.one
    rw [h1] at h2
    simp only [Nat.add_zero] at h2
    injection h2
  rw [hsc] at hrun
  have e1 : (xop a.eval (.call { callee := .builtin .append, args := #[x, y], argTypes := #[t, tx] }) ty).run P w = .ok (.value (.slice p (i + m) c)) (w.setRow g ((cur.toList.take (i * ii.size) ++ xs.drop (j * ii.size) ++ cur.toList.drop (i * ii.size + (xs.drop (j * ii.size)).length)).toArray)) := by
    have ex := S.fr.ev (x := x) (v := .slice p i c)
    rw [hpp] at ex
    simp [xop, execOp, resolve, invoke, builtin, ex, S.fr.ev (x := y) (v := .slice q m cy), hrun, hpp]
  simp only [e1, Oper.uponIn]
  have S' := S.put (d := d) (v := .slice p (i + m) c) (l' := l')
  have hti' : cur.toList.take (i * ii.size) = xs.take (i * ii.size) := by
    rw [← htk, List.take_take, Nat.min_eq_left (by omega)]
  have hlen : (xs.take (i * ii.size) ++ xs.drop (j * ii.size)).length = (i + m) * ii.size := by
    rw [List.length_append, List.length_take, hnl, hxl, Nat.min_eq_left (by omega), Nat.add_mul]
  have hown : (w.setRow g ((cur.toList.take (i * ii.size) ++ xs.drop (j * ii.size) ++ cur.toList.drop (i * ii.size + (xs.drop (j * ii.size)).length)).toArray)).ownsRow 0 e ii.size (.slice p (i + m) c) (i + m) (xs.take (i * ii.size) ++ xs.drop (j * ii.size)) := by
    subst hpp
    refine ⟨hlen, .inr ⟨g, c, _, rfl, Nat.zero_le _, setRow_heap w g cur _ e _ hg, hroom, hcm, ?_, ?_⟩⟩
    · simp only [List.size_toArray, List.length_append, List.length_take, List.length_drop, Array.length_toList]
      rw [List.length_drop] at hfit2
      omega
    · simp only
      rw [hti', ← hlen]
      exact List.take_left
  refine K _ _ (S.reput S'.slots S'.defers (hr := hrep) rfl (Agree.setRow w g _ ⟨_, hpp, rfl⟩) hown (fun k h => .inl h) (row_foot_lt hown) (row_loc _ _ _ _ _ _))
/-- what lies behind a row's end is cleared. -/
theorem sclr {k m cy : Nat} {q : Option Addr} {l' : List Value} (p : Option Addr) (m' : Nat) (S : St w0 M0 ds a w l bs fs) {c : Nat} {xs : List Value} [hr : HasRow bs p m' e sz c xs] [Ev ⟨[], l⟩ y (.slice q k cy)] [ht : Und P t (.slice e)] [hti : TI P e z sz by_] {zc : List Value} [hzc : Cells z zc] [hfl : Flat zc] [hzl : LenIs zc sz]
    [hp : PutO l d (.tuple #[]) l'] (hm : m = m') (hq : q = if c = m then p else p.map (·.add (m * sz))) (hk : m + k ≤ c)
    (K : ∀ a w, St w0 M0 ds a w l' bs fs → WL P r ops Q rest a w) :
    WL P r ops Q (⟨d, .call { callee := .builtin .clear, args := #[y], argTypes := #[t] }, ty, pos, af, none⟩ :: rest) a w := by
  subst hm
  refine wl_plain rfl ?_
  rw [semAt_nd rfl]
  obtain ⟨ii, hi, hz', hsize, hby⟩ := hti.ex
  subst hsize hby
  have hrow := S.row p m
  have S' := S.put (d := d) (v := .tuple #[]) (l' := l')
  have hey := S.fr.ev (x := y) (v := .slice q k cy)
  by_cases hk0 : k = 0
  · subst hk0
    have e1 : (xop a.eval (.call { callee := .builtin .clear, args := #[y], argTypes := #[t] }) ty).run P w = .ok (.value (.tuple #[])) w := by
      cases q <;> simp [xop, execOp, resolve, invoke, builtin, Builtin.clear_, hey, run_und]
    simp only [e1, Oper.uponIn]
    exact K _ _ S'
  · have hcm : c ≠ m := by omega
    rw [if_neg hcm] at hq
    rcases hrow.2 with ⟨hv, h0⟩ | ⟨g, cap, cur, hv, hb, hg, hnc, hcmx, hcs, htk⟩
    · cases hv; omega
    · cases hv
      have hq' : q = some ⟨g, m * ii.size, none⟩ := by rw [hq]; simp [add_lit]
      subst hq'
      have hkk : (m + k) * ii.size ≤ c * ii.size := Nat.mul_le_mul_right _ hk
      rw [Nat.add_mul] at hkk
      have hzs : z.cells.size = ii.size := by rw [← Array.length_toList, hzc.eq, hzl.eq]
      have hzlen : (Builtin.zeroCells z.cells k).toList.length = k * ii.size := by rw [Array.length_toList, size_zeroCells, hzs]
      have hone : ∀ u ∈ (Builtin.zeroCells z.cells k).toList, u.oneCell' = true := fun u hu => by
        simp only [Builtin.zeroCells, Array.toList_map, List.mem_map, Array.toList_range, List.mem_range] at hu
        obtain ⟨j, hj, rfl⟩ := hu
        have hpos : 0 < z.cells.size := by
          rcases Nat.eq_zero_or_pos z.cells.size with h0 | h0
          · rw [h0] at hj; simp at hj
          · exact h0
        have hlt : j % z.cells.size < z.cells.size := Nat.mod_lt _ hpos
        refine hfl.all _ ?_
        rw [← hzc.eq]
        rw [getElem!_pos z.cells (j % z.cells.size) hlt]
        simp
      have hst := run_storeCells_at (P := P) g (m * ii.size) e (Builtin.zeroCells z.cells k).toList 0 cur w hg (by simp only [Nat.add_zero]; rw [hzlen, hcs]; exact hkk) hone
      simp only [Nat.add_zero] at hst
      have hrz : (zeroValue e).run P w = .ok z w := run_zero (P := P) (t := e) (z := z) (s := ii.size) (b := ii.bytes) w
      have e1 : (xop a.eval (.call { callee := .builtin .clear, args := #[y], argTypes := #[t] }) ty).run P w = .ok (.value (.tuple #[])) (w.setRow g ((cur.toList.take (m * ii.size) ++ (Builtin.zeroCells z.cells k).toList ++ cur.toList.drop (m * ii.size + (Builtin.zeroCells z.cells k).toList.length)).toArray)) := by
        obtain ⟨k', rfl⟩ : ∃ k', k = k' + 1 := ⟨k - 1, by omega⟩
        simp only [xop, execOp, resolve, invoke, builtin, Builtin.clear_, List.map_toArray, List.map_cons, List.map_nil, hey, Sem.run_bind, Result.andThen_ok, Sem.run_pure]
        simp [run_und, Sem.run_bind, hrz, hst]
      simp only [e1, Oper.uponIn]
      have hown : (w.setRow g ((cur.toList.take (m * ii.size) ++ (Builtin.zeroCells z.cells k).toList ++ cur.toList.drop (m * ii.size + (Builtin.zeroCells z.cells k).toList.length)).toArray)).ownsRow 0 e ii.size (.slice (some ⟨g, 0, none⟩) m c) m xs := by
        refine ⟨hrow.1, .inr ⟨g, c, _, rfl, Nat.zero_le _, setRow_heap w g cur _ e _ hg, hnc, hcmx, ?_, ?_⟩⟩
        · simp only [List.size_toArray, List.length_append, List.length_take, List.length_drop, Array.length_toList]
          rw [Array.length_toList] at hzlen
          omega
        · simp only
          have hl2 : (cur.toList.take (m * ii.size)).length = m * ii.size := by rw [List.length_take, Array.length_toList, hcs]; omega
          rw [List.append_assoc, ← htk]
          have h5 := List.take_left (l₁ := cur.toList.take (m * ii.size)) (l₂ := (Builtin.zeroCells z.cells k).toList ++ cur.toList.drop (m * ii.size + (Builtin.zeroCells z.cells k).toList.length))
          rw [hl2] at h5
          exact h5
      refine K _ _ (S.reput (x := row e ii.size (some ⟨g, 0, none⟩) m c xs) (y := row e ii.size (some ⟨g, 0, none⟩) m c xs) S'.slots S'.defers (hr := ⟨?_⟩) rfl (Agree.setRow w g _ ⟨_, rfl, rfl⟩) hown (fun k h => .inl h) (row_foot_lt hown) (row_loc _ _ _ _ _ _))
      obtain ⟨pre, post, h⟩ := List.append_of_mem hr.mem
      exact ⟨pre, post, h, h⟩
end
end Go.Wk
namespace Go.Wk
theorem ls_own_from {w : World} {e : TypeId} {p : Option Addr} {n c : Nat} {xs : List LTerm} (h : w.ownsRow 0 e 5 (.slice p n c) n (encL xs)) (hk : ∀ x ∈ xs, LtIn w x) : ∀ (k i : Nat), xs.length - i = k → i ≤ xs.length → LsIn w p i (xs.drop i)
  | 0, i, hi, hle => by rw [List.drop_of_length_le (by omega)]; simp [LsIn]
  | k + 1, i, hi, hle => by
    have hlt : i < xs.length := by omega
    have hn : n = xs.length := by
      have := h.1
      rw [encL_len] at this
      have e5 : Enc.sz LTerm = 5 := rfl
      rw [e5] at this; omega
    obtain ⟨g, cur, hp, _⟩ := own_cells h (by omega)
    rw [nth_drop hlt]
    refine ⟨⟨⟨g, 0, none⟩, hp, fun j v hj => ?_⟩, hk _ (nth_mem hlt), ls_own_from h hk k (i + 1) (by omega) hlt⟩
    have hj5 : j < 5 := (List.getElem?_eq_some_iff.1 hj).1
    have h1 := encL_get xs i _ (nth_get hlt) j hj5
    have h2 : (encL xs)[i * 5 + j]? = some v := by
      rw [← hj]; exact h1
    have h3 := own_cell h h2
    rw [hp] at h3
    simp only [rAddr, Option.getD_some, add_add] at h3
    exact h3
/-- a row of terms, as others read it. -/
theorem ls_of_own {M : Nat → Prop} {w : World} {e : TypeId} {p : Option Addr} {n c : Nat} {xs : List LTerm} (h : w.ownsRow 0 e 5 (.slice p n c) n (encL xs)) (hk : ∀ x ∈ xs, Stable M w (LtF x)) (hM : ∀ ad, p = some ad → ¬ M ad.block) : Stable M w (LsF p 0 xs) := fun w' hw' => by
  have h' : w'.ownsRow 0 e 5 (.slice p n c) n (encL xs) := row_loc e 5 p n c (encL xs) w w' (fun k hkf => by
    obtain ⟨ad, h1, h2⟩ := hkf
    exact hw'.blk (row_foot_lt h k ⟨ad, h1, h2⟩) (by rw [h2]; exact hM ad h1)) h
  have := ls_own_from h' (fun x hx => hk x hx w' hw') _ 0 rfl (Nat.zero_le _)
  rw [List.drop_zero] at this
  exact this
end Go.Wk
namespace Go.Wk
theorem St.rowFact {w0 M0 ds a w l bs fs} (S : St w0 M0 ds a w l bs fs) (p : Option Addr) (n : Nat) {e : TypeId} {sz c : Nat} {xs : List Value} [h : HasRow bs p n e sz c xs] {Φ : World → Prop} (hΦ : Φ ∈ fs) : Stable (fun k => ∃ ad, p = some ad ∧ k = ad.block) w Φ :=
  (S.wd.facts Φ hΦ).less fun _ _ hk => ⟨_, h.mem, hk⟩
theorem St.apart2 {w0 M0 ds a w l bs fs} (S : St w0 M0 ds a w l bs fs) (x y : Item) [h : SubL [x, y] bs] (k : Nat) (hk : x.foot k) : ¬ y.foot k := by
  have := (S.wd.apart.sublist h.sub)
  simp only [List.pairwise_cons, List.mem_singleton, forall_eq] at this
  exact this.1 k hk
end Go.Wk

namespace Go.Wk
open Go

/-! going over a map -/
theorem nodup_of_map {α β : Type} {f : α → β} : ∀ {l : List α}, (l.map f).Nodup → l.Nodup
  | [], _ => .nil
  | x :: l, h => by
    rw [List.map_cons, List.nodup_cons] at h
    exact List.nodup_cons.2 ⟨fun hx => h.1 (List.mem_map.2 ⟨x, hx, rfl⟩), nodup_of_map h.2⟩
def kvS (x : List UInt8 × Value) : Value × Value := (str x.1, x.2)
def kvU (x : Value × Value) : List UInt8 × Value := (match x.1 with | .string s => s.data.toList | _ => [], x.2)
theorem kvU_kvS (x : List UInt8 × Value) : kvU (kvS x) = x := by simp [kvU, kvS, str]
theorem map_kvU (l : List (List UInt8 × Value)) : (l.map kvS).map kvU = l := by
  rw [List.map_map]
  conv => rhs; rw [← List.map_id l]
  apply List.map_congr_left
  intro x _
  exact kvU_kvS x
def enKV (e : MapEntry) : Value × Value := (e.key, e.val)
/-- a map, and the going over it: what has come out. -/
def mpi (b r : Nat) (kv done : List (List UInt8 × Value)) : Item where
  foot := fun k => k = b ∨ k = r
  holds := fun w => ∃ (es : Array MapEntry) (clock : Nat) (ds : List MapEntry), w.heap[b]? = some (.map es clock) ∧ es.toList.map enKV = kv.map kvS ∧ (∀ e ∈ es.toList, e.born < clock) ∧ (es.toList.map (·.born)).Nodup ∧
    w.heap[r]? = some (.mapIter (some b) clock (ds.map (·.born)).toArray clock) ∧ (∀ e ∈ ds, e ∈ es.toList) ∧ (ds.map (·.born)).Nodup ∧ ds.map enKV = done.map kvS
theorem mpi_loc (b r : Nat) (kv done : List (List UInt8 × Value)) (w1 w2 : World) (h : ∀ k, (mpi b r kv done).foot k → w2.heap[k]? = w1.heap[k]?) (h1 : (mpi b r kv done).holds w1) : (mpi b r kv done).holds w2 := by
  obtain ⟨es, clock, ds, q1, q2, q3, q4, q5, q6⟩ := h1
  exact ⟨es, clock, ds, (h b (.inl rfl)).trans q1, q2, q3, q4, (h r (.inr rfl)).trans q5, q6⟩
theorem mpi_mp {b r : Nat} {kv done : List (List UInt8 × Value)} {w : World} (h : (mpi b r kv done).holds w) : (mp b kv).holds w := by
  obtain ⟨es, clock, ds, q1, q2, q3, q4, _⟩ := h
  exact ⟨es, clock, q1, q2, q3, q4⟩
class HasMpi (bs : List Item) (r : Nat) (b : outParam Nat) (kv done : outParam (List (List UInt8 × Value))) : Prop where mem : mpi b r kv done ∈ bs
instance hmpi0 {b r : Nat} {kv done : List (List UInt8 × Value)} {bs : List Item} : HasMpi (mpi b r kv done :: bs) r b kv done := ⟨List.mem_cons_self ..⟩
instance (priority := 900) hmpi1 {b r : Nat} {kv done : List (List UInt8 × Value)} {x : Item} {bs : List Item} [h : HasMpi bs r b kv done] : HasMpi (x :: bs) r b kv done := ⟨List.mem_cons_of_mem _ h.mem⟩
/-- what 'next' hands out. -/
def nxV (more : Bool) (k : List UInt8) (v : Value) : Value := bif more then .tuple ⟨[.bool true, str k, v]⟩ else .tuple ⟨[.bool false]⟩
instance (priority := 1100) opExtNx {P ty} {l : Cx} {bs fs x more k v} [Ev l x (nxV more k v)] : OpQ P (.extract x 0) ty l bs fs (.bool more) := ⟨fun ρ w h _ => by
  cases more <;> simp [xop, execOp, h.ev (x := x) (v := nxV _ k v), nxV, Instr.extract]⟩
class HasMpiB (bs : List Item) (b : Nat) (kv : outParam (List (List UInt8 × Value))) : Prop where mem : ∃ r done, mpi b r kv done ∈ bs
instance hmpib0 {b r : Nat} {kv done : List (List UInt8 × Value)} {bs : List Item} : HasMpiB (mpi b r kv done :: bs) b kv := ⟨r, done, List.mem_cons_self ..⟩
instance (priority := 900) hmpib1 {b : Nat} {kv : List (List UInt8 × Value)} {x : Item} {bs : List Item} [h : HasMpiB bs b kv] : HasMpiB (x :: bs) b kv := ⟨by obtain ⟨r, d, h⟩ := h.mem; exact ⟨r, d, List.mem_cons_of_mem _ h⟩⟩
theorem born_inj {es : List MapEntry} (h : (es.map (·.born)).Nodup) {e e' : MapEntry} (he : e ∈ es) (he' : e' ∈ es) (hb : e.born = e'.born) : e = e' := by
  induction es with
  | nil => cases he
  | cons x xs ih =>
    rw [List.map_cons, List.nodup_cons] at h
    rcases List.mem_cons.1 he with q | q <;> rcases List.mem_cons.1 he' with q' | q'
    · rw [q, q']
    · exact absurd (List.mem_map.2 ⟨e', q', by rw [← hb, q]⟩) h.1
    · exact absurd (List.mem_map.2 ⟨e, q, by rw [hb, q']⟩) h.1
    · exact ih h.2 q q'
section
variable {P : Program} {r0 : Option Nat} {ops : Array Oper} {Q : Exit → Act → World → Prop} {w0 : World} {M0 : Nat → Prop} {ds : List Deferred} {a : Act} {w : World} {l : List Value} {bs : List Item} {fs : List (World → Prop)}
  {d : Option Nat} {op : Op} {ty : TypeId} {pos : String} {af : Array Edge} {rest : List Oper} {t kt et : TypeId} {x : Operand} {b : Nat} {kv : List (List UInt8 × Value)}
/-- a range over a map is begun. -/
theorem srg0 {l' : Nat → List Value} {bs' : Nat → List Item} (S : St w0 M0 ds a w l bs fs) [Ev ⟨[], l⟩ x (.map (some b))] [ht : Und P t (.map kt et)] [hm : HasMp bs b kv] [hrep : ∀ r, ReplI bs (mp b kv) (mpi b r kv []) (bs' r)] [hp : ∀ r, PutO l d (.pointer (some ⟨r, 0, none⟩)) (l' r)]
    (K : ∀ r a w, St w0 M0 ds a w (l' r) (bs' r) fs → WL P r0 ops Q rest a w) : WL P r0 ops Q (⟨d, .range t x, ty, pos, af, none⟩ :: rest) a w := by
  refine wl_plain rfl ?_
  rw [semAt_nd rfl]
  obtain ⟨es, clock, hb, he, hbn, hnd⟩ : (mp b kv).holds w := S.wd.held _ hm.mem
  have e1 : (xop a.eval (.range t x) ty).run P w = .ok (.value (.pointer (some ⟨w.heap.size, 0, none⟩))) (w.alloc (.mapIter (some b) clock #[] clock)) := by
    have h1 := MapKept.run_getObj_map (P := P) hb
    have h2 : (Instr.range t (.map (some b))).run P w = .ok (.pointer (some ⟨w.heap.size, 0, none⟩)) (w.alloc (.mapIter (some b) clock #[] clock)) := by
      simp [Instr.range, Sem.run_bind, run_und, h1, Result.andThen, newObj, Sem.run]
    simp [xop, execOp, S.fr.ev (x := x) (v := .map (some b)), h2]
  simp only [e1, Oper.uponIn]
  have := hp w.heap.size
  have S' := S.put (d := d) (v := .pointer (some ⟨w.heap.size, 0, none⟩))
  have hlt : b < w.heap.size := (Array.getElem?_eq_some_iff.1 hb).1
  have hag : Agree (mp b kv).foot w (w.alloc (.mapIter (some b) clock #[] clock)) := Agree.alloc _ _ _
  refine K _ _ _ (S.reput (x := mp b kv) (y := mpi b w.heap.size kv []) S'.slots S'.defers (hr := hrep _) rfl hag ⟨es, clock, [], ?_, he, hbn, hnd, heap_alloc_new w _, by simp, by simp, rfl⟩ (fun k hk => hk.imp id (fun h => by omega)) (fun k hk => by rcases hk with rfl | rfl <;> simp <;> omega) (mpi_loc _ _ _ _))
  exact (RowKit.Below.heap_alloc _ _ _ hlt).trans hb
theorem of_setBlock {w w1 : World} {r : Nat} {o : Obj} {M : Nat → Prop} (h1 : w1 = w ∨ w1 = w.drew) (hM : M r) (hr : r < w.heap.size) : Agree M w (ChangeMaps.setBlock w1 r o) ∧ (ChangeMaps.setBlock w1 r o).heap[r]? = some o ∧ (ChangeMaps.setBlock w1 r o).heap.size = w.heap.size := by
  have key : Agree M w (ChangeMaps.setBlock w r o) ∧ (ChangeMaps.setBlock w r o).heap[r]? = some o ∧ (ChangeMaps.setBlock w r o).heap.size = w.heap.size := by
    refine ⟨⟨rfl, rfl, rfl, by simp [ChangeMaps.setBlock], fun k hk hm => ?_⟩, ?_, ?_⟩
    · have : r ≠ k := fun e => hm (e ▸ hM)
      simp [ChangeMaps.setBlock, this]
    · simp [ChangeMaps.setBlock, hr]
    · simp [ChangeMaps.setBlock]
  rcases h1 with rfl | rfl
  · exact key
  · exact ⟨⟨rfl, rfl, rfl, key.1.2.2.2.1, key.1.2.2.2.2⟩, key.2⟩
/-- the next entry, whichever it is; or none is left. -/
theorem snx {ri : Nat} {done : List (List UInt8 × Value)} {l' : Bool → List UInt8 → Value → List Value} {bs' : List (List UInt8 × Value) → List Item} (S : St w0 M0 ds a w l bs fs) [Ev ⟨[], l⟩ x (.pointer (some ⟨ri, 0, none⟩))] [hm : HasMpi bs ri b kv done] [hrep : ∀ dn, ReplI bs (mpi b ri kv done) (mpi b ri kv dn) (bs' dn)] [hp : ∀ m k v, PutO l d (nxV m k v) (l' m k v)]
    (K : ∀ (more : Bool) (k : List UInt8) (v : Value) a w, (more = false → done.Perm kv) → (more = true → (k, v) ∈ kv ∧ done.length + 1 ≤ kv.length) → St w0 M0 ds a w (l' more k v) (bs' (bif more then done ++ [(k, v)] else done)) fs → WL P r0 ops Q rest a w) :
    WL P r0 ops Q (⟨d, .next x false, ty, pos, af, none⟩ :: rest) a w := by
  refine wl_plain rfl ?_
  rw [semAt_nd rfl]
  have hold := S.wd.held _ hm.mem
  obtain ⟨es, clock, dn, hb, he, hbn, hnd, hr, hsub, hdn, hdone⟩ := hold
  have hx : a.eval x = .pointer (some ⟨ri, 0, none⟩) := S.fr.ev
  have hrlt : ri < w.heap.size := (Array.getElem?_eq_some_iff.1 hr).1
  have hbr : b ≠ ri := fun e => by rw [e, hr] at hb; cases hb
  have hleft : ∀ e, e ∈ (leftOf es (dn.map (·.born)).toArray).toList ↔ e ∈ es.toList ∧ e.born ∉ dn.map (·.born) := fun e => by
    unfold leftOf
    simp
  rcases run_next_at (P := P) w ty ri b clock clock (dn.map (·.born)).toArray es clock hr hb hbn (Nat.le_refl _) with ⟨h0, hrun⟩ | ⟨e, hel, w1, hw1, hrun⟩
  · have e1 : (xop a.eval (.next x false) ty).run P w = .ok (.value (nxV false [] undef)) w := by
      simp [xop, execOp, hx, hrun, nxV]
    simp only [e1, Oper.uponIn]
    have := hp false [] undef
    have S' := S.put (d := d) (v := nxV false [] undef)
    have hall : ∀ e ∈ es.toList, e ∈ dn := fun e hes => by
      have hnl : e ∉ (leftOf es (dn.map (·.born)).toArray).toList := by
        have h00 : (leftOf es (dn.map (·.born)).toArray).toList = [] := List.eq_nil_of_length_eq_zero (by rw [Array.length_toList]; exact h0)
        rw [h00]; simp
      rw [hleft] at hnl
      have hb2 : e.born ∈ dn.map (·.born) := Classical.not_not.1 fun hc => hnl ⟨hes, hc⟩
      obtain ⟨e2, he2, hee⟩ := List.mem_map.1 hb2
      rw [← born_inj hnd (hsub e2 he2) hes hee]; exact he2
    have hperm : dn.Perm es.toList := (List.perm_ext_iff_of_nodup (nodup_of_map hdn) (nodup_of_map hnd)).2 fun e => ⟨hsub e, hall e⟩
    have hperm2 : done.Perm kv := by
      have := (hperm.map enKV).map kvU
      rw [hdone, he, map_kvU, map_kvU] at this
      exact this
    refine K false [] undef _ _ (fun _ => hperm2) (fun h => by cases h) ⟨S'.slots, S'.defers, ?_⟩
    obtain ⟨pre, post, q1, q2⟩ := (hrep done).ex
    have hwd := S'.wd
    rw [q1] at hwd
    show Wd w0 M0 w (bs' done) fs
    rw [q2]; exact hwd
  · obtain ⟨hes, hnb⟩ := (hleft e).1 hel
    have hkv : enKV e ∈ kv.map kvS := by rw [← he]; exact List.mem_map.2 ⟨e, hes, rfl⟩
    obtain ⟨⟨k, v⟩, hkvm, hkve⟩ := List.mem_map.1 hkv
    have hk1 : e.key = str k := (congrArg Prod.fst hkve).symm
    have hv1 : e.val = v := (congrArg Prod.snd hkve).symm
    have e1 : (xop a.eval (.next x false) ty).run P w = .ok (.value (nxV true k v)) (ChangeMaps.setBlock w1 ri (.mapIter (some b) clock ((dn.map (·.born)).toArray.push e.born) clock)) := by
      rw [hk1, hv1] at hrun
      simp [xop, execOp, hx, hrun, nxV]
    simp only [e1, Oper.uponIn]
    have := hp true k v
    have S' := S.put (d := d) (v := nxV true k v)
    obtain ⟨hag, hrr, hsz⟩ := of_setBlock (M := (mpi b ri kv done).foot) (o := .mapIter (some b) clock ((dn.map (·.born)).toArray.push e.born) clock) hw1 (.inr rfl) hrlt
    have hag2 := (of_setBlock (M := fun k => k = ri) (o := .mapIter (some b) clock ((dn.map (·.born)).toArray.push e.born) clock) hw1 rfl hrlt).1
    have hblt : b < w.heap.size := (Array.getElem?_eq_some_iff.1 hb).1
    have hndn : ((dn ++ [e]).map (·.born)).Nodup := by
      rw [List.map_append, List.map_singleton]
      refine List.nodup_append.2 ⟨hdn, by simp, fun x hx y hy hxy => ?_⟩
      obtain rfl := List.mem_singleton.1 hy
      exact hnb (hxy ▸ hx)
    have hsub2 : ∀ e' ∈ dn ++ [e], e' ∈ es.toList := fun e' h' => by
      rcases List.mem_append.1 h' with h' | h'
      · exact hsub e' h'
      · obtain rfl := List.mem_singleton.1 h'; exact hes
    have hlen : done.length + 1 ≤ kv.length := by
      have h1 := List.Nodup.length_le_of_subset (nodup_of_map hndn) hsub2
      have h2 := congrArg List.length hdone
      have h3 := congrArg List.length he
      simp only [List.length_map, List.length_append, List.length_singleton] at h1 h2 h3
      omega
    refine K true k v _ _ (fun h => by cases h) (fun _ => ⟨hkvm, hlen⟩) (S.reput (x := mpi b ri kv done) (y := mpi b ri kv (done ++ [(k, v)])) S'.slots S'.defers (hr := hrep _) rfl hag
      ⟨es, clock, dn ++ [e], (hag2.blk hblt hbr).trans hb, he, hbn, hnd, by rw [hrr]; simp, hsub2, hndn, by rw [List.map_append, List.map_append, hdone, List.map_singleton, List.map_singleton]; congr 2; exact hkve.symm⟩
      (fun k hk => .inl hk) (fun k hk => by rw [hsz]; rcases hk with rfl | rfl <;> assumption) (mpi_loc _ _ _ _))
/-- the entry that came out last. -/
instance opEntry {lc : Cx} {ri : Nat} {done : List (List UInt8 × Value)} {k : List UInt8} {v : Value} [Ev lc x (.pointer (some ⟨ri, 0, none⟩))] [hm : HasMpi bs ri b kv (done ++ [(k, v)])] : OpQ P (.entry x) ty lc bs fs (.tuple ⟨[str k, v]⟩) := ⟨fun ρ w h mm => by
  obtain ⟨es, clock, dn, hb, he, hbn, hnd, hr, hsub, hdn, hdone⟩ := mm.held _ hm.mem
  have hne : dn ≠ [] := by rintro rfl; simp at hdone
  obtain ⟨dn', e, rfl⟩ : ∃ dn' e, dn = dn' ++ [e] := ⟨dn.dropLast, dn.getLast hne, (List.dropLast_concat_getLast hne).symm⟩
  have hke : enKV e = kvS (k, v) := by
    rw [List.map_append, List.map_append] at hdone
    have := List.append_inj_right' hdone rfl
    simpa using this
  have hk1 : e.key = str k := congrArg Prod.fst hke
  have hv1 : e.val = v := congrArg Prod.snd hke
  have hr2 : w.heap[ri]? = some (.mapIter (some b) clock ((dn'.map (·.born)).toArray.push e.born) clock) := by rw [hr]; simp
  have hrun := run_entry_at (P := P) w ri b clock (dn'.map (·.born)).toArray es clock e hr2 hb (hsub e (by simp)) hnd
  rw [hk1, hv1] at hrun
  simp [xop, execOp, h.ev (x := x) (v := .pointer (some ⟨ri, 0, none⟩)), hrun]⟩
instance (priority := 950) kvofI {bs : List Item} {fs : List (World → Prop)} {b : Nat} {kv : List (List UInt8 × Value)} [h : HasMpiB bs b kv] : KvOf bs fs b kv := ⟨fun _ mm => by obtain ⟨r, d, h⟩ := h.mem; exact mpi_mp (mm.held _ h)⟩
end
section
variable {P : Program} {r : Option Nat} {ops : Array Oper} {Q : Exit → Act → World → Prop} {w0 : World} {M0 : Nat → Prop} {ds : List Deferred} {a : Act} {w : World} {l : List Value} {bs : List Item} {fs : List (World → Prop)}
  {d : Option Nat} {ty : TypeId} {pos : String} {af : Array Edge} {rest : List Oper} {f : Nat} {x : Operand} {ys : List Operand} {args : List Value} {ts : Array TypeId}
/-- what a call hands back: something in new memory. -/
theorem Wd.addItem {w' : World} {y : Item} (hold : Wd w0 M0 w bs fs) (hw : Grow w w') (hy : y.holds w') (hfoot : ∀ k, y.foot k → w.heap.size ≤ k) (hlt : ∀ k, y.foot k → k < w'.heap.size)
    (hloc : ∀ w1 w2 : World, (∀ k, y.foot k → w2.heap[k]? = w1.heap[k]?) → y.holds w1 → y.holds w2) : Wd w0 M0 w' (y :: bs) fs := by
  refine (hold.step hw).more hy (fun k hk => Nat.le_trans hold.agree.size (hfoot k hk)) hlt (fun it hi k hk hk' => absurd (hold.lt it hi k hk') (by have := hfoot k hk; omega)) (fun Φ hΦ w'' hw'' => ?_) hloc
  refine hold.facts Φ hΦ w'' ((hw.mono (fun _ _ h => h.elim)).trans' hw'' fun i hi ⟨it, hm, hk⟩ => ?_)
  rcases List.mem_cons.1 hm with rfl | hm
  · exact absurd (hfoot i hk) (by omega)
  · exact ⟨it, hm, hk⟩
theorem srx {l' : Value → List Value} [EntF P f] [CallTo ⟨[], l⟩ x ys f args] [hp : ∀ v, PutO l d v (l' v)] (S : St w0 M0 ds a w l bs fs) {R : Value → World → Prop} (hc : Ret P f args w (fun _ => False) R)
    (K : ∀ v a w', R v w' → (∀ y : Item, y.holds w' → (∀ k, y.foot k → w.heap.size ≤ k) → (∀ k, y.foot k → k < w'.heap.size) → (∀ w1 w2 : World, (∀ k, y.foot k → w2.heap[k]? = w1.heap[k]?) → y.holds w1 → y.holds w2) → St w0 M0 ds a w' (l' v) (y :: bs) fs) → St w0 M0 ds a w' (l' v) bs fs → WL P r ops Q rest a w') :
    WL P r ops Q (⟨d, .call { callee := .value x, args := ys.toArray, argTypes := ts }, ty, pos, af, none⟩ :: rest) a w := by
  refine cv_any S hc ?_
  rintro e w' ⟨v, rfl, ha, hR⟩
  have := hp v
  have S' := S.put (d := d) (v := v)
  exact ⟨v, rfl, K v _ w' hR (fun y hy h1 h2 h3 => ⟨S'.slots, S'.defers, S'.wd.addItem ha hy h1 h2 h3⟩) ⟨S'.slots, S'.defers, S'.wd.step ha⟩⟩
theorem mp_lt {b : Nat} {kv : List (List UInt8 × Value)} (h : (mp b kv).holds w) : ∀ k, (mp b kv).foot k → k < w.heap.size := by
  rintro k rfl
  obtain ⟨es, clock, h1, _⟩ := h
  exact (Array.getElem?_eq_some_iff.1 h1).1
end
end Go.Wk
