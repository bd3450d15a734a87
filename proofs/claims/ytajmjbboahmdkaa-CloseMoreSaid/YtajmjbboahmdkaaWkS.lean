import Derived.Test.YtajmjbboahmdkaaWkR
import Derived.Test.YtajmjbboahmdkaaWkQ
namespace Go.Wk
open Go

/-! loops over functions -/
/-- such a loop's record, and the block of its rounds' deferred calls. -/
def lpI (L D : Nat) (r : Loop) : Item where
  foot := fun k => k = D ∨ k = L
  holds := fun w => w.heap[L]? = some (.loop r) ∧ w.heap[D]? = some (.deferred (some []))
def lpR (b : Loop) (s : LoopState) (p : Option Code) : Loop := { b with state := s, pending := p }
/-- what such loops leave behind in a frame. -/
def marks (Ds : List Nat) : Item where
  foot := fun k => k ∈ Ds
  holds := fun w => Ds.Nodup ∧ ∀ k ∈ Ds, w.heap[k]? = some (.deferred (some []))
def dsOf (Ds : List Nat) : List Deferred := Ds.map fun D => { target := .collected D, args := #[] }
theorem lpI_loc (L D : Nat) (r : Loop) (w1 w2 : World) (h : ∀ k, (lpI L D r).foot k → w2.heap[k]? = w1.heap[k]?) (h1 : (lpI L D r).holds w1) : (lpI L D r).holds w2 :=
  ⟨(h L (.inr rfl)).trans h1.1, (h D (.inl rfl)).trans h1.2⟩
theorem marks_loc (Ds : List Nat) (w1 w2 : World) (h : ∀ k, (marks Ds).foot k → w2.heap[k]? = w1.heap[k]?) (h1 : (marks Ds).holds w1) : (marks Ds).holds w2 :=
  ⟨h1.1, fun k hk => (h k hk).trans (h1.2 k hk)⟩
theorem Agree.putObj {M : Nat → Prop} (w : World) (g : Nat) (o : Obj) (hg : M g) : Agree M w (w.putObj g o) :=
  ⟨rfl, rfl, rfl, by simp, fun k _ hm => World.putObj_heap_other (fun e => hm (e ▸ hg))⟩

/-- a function that is ranged over: what it hands to yield, one thing after the other. M: what the rounds may write of what lay there. -/
def IterRet {α : Type} (P : Program) (g : Nat) (lb : List Value) (w : World) (M : Nat → Prop) (E : α → List Value → World → World → Prop) (xs : List α) : Prop :=
  ∀ (l : Nat) (J : Nat → World → Prop) (Jx : World → Prop),
    (∀ i x vs W0 W1, xs[i]? = some x → J i W0 → Grow W0 W1 → E x vs W0 W1 → YieldAt (FW none) 0 P l vs.toArray W1 fun e W' =>
      Agree M w W' ∧ ((e = .returned (.bool true) ∧ J (i + 1) W') ∨ (e = .returned (.bool false) ∧ Jx W'))) →
    J 0 w →
    CallsIn (FW none) 0 P g (.func (.yield l) #[] #[] :: lb).toArray w fun e W' => (∃ v, e = .returned v) ∧ ∃ W0, Grow W0 W' ∧ (J xs.length W0 ∨ Jx W0)

theorem Wd.rebase {w0 w1 w : World} {M0 M : Nat → Prop} {bs : List Item} {fs : List (World → Prop)} (h : Wd w1 M w bs fs) (ha : Agree M0 w0 w1) (hM : ∀ k, M k → M0 k ∨ w0.heap.size ≤ k) : Wd w0 M0 w bs fs where
  agree := ha.trans' h.agree fun i hi hm => (hM i hm).elim id (fun h => absurd h (by omega))
  held := h.held
  lt := h.lt
  own := fun it hi ho k hk => (h.own it hi ho k hk).elim (hM k) (fun h1 => .inr (Nat.le_trans ha.size h1))
  apart := h.apart
  facts := h.facts
  loc := h.loc
/-- marks are put together. -/
theorem Wd.join {w0 w : World} {M0 : Nat → Prop} {Es Ds : List Nat} {bs bs' : List Item} {fs : List (World → Prop)} (h : Wd w0 M0 w (marks Es :: bs) fs) (hr : ReplI bs (marks Ds) (marks (Es ++ Ds)) bs') : Wd w0 M0 w bs' fs := by
  obtain ⟨pre, post, rfl, rfl⟩ := hr.ex
  have h2 := h.perm (bs' := marks Es :: marks Ds :: (pre ++ post)) (.cons _ (List.perm_middle.symm))
  have hap := List.pairwise_cons.1 h2.apart
  have hap2 := List.pairwise_cons.1 hap.2
  have he : (marks Es).holds w := h2.held _ (by simp)
  have hd : (marks Ds).holds w := h2.held _ (by simp)
  refine Wd.perm (bs := marks (Es ++ Ds) :: (pre ++ post)) ?_ List.perm_middle
  have hfeq : foots (marks (Es ++ Ds) :: (pre ++ post)) = foots (marks Es :: marks Ds :: (pre ++ post)) := by
    funext k
    simp only [foots, List.mem_cons, or_and_right, exists_or, exists_eq_left, marks, List.mem_append, or_assoc]
  refine ⟨h2.agree, ?_, ?_, ?_, List.pairwise_cons.2 ⟨?_, hap2.2⟩, ?_, ?_⟩
  · intro it hi
    rcases List.mem_cons.1 hi with rfl | hi
    · exact ⟨List.nodup_append.2 ⟨he.1, hd.1, fun a ha b hb e => hap.1 (marks Ds) (by simp) a ha (e ▸ hb)⟩, fun k hk => (List.mem_append.1 hk).elim (he.2 k) (hd.2 k)⟩
    · exact h2.held it (by simp only [List.mem_cons]; exact .inr (.inr hi))
  · intro it hi k hk
    rcases List.mem_cons.1 hi with rfl | hi
    · exact (List.mem_append.1 hk).elim (fun q => h2.lt (marks Es) (by simp) k q) (fun q => h2.lt (marks Ds) (by simp) k q)
    · exact h2.lt it (by simp only [List.mem_cons]; exact .inr (.inr hi)) k hk
  · intro it hi ho k hk
    rcases List.mem_cons.1 hi with rfl | hi
    · exact (List.mem_append.1 hk).elim (fun q => h2.own (marks Es) (by simp) rfl k q) (fun q => h2.own (marks Ds) (by simp) rfl k q)
    · exact h2.own it (by simp only [List.mem_cons]; exact .inr (.inr hi)) ho k hk
  · intro it hi k hk
    rcases List.mem_append.1 hk with q | q
    · exact hap.1 it (by simp only [List.mem_cons]; exact .inr hi) k q
    · exact hap2.1 it hi k q
  · intro Φ hΦ
    rw [hfeq]; exact h2.facts Φ hΦ
  · intro it hi
    rcases List.mem_cons.1 hi with rfl | hi
    · exact marks_loc _
    · exact h2.loc it (by simp only [List.mem_cons]; exact .inr (.inr hi))

section
variable {P : Program} {Q : Exit → Act → World → Prop} {w0 : World} {M0 : Nat → Prop} {ds : List Deferred} {a : Act} {w : World} {l : List Value} {bs bs' : List Item} {fs : List (World → Prop)}

/-- what a round's end must bring. -/
def RoundEnd (P : Program) (L : Nat) (w1 : World) (M : Nat → Prop) (J : World → Prop) (Jx : Code → World → Prop) : Exit → Act → World → Prop :=
  roundPost P L fun e W' => Agree M w1 W' ∧ ((e = .returned (.bool true) ∧ J W') ∨ (e = .returned (.bool false) ∧ ∃ c, Jx c W'))
theorem Wd.putLoop {L D : Nat} {r r' : Loop} (h : Wd w0 M0 w bs fs) [hr : ReplI bs (lpI L D r) (lpI L D r') bs'] : w.heap[L]? = some (.loop r) ∧ Wd w0 M0 (w.putObj L (.loop r')) bs' fs := by
  obtain ⟨pre, post, rfl, rfl⟩ := hr.ex
  have hm : lpI L D r ∈ pre ++ lpI L D r :: post := by simp
  have hl := h.held _ hm
  have hlt : L < w.heap.size := (Array.getElem?_eq_some_iff.1 hl.1).1
  have hDL : D ≠ L := fun e => by have h1 := hl.1; have h2 := hl.2; rw [e, h1] at h2; cases h2
  exact ⟨hl.1, h.swap rfl (Agree.putObj w L _ (.inr rfl)) ⟨World.putObj_heap_same hlt, (World.putObj_heap_other hDL).trans hl.2⟩ (fun k hk => .inl hk) (fun k hk => by simpa using h.lt _ hm k hk) (lpI_loc _ _ _)⟩
theorem rend {L D : Nat} {b : Loop} {w1 : World} {M : Nat → Prop} {J : World → Prop} {Jx : Code → World → Prop} (S : St w1 M ds a w l bs fs) (jump : Option Code)
    [hr : ReplI bs (lpI L D (lpR b .busy none)) (lpI L D (lpR b (if jump.isNone then .ready else .done) jump)) bs']
    (h : ∀ W', Wd w1 M W' bs' fs → (jump = none → J W') ∧ (∀ c, jump = some c → Jx c W')) : ∃ v w', (Instr.endRound L jump).run P w = .ok v w' ∧ (Agree M w1 w' ∧ ((Ending.returned v = .returned (.bool true) ∧ J w') ∨ (Ending.returned v = .returned (.bool false) ∧ ∃ c, Jx c w'))) := by
  obtain ⟨hl, hwd⟩ := S.wd.putLoop (L := L) (D := D) (r := lpR b .busy none) (r' := lpR b (if jump.isNone then .ready else .done) jump)
  obtain ⟨h1, h2⟩ := h _ hwd
  refine ⟨_, _, run_endRound (P := P) jump hl, hwd.agree, ?_⟩
  cases jump with
  | none => exact .inl ⟨rfl, h1 rfl⟩
  | some c => exact .inr ⟨rfl, c, h2 c rfl⟩
theorem rnext {L D : Nat} {b : Loop} {w1 : World} {M : Nat → Prop} {J : World → Prop} {Jx : Code → World → Prop} (S : St w1 M ds a w l bs fs)
    [hr : ReplI bs (lpI L D (lpR b .busy none)) (lpI L D (lpR b .ready none)) bs'] (h : ∀ W', Wd w1 M W' bs' fs → J W') : RoundEnd P L w1 M J Jx .normal a w :=
  rend (D := D) (b := b) S none (hr := hr) fun W' hW => ⟨fun _ => h W' hW, fun _ h => by cases h⟩
theorem rret {L D : Nat} {b : Loop} {w1 : World} {M : Nat → Prop} {J : World → Prop} {Jx : Code → World → Prop} (S : St w1 M ds a w l bs fs)
    [hr : ReplI bs (lpI L D (lpR b .busy none)) (lpI L D (lpR b .done (some .ret))) bs'] (h : ∀ W', Wd w1 M W' bs' fs → Jx .ret W') : RoundEnd P L w1 M J Jx .ret a w :=
  rend (D := D) (b := b) S (some .ret) (hr := hr) fun W' hW => ⟨fun h => by (cases h), fun _ h' => by cases h'; exact h W' hW⟩
theorem rexit {L D id : Nat} {b : Loop} {w1 : World} {M : Nat → Prop} {J : World → Prop} {Jx : Code → World → Prop} (S : St w1 M ds a w l bs fs)
    [hr : ReplI bs (lpI L D (lpR b .busy none)) (lpI L D (lpR b .done (some (.exit id)))) bs'] (h : ∀ W', Wd w1 M W' bs' fs → Jx (.exit id) W') : RoundEnd P L w1 M J Jx (.exit id) a w :=
  rend (D := D) (b := b) S (some (.exit id)) (hr := hr) fun W' hW => ⟨fun h => by (cases h), fun _ h' => by cases h'; exact h W' hW⟩
/-- the body has begun: the record is busy. -/
theorem rbegin {L D : Nat} {b : Loop} {w1 : World} {M : Nat → Prop} {K : Act → World → Prop} (S : St w1 M ds a w l bs fs)
    [hr : ReplI bs (lpI L D (lpR b .ready none)) (lpI L D (lpR b .busy none)) bs']
    (h : ∀ a w, St w1 M ds a w l bs' fs → K a w) : ∃ w2, (Instr.beginRound L).run P w = .ok () w2 ∧ K a w2 := by
  obtain ⟨hl, hwd⟩ := S.wd.putLoop (L := L) (D := D) (r := lpR b .ready none) (r' := lpR b .busy none)
  exact ⟨_, run_beginRound (P := P) hl rfl, h _ _ ⟨S.slots, S.defers, hwd⟩⟩
theorem foldl_put (ps : List Nat) (vs : List Value) : ∀ (t : Array Value), (ps.toArray.zip vs.toArray).foldl (fun t (p, v) => t.setIfInBounds p v) t = (ps.zip vs).foldl (fun t (x : Nat × Value) => t.setIfInBounds x.1 x.2) t := by
  intro t
  simp
/-- the slots of a round. -/
class PutPs (l : List Value) (ps : List Nat) (vs : List Value) (l' : outParam (List Value)) : Prop where eq : (ps.zip vs).foldl (fun (t : Array Value) (x : Nat × Value) => t.setIfInBounds x.1 x.2) l.toArray = l'.toArray ∧ vs.length = ps.length
instance putps0 {l : List Value} : PutPs l [] [] l := ⟨by simp⟩
instance putpsS {l l1 l' : List Value} {p : Nat} {v : Value} {ps : List Nat} {vs : List Value} [h : PutAt l p v l1] [h' : PutPs l1 ps vs l'] : PutPs l (p :: ps) (v :: vs) l' := ⟨by
  obtain ⟨h1, h2⟩ := h'.eq
  have := h.eq
  simp [← h1, h2, ← this]⟩
/-- a loop over a function. -/
theorem c_range {α : Type} {g : Operand} {ps : List Nat} {assign body : Code} {gf : Nat} {lb : List Value} {Ds : List Nat} {κ κx : Type} {E : α → List Value → World → World → Prop} (xs : List α)
    (bsI : Nat → κ → List Item) (fsI : Nat → κ → List (World → Prop)) (φ : Nat → κ → Prop) (bsX : κx → List Item) (fsX : κx → List (World → Prop)) (ψ : Code → κx → Prop) (k0 : κ)
    (S : St w0 M0 (dsOf Ds) a w l bs fs) [EntF P gf] [hg : Ev ⟨[], l⟩ g (.func (.func gf) #[] ⟨lb⟩)]
    (hit : ∀ (M : Nat → Prop) (w1 : World), (∀ k, M k → k < w1.heap.size) → (∀ Φ ∈ fs, Stable M w1 Φ) → (∀ it ∈ bs, it.own = false → Stable M w1 it.holds) → IterRet P gf lb w1 M E xs)
    (hk0 : φ 0 k0 ∧ bsI 0 k0 = bs ∧ fsI 0 k0 = fs)
    (hround : ∀ (L D : Nat) (b : Loop) (M : Nat → Prop) (w1 : World) (i : Nat) (x : α) (vs : List Value) (k : κ) (W0 W : World), xs[i]? = some x → φ i k → Wd w1 M W0 (lpI L D (lpR b .ready none) :: bsI i k) (fsI i k) → Grow W0 W → E x vs W0 W → ∃ lx, PutPs l ps vs lx ∧ ∀ a,
      St w1 M [] a W lx (lpI L D (lpR b .ready none) :: bsI i k) (fsI i k) →
      Wp P (some L) assign (Exit.then (fun a w => ∃ w2, (Instr.beginRound L).run P w = .ok () w2 ∧ Wp P (some L) body (RoundEnd P L w1 M (fun W => ∃ k', φ (i + 1) k' ∧ Wd w1 M W (lpI L D (lpR b .ready none) :: bsI (i + 1) k') (fsI (i + 1) k'))
        (fun c W => (c = .ret ∨ ∃ id, c = .exit id) ∧ ∃ k', ψ c k' ∧ Wd w1 M W (lpI L D (lpR b .done (some c)) :: bsX k') (fsX k'))) a w2) (fun _ _ _ => False)) a W)
    (hdone : ∀ (D : Nat) (k : κ) (a : Act) (W : World), φ xs.length k → St w0 M0 (dsOf ([D] ++ Ds)) a W l (marks [D] :: bsI xs.length k) (fsI xs.length k) → Q .normal a W)
    (hret : ∀ (D : Nat) (k : κx) (a : Act) (W : World), ψ .ret k → St w0 M0 (dsOf ([D] ++ Ds)) a W l (marks [D] :: bsX k) (fsX k) → Q .ret a W)
    (hexit : ∀ (id D : Nat) (k : κx) (a : Act) (W : World), ψ (.exit id) k → St w0 M0 (dsOf ([D] ++ Ds)) a W l (marks [D] :: bsX k) (fsX k) → Q (.exit id) a W) :
    Wp P none (.rangeFunc g ps.toArray assign body) Q a w := by
  refine wpIn_rangeFunc ?_
  intro fn _
  obtain ⟨b, hb⟩ : ∃ b : Loop, b = { state := .ready, pending := none, fn := fn, tmps := a.tmps, params := ps.toArray, assign := assign, body := body, defers := w.heap.size } := ⟨_, rfl⟩
  obtain ⟨w1, hw1⟩ : ∃ w1, (w.alloc (.deferred (some []))).alloc (.loop b) = w1 := ⟨_, rfl⟩
  have hL1 : w1.heap[w.heap.size + 1]? = some (.loop b) := by
    rw [← hw1]; have := World.alloc_heap_new (w.alloc (.deferred (some []))) (.loop b); rwa [World.size_alloc] at this
  have hD1 : w1.heap[w.heap.size]? = some (.deferred (some [])) := by
    rw [← hw1]; exact (RowKit.Below.heap_alloc _ _ _ (by simp)).trans (World.alloc_heap_new w _)
  have hsz : w1.heap.size = w.heap.size + 2 := by rw [← hw1]; simp
  have hgrow : Grow w w1 := by rw [← hw1]; exact (Agree.alloc _ w _).trans (Agree.alloc _ _ _)
  have hlpr : lpR b .ready none = b := by rw [hb]; rfl
  obtain ⟨M, hM⟩ : ∃ M : Nat → Prop, M = fun k => k = w.heap.size ∨ k = w.heap.size + 1 ∨ ∃ it ∈ bs, it.own = true ∧ it.foot k := ⟨_, rfl⟩
  have hwd1 : Wd w1 M w1 (lpI (w.heap.size + 1) w.heap.size (lpR b .ready none) :: bs) fs := by
    have hst := S.wd.step hgrow
    refine ⟨Agree.refl _ _, ?_, ?_, ?_, List.pairwise_cons.2 ⟨?_, hst.apart⟩, ?_, ?_⟩
    · intro it hi
      rcases List.mem_cons.1 hi with rfl | hi
      · exact ⟨by rw [hlpr]; exact hL1, hD1⟩
      · exact hst.held it hi
    · intro it hi k hk
      rcases List.mem_cons.1 hi with rfl | hi
      · simp only [lpI] at hk; omega
      · exact hst.lt it hi k hk
    · intro it hi ho k hk
      rw [hM]
      rcases List.mem_cons.1 hi with rfl | hi
      · exact .inl (hk.elim .inl (fun h => .inr (.inl h)))
      · exact .inl (.inr (.inr ⟨it, hi, ho, hk⟩))
    · intro it hi k hk hk'
      have := S.wd.lt it hi k hk'
      simp only [lpI] at hk; omega
    · intro Φ hΦ w'' hw''
      refine S.wd.facts Φ hΦ w'' ((hgrow.mono (fun _ _ h => h.elim)).trans' hw'' fun i hi ⟨it, hm, hk⟩ => ?_)
      rcases List.mem_cons.1 hm with rfl | hm
      · simp only [lpI] at hk; omega
      · exact ⟨it, hm, hk⟩
    · intro it hi
      rcases List.mem_cons.1 hi with rfl | hi
      · exact lpI_loc _ _ _
      · exact hst.loc it hi
  have hMlt : ∀ k, M k → k < w1.heap.size := fun k hk => by
    rw [hM] at hk
    rcases hk with rfl | rfl | ⟨it, hi, _, hk⟩
    · omega
    · omega
    · have := S.wd.lt it hi k hk; omega
  have hMf : ∀ Φ ∈ fs, Stable M w1 Φ := fun Φ hΦ => (hwd1.facts Φ hΦ).less fun k _ hk => by
    rw [hM] at hk
    rcases hk with rfl | rfl | ⟨it, hi, _, hk⟩
    · exact ⟨_, List.mem_cons_self .., .inl rfl⟩
    · exact ⟨_, List.mem_cons_self .., .inr rfl⟩
    · exact ⟨it, List.mem_cons_of_mem _ hi, hk⟩
  have hMr : ∀ it ∈ bs, it.own = false → Stable M w1 it.holds := fun it hi ho w2 hw2 => by
    have hst := S.wd.step hgrow
    refine hst.loc it hi w1 w2 (fun k hk => hw2.blk (hst.lt it hi k hk) fun hm => ?_) (hst.held it hi)
    rw [hM] at hm
    have hlt := S.wd.lt it hi k hk
    rcases hm with rfl | rfl | ⟨it', hi', ho', hk'⟩
    · omega
    · omega
    · exact apart_of S.wd.apart hi hi' (by rw [ho, ho']; simp) k hk hk'
  have hM0 : ∀ k, M k → M0 k ∨ w0.heap.size ≤ k := fun k hk => by
    have := S.wd.agree.size
    rw [hM] at hk
    rcases hk with rfl | rfl | ⟨it, hi, ho, hk⟩
    · exact .inr this
    · exact .inr (by omega)
    · exact S.wd.own it hi ho k hk
  have hag : Agree M0 w0 w1 := (S.wd.step hgrow).agree
  have hfin : ∀ (r : Loop) (bs2 : List Item) (fs2 : List (World → Prop)) (W : World), r.state ≠ .busy → Wd w1 M W (lpI (w.heap.size + 1) w.heap.size r :: bs2) fs2 →
      ∃ W', (Instr.endLoop (w.heap.size + 1)).run P W = .ok r.pending W' ∧ St w0 M0 (dsOf ([w.heap.size] ++ Ds)) { a with defers := [{ target := .collected w.heap.size, args := #[] }] ++ a.defers } W' l (marks [w.heap.size] :: bs2) fs2 := fun r bs2 fs2 W hr hwd => by
    have hl : W.heap[w.heap.size + 1]? = some (.loop r) ∧ W.heap[w.heap.size]? = some (.deferred (some [])) := hwd.held _ (List.mem_cons_self ..)
    have hlt : w.heap.size + 1 < W.heap.size := (Array.getElem?_eq_some_iff.1 hl.1).1
    refine ⟨_, run_endLoop (P := P) hl.1 hr, S.slots, by rw [S.defers]; rfl, ?_⟩
    refine (hwd.rebase hag hM0).swap (pre := []) (y := marks [w.heap.size]) rfl (Agree.putObj W _ _ (.inr rfl)) ⟨by simp, fun k hk => ?_⟩ (fun k hk => .inl ?_) (fun k hk => ?_) (marks_loc _)
    · obtain rfl := List.mem_singleton.1 hk
      exact (World.putObj_heap_other (by omega)).trans hl.2
    · obtain rfl := List.mem_singleton.1 hk; exact .inl rfl
    · obtain rfl := List.mem_singleton.1 hk; simp; omega
  have heg := hg.eq (by simp) a.defers
  have hae : a.eval g = .func (.func gf) #[] ⟨lb⟩ := S.fr.ev
  refine ⟨w.heap.size + 1, [{ target := .collected w.heap.size, args := #[] }], w1, { target := .fn (.func gf) ⟨lb⟩, args := #[.func (.yield (w.heap.size + 1)) #[] #[]] }, w1, gf,
    (.func (.yield (w.heap.size + 1)) #[] #[] :: lb).toArray, w1, ?_, ?_, fun _ _ => trivial, ?_, fun h => (by cases h), ?_⟩
  · rw [← hw1, hb]; exact run_enterLoop_outer _ _ _ _ _
  · simp only [resolve, hae]
    simp [go_sem]
  · have := EntF.run (P := P) (f := gf) (.func (.yield (w.heap.size + 1)) #[] #[] :: lb).toArray w1
    simpa [invoke, go_sem] using this
  · have hI := hit M w1 hMlt hMf hMr
    refine CallsIn.mono (hI (w.heap.size + 1) (fun i W => ∃ k, φ i k ∧ Wd w1 M W (lpI (w.heap.size + 1) w.heap.size (lpR b .ready none) :: bsI i k) (fsI i k))
      (fun W => ∃ c, (c = .ret ∨ ∃ id, c = .exit id) ∧ ∃ k, ψ c k ∧ Wd w1 M W (lpI (w.heap.size + 1) w.heap.size (lpR b .done (some c)) :: bsX k) (fsX k)) ?_ ⟨k0, hk0.1, by rw [hk0.2.1, hk0.2.2]; exact hwd1⟩) ?_
    · rintro i x vs W0 W1 hx ⟨k, hφ, hwd⟩ hgr hE
      have hwdg := hwd.step hgr
      have hl : W1.heap[w.heap.size + 1]? = some (.loop (lpR b .ready none)) := (hwdg.held _ (List.mem_cons_self ..)).1
      obtain ⟨lx, hps, hround'⟩ := hround (w.heap.size + 1) w.heap.size b M w1 i x vs k W0 W1 hx hφ hwd hgr hE
      have hp := hps.eq
      have hy := run_yield (P := P) (args := vs.toArray) hl (by rw [hb]; simpa [lpR] using hp.2)
      refine ⟨_, _, _, _, hy, roundIn_of_wpIn trivial ?_⟩
      have e1 : (((lpR b .ready none).params.zip vs.toArray).foldl (fun tmps (t, a) => tmps.setIfInBounds t a) (lpR b .ready none).tmps) = lx.toArray := by
        rw [hb]
        simp only [lpR, S.slots, foldl_put, hp.1]
      rw [e1]
      have := hround' { tmps := lx.toArray, defers := [] } ⟨rfl, rfl, hwdg⟩
      simp only [hb, lpR] at this ⊢
      refine wpIn_mono this ?_
      intro e a' w' he
      cases e with
      | normal =>
        obtain ⟨w2, h1, h2⟩ := he
        exact ⟨w2, h1, h2⟩
      | _ => exact he.elim
    · rintro e W ⟨⟨v, rfl⟩, W0, hgr, ⟨k, hφ, hwd⟩ | ⟨c, hc, k, hψ, hwd⟩⟩
      · obtain ⟨W', h1, h2⟩ := hfin (lpR b .ready none) _ _ W (by simp [lpR]) (hwd.step hgr)
        exact ⟨none, W', h1, hdone _ k _ W' hφ h2⟩
      · obtain ⟨W', h1, h2⟩ := hfin (lpR b .done (some c)) _ _ W (by simp [lpR]) (hwd.step hgr)
        refine ⟨some c, W', h1, ?_⟩
        rcases hc with rfl | ⟨id, rfl⟩
        · exact wpIn_ret (hret _ k _ W' hψ h2)
        · exact wpIn_exit (hexit id _ k _ W' hψ h2)

theorem St.join {Es Ds : List Nat} (S : St w0 M0 ds a w l (marks Es :: bs) fs) [hr : ReplI bs (marks Ds) (marks (Es ++ Ds)) bs'] : St w0 M0 ds a w l bs' fs := ⟨S.slots, S.defers, S.wd.join hr⟩
/-! a function with such loops: its beginning and its end -/
theorem enterM {f : Nat} {fn : Func} {c : Code} {args : List Value} {l : List Value} {R : Ending → World → Prop} {M0 : Nat → Prop} {bs : List Item} {fs : List (World → Prop)}
    (hf : P.funcs[f]? = some fn) (hb : fn.body = some c) (hl : args ++ List.replicate (fn.ntmps - args.length) undef = l) (hw : Wd w M0 w bs fs)
    (h : ∀ a, St w M0 (dsOf []) a w l (marks [] :: bs) fs → Wp P none c (bodyPostM (FW none) 0 P fn R) a w) : Calls P f args.toArray w R := by
  refine (callsIn_wide (n := 0)).1 (callsIn_of_wp_marks (F := FW none) (n := 0) hf hb trivial (h _ ⟨?_, rfl, ?_⟩))
  · simp [← hl]
  · exact hw.more (y := marks []) ⟨by simp, by simp⟩ (fun k hk => by cases hk) (fun k hk => by cases hk) (fun it _ k hk => by cases hk)
      (fun Φ hΦ => (hw.facts Φ hΦ).less fun k _ ⟨it, hi, hk⟩ => by
        rcases List.mem_cons.1 hi with rfl | hi
        · cases hk
        · exact ⟨it, hi, hk⟩) (marks_loc _)
theorem leavesM {fn : Func} {R : Ending → World → Prop} {t : Array Value} : ∀ (Ds : List Nat) (w : World), Wd w0 M0 w (marks Ds :: bs) fs → (∀ w', Wd w0 M0 w' bs fs → LeavesIn (FW none) 0 P fn t R [] .returning w') → LeavesInM (FW none) 0 P fn t R (dsOf Ds) .returning w
  | [], w, hw, h => h w (hw.sub (bs0 := bs) (List.sublist_cons_self ..) (List.Sublist.refl _))
  | D :: Ds, w, hw, h => by
    have hm : (marks (D :: Ds)).holds w := hw.held _ (List.mem_cons_self ..)
    have hD := hm.2 D (List.mem_cons_self ..)
    have hlt : D < w.heap.size := (Array.getElem?_eq_some_iff.1 hD).1
    refine ⟨by simp, .inl ⟨D, _, rfl, run_takeDeferred (P := P) hD, leavesM Ds _ ?_ h⟩⟩
    refine hw.swap (pre := []) (y := marks Ds) rfl (Agree.putObj w D _ (List.mem_cons_self ..)) ⟨(List.nodup_cons.1 hm.1).2, fun k hk => ?_⟩ (fun k hk => .inl (List.mem_cons_of_mem _ hk)) (fun k hk => ?_) (marks_loc _)
    · exact (World.putObj_heap_other (fun (e : k = D) => (List.nodup_cons.1 hm.1).1 (by rw [← e]; exact hk))).trans (hm.2 k (List.mem_cons_of_mem _ hk))
    · simpa using hw.lt _ (List.mem_cons_self ..) k (List.mem_cons_of_mem _ hk)
class DropI (bs : List Item) (x : Item) (bs' : outParam (List Item)) : Prop where perm : (x :: bs').Perm bs
instance dri0 {x : Item} {bs : List Item} : DropI (x :: bs) x bs := ⟨.refl _⟩
instance (priority := 900) driS {x y : Item} {bs bs' : List Item} [h : DropI bs x bs'] : DropI (y :: bs) x (y :: bs') := ⟨(List.Perm.swap _ _ _).trans (.cons _ h.perm)⟩
theorem finM {fn : Func} {R : Value → World → Prop} {e : Exit} {Ds : List Nat} {v : Value} (S : St w0 M0 (dsOf Ds) a w l bs fs) [hd : DropI bs (marks Ds) bs'] (hv : ∀ w, (∀ it ∈ bs', it.holds w) → (results fn l.toArray).run P w = .ok v w) (h : ∀ w, Wd w0 M0 w bs' fs → R v w) (he : e = .ret ∨ e = .normal := by simp) :
    bodyPostM (FW none) 0 P fn (fun e w' => ∃ v, e = .returned v ∧ Agree M0 w0 w' ∧ R v w') e a w := by
  have key : LeavesInM (FW none) 0 P fn a.tmps (fun e w' => ∃ v, e = .returned v ∧ Agree M0 w0 w' ∧ R v w') a.defers .returning w := by
    rw [S.defers, S.slots]
    refine leavesM Ds w (S.wd.perm hd.perm) fun w' hw' => ?_
    exact ⟨v, hv w' hw'.held, v, rfl, hw'.agree, h w' hw'⟩
  rcases he with rfl | rfl <;> exact key
theorem endM1 {fn : Func} {R : Value → World → Prop} {e : Exit} {Ds : List Nat} {r1 : ResultVar} {v1 : Value} [hr : FnRes fn [r1]] (S : St w0 M0 (dsOf Ds) a w l bs fs) [hd : DropI bs (marks Ds) bs'] [h1 : ResV P l bs' r1 v1] (h : ∀ w, Wd w0 M0 w bs' fs → R v1 w) (he : e = .ret ∨ e = .normal := by simp) :
    bodyPostM (FW none) 0 P fn (fun e w' => ∃ v, e = .returned v ∧ Agree M0 w0 w' ∧ R v w') e a w :=
  finM S (fun w hw => by rw [results_eq (rs := [r1])]; simp [run_res (P := P) (l := l) (bs := bs') (rv := r1) (v := v1) w hw]) h he
theorem endM0 {fn : Func} {R : Value → World → Prop} {e : Exit} {Ds : List Nat} [hr : FnRes fn []] (S : St w0 M0 (dsOf Ds) a w l bs fs) [hd : DropI bs (marks Ds) bs'] (h : ∀ w, Wd w0 M0 w bs' fs → R (.tuple #[]) w) (he : e = .ret ∨ e = .normal := by simp) :
    bodyPostM (FW none) 0 P fn (fun e w' => ∃ v, e = .returned v ∧ Agree M0 w0 w' ∧ R v w') e a w :=
  finM S (fun w hw => by rw [results_eq (rs := [])]; simp) h he
theorem endM2 {fn : Func} {R : Value → World → Prop} {e : Exit} {Ds : List Nat} {r1 r2 : ResultVar} {v1 v2 : Value} [hr : FnRes fn [r1, r2]] (S : St w0 M0 (dsOf Ds) a w l bs fs) [hd : DropI bs (marks Ds) bs'] [h1 : ResV P l bs' r1 v1] [h2 : ResV P l bs' r2 v2] (h : ∀ w, Wd w0 M0 w bs' fs → R (.tuple ⟨[v1, v2]⟩) w) (he : e = .ret ∨ e = .normal := by simp) :
    bodyPostM (FW none) 0 P fn (fun e w' => ∃ v, e = .returned v ∧ Agree M0 w0 w' ∧ R v w') e a w :=
  finM S (fun w hw => by rw [results_eq (rs := [r1, r2])]; simp [run_res (P := P) (l := l) (bs := bs') (rv := r1) (v := v1) w hw, run_res (P := P) (l := l) (bs := bs') (rv := r2) (v := v2) w hw]) h he
end
end Go.Wk
