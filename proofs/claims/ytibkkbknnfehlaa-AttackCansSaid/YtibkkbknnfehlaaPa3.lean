/- 3: a part of this claim's texts, joined: W4 CloseB CloseC PlainClose SlicesV CloseD. -/
import Derived.Test.YtibkkbknnfehlaaPa2
import Derived.Scope
import Derived.Lib.AppendZeros
import Derived.Maps.RangeRun
namespace Go.Wk
open Go
def lpI (L D : Nat) (r : Loop) : Item where
  foot := fun k => k = D ∨ k = L
  holds := fun w => w.heap[L]? = some (.loop r) ∧ w.heap[D]? = some (.deferred (some []))
def lpR (b : Loop) (s : LoopState) (p : Option Code) : Loop := { b with state := s, pending := p }
def marks (Ds : List Nat) : Item where
  foot := fun k => k ∈ Ds
  holds := fun w => Ds.Nodup ∧ ∀ k ∈ Ds, w.heap[k]? = some (.deferred (some []))
def dsOf (Ds : List Nat) : List Deferred := Ds.map fun D => { target := .collected D, args := #[] }
theorem lpI_loc (L D : Nat) (r : Loop) (w1 w2 : World) (h : ∀ k, (lpI L D r).foot k → w2.heap[k]? = w1.heap[k]?) (h1 : (lpI L D r).holds w1) : (lpI L D r).holds w2 :=
  ⟨(h L (.inr rfl)).trans h1.1, (h D (.inl rfl)).trans h1.2⟩
theorem marks_loc (Ds : List Nat) (w1 w2 : World) (h : ∀ k, (marks Ds).foot k → w2.heap[k]? = w1.heap[k]?) (h1 : (marks Ds).holds w1) : (marks Ds).holds w2 :=
  ⟨h1.1, fun k hk => (h k hk).trans (h1.2 k hk)⟩
theorem Agree.putObj {M : Nat → Prop} (w : World) (g : Nat) (o : Obj) (hg : M g) : Agree M w (w.putObj g o) :=
  ⟨rfl, rfl, rfl, by simp, fun k _ hm => World.putObj_heap_other (fun e => hm (e ▸ hg))⟩
def IterRet {α : Type} (P : Program) (g : Nat) (lb : List Value) (w : World) (M : Nat → Prop) (E : α → List Value → World → World → Prop) (xs : List α) : Prop :=
  ∀ (l : Nat) (J : Nat → World → Prop) (Jx : World → Prop),
    (∀ i x vs W0 W1, xs[i]? = some x → J i W0 → Grow W0 W1 → E x vs W0 W1 → YieldAt (FW none) 0 P l vs.toArray W1 fun e W' =>
      Agree M w W' ∧ ((e = .returned (.bool true) ∧ J (i + 1) W') ∨ (e = .returned (.bool false) ∧ Jx W'))) →
    J 0 w →
    CallsIn (FW none) 0 P g (.func (.yield l) #[] #[] :: lb).toArray w fun e W' => (∃ v, e = .returned v) ∧ ∃ W0, Grow W0 W' ∧ (J xs.length W0 ∨ Jx W0)
theorem Wd.rebase {w0 w1 w : World} {M0 M : Nat → Prop} {bs : List Item} {fs : List (World → Prop)} (h : Wd w1 M w bs fs) (ha : Agree M0 w0 w1) (hM : ∀ k, M k → M0 k ∨ w0.heap.size ≤ k) : Wd w0 M0 w bs fs where
  agree := ha.trans' h.agree fun i hi hm => (hM i hm).elim id (fun h => absurd h (by omega))
  held := h.held
  lt := h.lt
  own := fun it hi ho k hk => (h.own it hi ho k hk).elim (hM k) (fun h1 => .inr (Nat.le_trans ha.size h1))
  apart := h.apart
  facts := h.facts
  loc := h.loc
theorem Wd.join {w0 w : World} {M0 : Nat → Prop} {Es Ds : List Nat} {bs bs' : List Item} {fs : List (World → Prop)} (h : Wd w0 M0 w (marks Es :: bs) fs) (hr : ReplI bs (marks Ds) (marks (Es ++ Ds)) bs') : Wd w0 M0 w bs' fs := by
  obtain ⟨pre, post, rfl, rfl⟩ := hr.ex
  have h2 := h.perm (bs' := marks Es :: marks Ds :: (pre ++ post)) (.cons _ (List.perm_middle.symm))
  have hap := List.pairwise_cons.1 h2.apart
  have hap2 := List.pairwise_cons.1 hap.2
  have he : (marks Es).holds w := h2.held _ (by simp)
  have hd : (marks Ds).holds w := h2.held _ (by simp)
  refine Wd.perm (bs := marks (Es ++ Ds) :: (pre ++ post)) ?_ List.perm_middle
  have hfeq : foots (marks (Es ++ Ds) :: (pre ++ post)) = foots (marks Es :: marks Ds :: (pre ++ post)) := by
    funext k
    simp only [foots, List.mem_cons, or_and_right, exists_or, exists_eq_left, marks, List.mem_append, or_assoc]
  refine ⟨h2.agree, ?_, ?_, ?_, List.pairwise_cons.2 ⟨?_, hap2.2⟩, ?_, ?_⟩
  · intro it hi
    rcases List.mem_cons.1 hi with rfl | hi
    · exact ⟨List.nodup_append.2 ⟨he.1, hd.1, fun a ha b hb e => hap.1 (marks Ds) (by simp) a ha (e ▸ hb)⟩, fun k hk => (List.mem_append.1 hk).elim (he.2 k) (hd.2 k)⟩
    · exact h2.held it (by simp only [List.mem_cons]; exact .inr (.inr hi))
  · intro it hi k hk
    rcases List.mem_cons.1 hi with rfl | hi
    · exact (List.mem_append.1 hk).elim (fun q => h2.lt (marks Es) (by simp) k q) (fun q => h2.lt (marks Ds) (by simp) k q)
    · exact h2.lt it (by simp only [List.mem_cons]; exact .inr (.inr hi)) k hk
  · intro it hi ho k hk
    rcases List.mem_cons.1 hi with rfl | hi
    · exact (List.mem_append.1 hk).elim (fun q => h2.own (marks Es) (by simp) rfl k q) (fun q => h2.own (marks Ds) (by simp) rfl k q)
    · exact h2.own it (by simp only [List.mem_cons]; exact .inr (.inr hi)) ho k hk
  · intro it hi k hk
    rcases List.mem_append.1 hk with q | q
    · exact hap.1 it (by simp only [List.mem_cons]; exact .inr hi) k q
    · exact hap2.1 it hi k q
  · intro Φ hΦ
    rw [hfeq]; exact h2.facts Φ hΦ
  · intro it hi
    rcases List.mem_cons.1 hi with rfl | hi
    · exact marks_loc _
    · exact h2.loc it (by simp only [List.mem_cons]; exact .inr (.inr hi))
section
variable {P : Program} {Q : Exit → Act → World → Prop} {w0 : World} {M0 : Nat → Prop} {ds : List Deferred} {a : Act} {w : World} {l : List Value} {bs bs' : List Item} {fs : List (World → Prop)}
def RoundEnd (P : Program) (L : Nat) (w1 : World) (M : Nat → Prop) (J : World → Prop) (Jx : Code → World → Prop) : Exit → Act → World → Prop :=
  roundPost P L fun e W' => Agree M w1 W' ∧ ((e = .returned (.bool true) ∧ J W') ∨ (e = .returned (.bool false) ∧ ∃ c, Jx c W'))
theorem Wd.putLoop {L D : Nat} {r r' : Loop} (h : Wd w0 M0 w bs fs) [hr : ReplI bs (lpI L D r) (lpI L D r') bs'] : w.heap[L]? = some (.loop r) ∧ Wd w0 M0 (w.putObj L (.loop r')) bs' fs := by
  obtain ⟨pre, post, rfl, rfl⟩ := hr.ex
  have hm : lpI L D r ∈ pre ++ lpI L D r :: post := by simp
  have hl := h.held _ hm
  have hlt : L < w.heap.size := (Array.getElem?_eq_some_iff.1 hl.1).1
  have hDL : D ≠ L := fun e => by have h1 := hl.1; have h2 := hl.2; rw [e, h1] at h2; cases h2
  exact ⟨hl.1, h.swap rfl (Agree.putObj w L _ (.inr rfl)) ⟨World.putObj_heap_same hlt, (World.putObj_heap_other hDL).trans hl.2⟩ (fun k hk => .inl hk) (fun k hk => by simpa using h.lt _ hm k hk) (lpI_loc _ _ _)⟩
theorem rend {L D : Nat} {b : Loop} {w1 : World} {M : Nat → Prop} {J : World → Prop} {Jx : Code → World → Prop} (S : St w1 M ds a w l bs fs) (jump : Option Code)
    [hr : ReplI bs (lpI L D (lpR b .busy none)) (lpI L D (lpR b (if jump.isNone then .ready else .done) jump)) bs']
    (h : ∀ W', Wd w1 M W' bs' fs → (jump = none → J W') ∧ (∀ c, jump = some c → Jx c W')) : ∃ v w', (Instr.endRound L jump).run P w = .ok v w' ∧ (Agree M w1 w' ∧ ((Ending.returned v = .returned (.bool true) ∧ J w') ∨ (Ending.returned v = .returned (.bool false) ∧ ∃ c, Jx c w'))) := by
  obtain ⟨hl, hwd⟩ := S.wd.putLoop (L := L) (D := D) (r := lpR b .busy none) (r' := lpR b (if jump.isNone then .ready else .done) jump)
  obtain ⟨h1, h2⟩ := h _ hwd
  refine ⟨_, _, run_endRound (P := P) jump hl, hwd.agree, ?_⟩
  cases jump with
  | none => exact .inl ⟨rfl, h1 rfl⟩
  | some c => exact .inr ⟨rfl, c, h2 c rfl⟩
theorem rnext {L D : Nat} {b : Loop} {w1 : World} {M : Nat → Prop} {J : World → Prop} {Jx : Code → World → Prop} (S : St w1 M ds a w l bs fs)
    [hr : ReplI bs (lpI L D (lpR b .busy none)) (lpI L D (lpR b .ready none)) bs'] (h : ∀ W', Wd w1 M W' bs' fs → J W') : RoundEnd P L w1 M J Jx .normal a w :=
  rend (D := D) (b := b) S none (hr := hr) fun W' hW => ⟨fun _ => h W' hW, fun _ h => by cases h⟩
theorem rbegin {L D : Nat} {b : Loop} {w1 : World} {M : Nat → Prop} {K : Act → World → Prop} (S : St w1 M ds a w l bs fs)
    [hr : ReplI bs (lpI L D (lpR b .ready none)) (lpI L D (lpR b .busy none)) bs']
    (h : ∀ a w, St w1 M ds a w l bs' fs → K a w) : ∃ w2, (Instr.beginRound L).run P w = .ok () w2 ∧ K a w2 := by
  obtain ⟨hl, hwd⟩ := S.wd.putLoop (L := L) (D := D) (r := lpR b .ready none) (r' := lpR b .busy none)
  exact ⟨_, run_beginRound (P := P) hl rfl, h _ _ ⟨S.slots, S.defers, hwd⟩⟩
theorem foldl_put (ps : List Nat) (vs : List Value) : ∀ (t : Array Value), (ps.toArray.zip vs.toArray).foldl (fun t (p, v) => t.setIfInBounds p v) t = (ps.zip vs).foldl (fun t (x : Nat × Value) => t.setIfInBounds x.1 x.2) t := by
  intro t
  simp
class PutPs (l : List Value) (ps : List Nat) (vs : List Value) (l' : outParam (List Value)) : Prop where eq : (ps.zip vs).foldl (fun (t : Array Value) (x : Nat × Value) => t.setIfInBounds x.1 x.2) l.toArray = l'.toArray ∧ vs.length = ps.length
instance putps0 {l : List Value} : PutPs l [] [] l := ⟨by simp⟩
instance putpsS {l l1 l' : List Value} {p : Nat} {v : Value} {ps : List Nat} {vs : List Value} [h : PutAt l p v l1] [h' : PutPs l1 ps vs l'] : PutPs l (p :: ps) (v :: vs) l' := ⟨by
  obtain ⟨h1, h2⟩ := h'.eq
  have := h.eq
  simp [← h1, h2, ← this]⟩
theorem c_range {α : Type} {g : Operand} {ps : List Nat} {assign body : Code} {gf : Nat} {lb : List Value} {Ds : List Nat} {κ κx : Type} {E : α → List Value → World → World → Prop} (xs : List α)
    (bsI : Nat → κ → List Item) (fsI : Nat → κ → List (World → Prop)) (φ : Nat → κ → Prop) (bsX : κx → List Item) (fsX : κx → List (World → Prop)) (ψ : Code → κx → Prop) (k0 : κ)
    (S : St w0 M0 (dsOf Ds) a w l bs fs) [EntF P gf] [hg : Ev ⟨[], l⟩ g (.func (.func gf) #[] ⟨lb⟩)]
    (hit : ∀ (M : Nat → Prop) (w1 : World), (∀ k, M k → k < w1.heap.size) → (∀ Φ ∈ fs, Stable M w1 Φ) → (∀ it ∈ bs, it.own = false → Stable M w1 it.holds) → IterRet P gf lb w1 M E xs)
    (hk0 : φ 0 k0 ∧ bsI 0 k0 = bs ∧ fsI 0 k0 = fs)
    (hround : ∀ (L D : Nat) (b : Loop) (M : Nat → Prop) (w1 : World) (i : Nat) (x : α) (vs : List Value) (k : κ) (W0 W : World), xs[i]? = some x → φ i k → Wd w1 M W0 (lpI L D (lpR b .ready none) :: bsI i k) (fsI i k) → Grow W0 W → E x vs W0 W → ∃ lx, PutPs l ps vs lx ∧ ∀ a,
      St w1 M [] a W lx (lpI L D (lpR b .ready none) :: bsI i k) (fsI i k) →
      Wp P (some L) assign (Exit.then (fun a w => ∃ w2, (Instr.beginRound L).run P w = .ok () w2 ∧ Wp P (some L) body (RoundEnd P L w1 M (fun W => ∃ k', φ (i + 1) k' ∧ Wd w1 M W (lpI L D (lpR b .ready none) :: bsI (i + 1) k') (fsI (i + 1) k'))
        (fun c W => (c = .ret ∨ ∃ id, c = .exit id) ∧ ∃ k', ψ c k' ∧ Wd w1 M W (lpI L D (lpR b .done (some c)) :: bsX k') (fsX k'))) a w2) (fun _ _ _ => False)) a W)
    (hdone : ∀ (D : Nat) (k : κ) (a : Act) (W : World), φ xs.length k → St w0 M0 (dsOf ([D] ++ Ds)) a W l (marks [D] :: bsI xs.length k) (fsI xs.length k) → Q .normal a W)
    (hret : ∀ (D : Nat) (k : κx) (a : Act) (W : World), ψ .ret k → St w0 M0 (dsOf ([D] ++ Ds)) a W l (marks [D] :: bsX k) (fsX k) → Q .ret a W)
    (hexit : ∀ (id D : Nat) (k : κx) (a : Act) (W : World), ψ (.exit id) k → St w0 M0 (dsOf ([D] ++ Ds)) a W l (marks [D] :: bsX k) (fsX k) → Q (.exit id) a W) :
    Wp P none (.rangeFunc g ps.toArray assign body) Q a w := by
  refine wpIn_rangeFunc ?_
  intro fn _
  obtain ⟨b, hb⟩ : ∃ b : Loop, b = { state := .ready, pending := none, fn := fn, tmps := a.tmps, params := ps.toArray, assign := assign, body := body, defers := w.heap.size } := ⟨_, rfl⟩
  obtain ⟨w1, hw1⟩ : ∃ w1, (w.alloc (.deferred (some []))).alloc (.loop b) = w1 := ⟨_, rfl⟩
  have hL1 : w1.heap[w.heap.size + 1]? = some (.loop b) := by
    rw [← hw1]; have := World.alloc_heap_new (w.alloc (.deferred (some []))) (.loop b); rwa [World.size_alloc] at this
  have hD1 : w1.heap[w.heap.size]? = some (.deferred (some [])) := by
    rw [← hw1]; exact (RowKit.Below.heap_alloc _ _ _ (by simp)).trans (World.alloc_heap_new w _)
  have hsz : w1.heap.size = w.heap.size + 2 := by rw [← hw1]; simp
  have hgrow : Grow w w1 := by rw [← hw1]; exact (Agree.alloc _ w _).trans (Agree.alloc _ _ _)
  have hlpr : lpR b .ready none = b := by rw [hb]; rfl
  obtain ⟨M, hM⟩ : ∃ M : Nat → Prop, M = fun k => k = w.heap.size ∨ k = w.heap.size + 1 ∨ ∃ it ∈ bs, it.own = true ∧ it.foot k := ⟨_, rfl⟩
  have hwd1 : Wd w1 M w1 (lpI (w.heap.size + 1) w.heap.size (lpR b .ready none) :: bs) fs := by
    have hst := S.wd.step hgrow
    refine ⟨Agree.refl _ _, ?_, ?_, ?_, List.pairwise_cons.2 ⟨?_, hst.apart⟩, ?_, ?_⟩
    · intro it hi
      rcases List.mem_cons.1 hi with rfl | hi
      · exact ⟨by rw [hlpr]; exact hL1, hD1⟩
      · exact hst.held it hi
    · intro it hi k hk
      rcases List.mem_cons.1 hi with rfl | hi
      · simp only [lpI] at hk; omega
      · exact hst.lt it hi k hk
    · intro it hi ho k hk
      rw [hM]
      rcases List.mem_cons.1 hi with rfl | hi
      · exact .inl (hk.elim .inl (fun h => .inr (.inl h)))
      · exact .inl (.inr (.inr ⟨it, hi, ho, hk⟩))
    · intro it hi k hk hk'
      have := S.wd.lt it hi k hk'
      simp only [lpI] at hk; omega
    · intro Φ hΦ w'' hw''
      refine S.wd.facts Φ hΦ w'' ((hgrow.mono (fun _ _ h => h.elim)).trans' hw'' fun i hi ⟨it, hm, hk⟩ => ?_)
      rcases List.mem_cons.1 hm with rfl | hm
      · simp only [lpI] at hk; omega
      · exact ⟨it, hm, hk⟩
    · intro it hi
      rcases List.mem_cons.1 hi with rfl | hi
      · exact lpI_loc _ _ _
      · exact hst.loc it hi
  have hMlt : ∀ k, M k → k < w1.heap.size := fun k hk => by
    rw [hM] at hk
    rcases hk with rfl | rfl | ⟨it, hi, _, hk⟩
    · omega
    · omega
    · have := S.wd.lt it hi k hk; omega
  have hMf : ∀ Φ ∈ fs, Stable M w1 Φ := fun Φ hΦ => (hwd1.facts Φ hΦ).less fun k _ hk => by
    rw [hM] at hk
    rcases hk with rfl | rfl | ⟨it, hi, _, hk⟩
    · exact ⟨_, List.mem_cons_self .., .inl rfl⟩
    · exact ⟨_, List.mem_cons_self .., .inr rfl⟩
    · exact ⟨it, List.mem_cons_of_mem _ hi, hk⟩
  have hMr : ∀ it ∈ bs, it.own = false → Stable M w1 it.holds := fun it hi ho w2 hw2 => by
    have hst := S.wd.step hgrow
    refine hst.loc it hi w1 w2 (fun k hk => hw2.blk (hst.lt it hi k hk) fun hm => ?_) (hst.held it hi)
    rw [hM] at hm
    have hlt := S.wd.lt it hi k hk
    rcases hm with rfl | rfl | ⟨it', hi', ho', hk'⟩
    · omega
    · omega
    · exact apart_of S.wd.apart hi hi' (by rw [ho, ho']; simp) k hk hk'
  have hM0 : ∀ k, M k → M0 k ∨ w0.heap.size ≤ k := fun k hk => by
    have := S.wd.agree.size
    rw [hM] at hk
    rcases hk with rfl | rfl | ⟨it, hi, ho, hk⟩
    · exact .inr this
    · exact .inr (by omega)
    · exact S.wd.own it hi ho k hk
  have hag : Agree M0 w0 w1 := (S.wd.step hgrow).agree
  have hfin : ∀ (r : Loop) (bs2 : List Item) (fs2 : List (World → Prop)) (W : World), r.state ≠ .busy → Wd w1 M W (lpI (w.heap.size + 1) w.heap.size r :: bs2) fs2 →
      ∃ W', (Instr.endLoop (w.heap.size + 1)).run P W = .ok r.pending W' ∧ St w0 M0 (dsOf ([w.heap.size] ++ Ds)) { a with defers := [{ target := .collected w.heap.size, args := #[] }] ++ a.defers } W' l (marks [w.heap.size] :: bs2) fs2 := fun r bs2 fs2 W hr hwd => by
    have hl : W.heap[w.heap.size + 1]? = some (.loop r) ∧ W.heap[w.heap.size]? = some (.deferred (some [])) := hwd.held _ (List.mem_cons_self ..)
    have hlt : w.heap.size + 1 < W.heap.size := (Array.getElem?_eq_some_iff.1 hl.1).1
    refine ⟨_, run_endLoop (P := P) hl.1 hr, S.slots, by rw [S.defers]; rfl, ?_⟩
    refine (hwd.rebase hag hM0).swap (pre := []) (y := marks [w.heap.size]) rfl (Agree.putObj W _ _ (.inr rfl)) ⟨by simp, fun k hk => ?_⟩ (fun k hk => .inl ?_) (fun k hk => ?_) (marks_loc _)
    · obtain rfl := List.mem_singleton.1 hk
      exact (World.putObj_heap_other (by omega)).trans hl.2
    · obtain rfl := List.mem_singleton.1 hk; exact .inl rfl
    · obtain rfl := List.mem_singleton.1 hk; simp; omega
  have heg := hg.eq (by simp) a.defers
  have hae : a.eval g = .func (.func gf) #[] ⟨lb⟩ := S.fr.ev
  refine ⟨w.heap.size + 1, [{ target := .collected w.heap.size, args := #[] }], w1, { target := .fn (.func gf) ⟨lb⟩, args := #[.func (.yield (w.heap.size + 1)) #[] #[]] }, w1, gf,
    (.func (.yield (w.heap.size + 1)) #[] #[] :: lb).toArray, w1, ?_, ?_, fun _ _ => trivial, ?_, fun h => (by cases h), ?_⟩
  · rw [← hw1, hb]; exact run_enterLoop_outer _ _ _ _ _
  · simp only [resolve, hae]
    simp [go_sem]
  · have := EntF.run (P := P) (f := gf) (.func (.yield (w.heap.size + 1)) #[] #[] :: lb).toArray w1
    simpa [invoke, go_sem] using this
  · have hI := hit M w1 hMlt hMf hMr
    refine CallsIn.mono (hI (w.heap.size + 1) (fun i W => ∃ k, φ i k ∧ Wd w1 M W (lpI (w.heap.size + 1) w.heap.size (lpR b .ready none) :: bsI i k) (fsI i k))
      (fun W => ∃ c, (c = .ret ∨ ∃ id, c = .exit id) ∧ ∃ k, ψ c k ∧ Wd w1 M W (lpI (w.heap.size + 1) w.heap.size (lpR b .done (some c)) :: bsX k) (fsX k)) ?_ ⟨k0, hk0.1, by rw [hk0.2.1, hk0.2.2]; exact hwd1⟩) ?_
    · rintro i x vs W0 W1 hx ⟨k, hφ, hwd⟩ hgr hE
      have hwdg := hwd.step hgr
      have hl : W1.heap[w.heap.size + 1]? = some (.loop (lpR b .ready none)) := (hwdg.held _ (List.mem_cons_self ..)).1
      obtain ⟨lx, hps, hround'⟩ := hround (w.heap.size + 1) w.heap.size b M w1 i x vs k W0 W1 hx hφ hwd hgr hE
      have hp := hps.eq
      have hy := run_yield (P := P) (args := vs.toArray) hl (by rw [hb]; simpa [lpR] using hp.2)
      refine ⟨_, _, _, _, hy, roundIn_of_wpIn trivial ?_⟩
      have e1 : (((lpR b .ready none).params.zip vs.toArray).foldl (fun tmps (t, a) => tmps.setIfInBounds t a) (lpR b .ready none).tmps) = lx.toArray := by
        rw [hb]
        simp only [lpR, S.slots, foldl_put, hp.1]
      rw [e1]
      have := hround' { tmps := lx.toArray, defers := [] } ⟨rfl, rfl, hwdg⟩
      simp only [hb, lpR] at this ⊢
      refine wpIn_mono this ?_
      intro e a' w' he
      cases e with
      | normal =>
        obtain ⟨w2, h1, h2⟩ := he
        exact ⟨w2, h1, h2⟩
      | _ => exact he.elim
    · rintro e W ⟨⟨v, rfl⟩, W0, hgr, ⟨k, hφ, hwd⟩ | ⟨c, hc, k, hψ, hwd⟩⟩
      · obtain ⟨W', h1, h2⟩ := hfin (lpR b .ready none) _ _ W (by simp [lpR]) (hwd.step hgr)
        exact ⟨none, W', h1, hdone _ k _ W' hφ h2⟩
      · obtain ⟨W', h1, h2⟩ := hfin (lpR b .done (some c)) _ _ W (by simp [lpR]) (hwd.step hgr)
        refine ⟨some c, W', h1, ?_⟩
        rcases hc with rfl | ⟨id, rfl⟩
        · exact wpIn_ret (hret _ k _ W' hψ h2)
        · exact wpIn_exit (hexit id _ k _ W' hψ h2)
theorem St.join {Es Ds : List Nat} (S : St w0 M0 ds a w l (marks Es :: bs) fs) [hr : ReplI bs (marks Ds) (marks (Es ++ Ds)) bs'] : St w0 M0 ds a w l bs' fs := ⟨S.slots, S.defers, S.wd.join hr⟩
theorem enterM {f : Nat} {fn : Func} {c : Code} {args : List Value} {l : List Value} {R : Ending → World → Prop} {M0 : Nat → Prop} {bs : List Item} {fs : List (World → Prop)}
    (hf : P.funcs[f]? = some fn) (hb : fn.body = some c) (hl : args ++ List.replicate (fn.ntmps - args.length) undef = l) (hw : Wd w M0 w bs fs)
    (h : ∀ a, St w M0 (dsOf []) a w l (marks [] :: bs) fs → Wp P none c (bodyPostM (FW none) 0 P fn R) a w) : Calls P f args.toArray w R := by
  refine (callsIn_wide (n := 0)).1 (callsIn_of_wp_marks (F := FW none) (n := 0) hf hb trivial (h _ ⟨?_, rfl, ?_⟩))
  · simp [← hl]
  · exact hw.more (y := marks []) ⟨by simp, by simp⟩ (fun k hk => by cases hk) (fun k hk => by cases hk) (fun it _ k hk => by cases hk)
      (fun Φ hΦ => (hw.facts Φ hΦ).less fun k _ ⟨it, hi, hk⟩ => by
        rcases List.mem_cons.1 hi with rfl | hi
        · cases hk
        · exact ⟨it, hi, hk⟩) (marks_loc _)
theorem leavesM {fn : Func} {R : Ending → World → Prop} {t : Array Value} : ∀ (Ds : List Nat) (w : World), Wd w0 M0 w (marks Ds :: bs) fs → (∀ w', Wd w0 M0 w' bs fs → LeavesIn (FW none) 0 P fn t R [] .returning w') → LeavesInM (FW none) 0 P fn t R (dsOf Ds) .returning w
  | [], w, hw, h => h w (hw.sub (bs0 := bs) (List.sublist_cons_self ..) (List.Sublist.refl _))
  | D :: Ds, w, hw, h => by
    have hm : (marks (D :: Ds)).holds w := hw.held _ (List.mem_cons_self ..)
    have hD := hm.2 D (List.mem_cons_self ..)
    have hlt : D < w.heap.size := (Array.getElem?_eq_some_iff.1 hD).1
    refine ⟨by simp, .inl ⟨D, _, rfl, run_takeDeferred (P := P) hD, leavesM Ds _ ?_ h⟩⟩
    refine hw.swap (pre := []) (y := marks Ds) rfl (Agree.putObj w D _ (List.mem_cons_self ..)) ⟨(List.nodup_cons.1 hm.1).2, fun k hk => ?_⟩ (fun k hk => .inl (List.mem_cons_of_mem _ hk)) (fun k hk => ?_) (marks_loc _)
    · exact (World.putObj_heap_other (fun (e : k = D) => (List.nodup_cons.1 hm.1).1 (by rw [← e]; exact hk))).trans (hm.2 k (List.mem_cons_of_mem _ hk))
    · simpa using hw.lt _ (List.mem_cons_self ..) k (List.mem_cons_of_mem _ hk)
class DropI (bs : List Item) (x : Item) (bs' : outParam (List Item)) : Prop where perm : (x :: bs').Perm bs
instance dri0 {x : Item} {bs : List Item} : DropI (x :: bs) x bs := ⟨.refl _⟩
instance (priority := 900) driS {x y : Item} {bs bs' : List Item} [h : DropI bs x bs'] : DropI (y :: bs) x (y :: bs') := ⟨(List.Perm.swap _ _ _).trans (.cons _ h.perm)⟩
theorem finM {fn : Func} {R : Value → World → Prop} {e : Exit} {Ds : List Nat} {v : Value} (S : St w0 M0 (dsOf Ds) a w l bs fs) [hd : DropI bs (marks Ds) bs'] (hv : ∀ w, (∀ it ∈ bs', it.holds w) → (results fn l.toArray).run P w = .ok v w) (h : ∀ w, Wd w0 M0 w bs' fs → R v w) (he : e = .ret ∨ e = .normal := by simp) :
    bodyPostM (FW none) 0 P fn (fun e w' => ∃ v, e = .returned v ∧ Agree M0 w0 w' ∧ R v w') e a w := by
  have key : LeavesInM (FW none) 0 P fn a.tmps (fun e w' => ∃ v, e = .returned v ∧ Agree M0 w0 w' ∧ R v w') a.defers .returning w := by
    rw [S.defers, S.slots]
    refine leavesM Ds w (S.wd.perm hd.perm) fun w' hw' => ?_
    exact ⟨v, hv w' hw'.held, v, rfl, hw'.agree, h w' hw'⟩
  rcases he with rfl | rfl <;> exact key
theorem endM1 {fn : Func} {R : Value → World → Prop} {e : Exit} {Ds : List Nat} {r1 : ResultVar} {v1 : Value} [hr : FnRes fn [r1]] (S : St w0 M0 (dsOf Ds) a w l bs fs) [hd : DropI bs (marks Ds) bs'] [h1 : ResV P l bs' r1 v1] (h : ∀ w, Wd w0 M0 w bs' fs → R v1 w) (he : e = .ret ∨ e = .normal := by simp) :
    bodyPostM (FW none) 0 P fn (fun e w' => ∃ v, e = .returned v ∧ Agree M0 w0 w' ∧ R v w') e a w :=
  finM S (fun w hw => by rw [results_eq (rs := [r1])]; simp [run_res (P := P) (l := l) (bs := bs') (rv := r1) (v := v1) w hw]) h he
end
inductive Tr where
  | e
  | q (i : Nat) (t : Tr)
  | l (i : Nat) (t : Tr)
  | b2 (i j : Nat) (t u : Tr)
  | b3 (i j k : Nat) (t u v : Tr)
  | b4 (i j k m : Nat) (t u v x : Tr)
def Tr.len : Tr → Nat
  | .e => 0
  | .q _ t | .l _ t => t.len + 1
  | .b2 _ _ t _ => t.len + 1
  | .b3 _ _ _ t _ _ => t.len + 1
  | .b4 _ _ _ _ t _ _ _ => t.len + 1
def flowT (ops : Array Oper) : Tr → Array Bool → Bool
  | .e, listed => (Region.ready .any ops listed).isEmpty
  | .q i t, listed => ((Region.ready .any ops listed).contains i && Region.free .any ops listed i) && flowT ops t (listed.setIfInBounds i true)
  | .l i t, listed => (match Region.ready .any ops listed with | [j] => Nat.beq j i | _ => false) && flowT ops t (listed.setIfInBounds i true)
  | .b2 i j t u, listed => (match Region.ready .any ops listed with | [x, y] => Nat.beq x i && Nat.beq y j | _ => false) && (Nat.beq u.len t.len && (flowT ops t (listed.setIfInBounds i true) && flowT ops u (listed.setIfInBounds j true)))
  | .b3 i j k t u v, listed => (match Region.ready .any ops listed with | [x, y, z] => Nat.beq x i && (Nat.beq y j && Nat.beq z k) | _ => false) && (Nat.beq u.len t.len && (Nat.beq v.len t.len && (flowT ops t (listed.setIfInBounds i true) && (flowT ops u (listed.setIfInBounds j true) && flowT ops v (listed.setIfInBounds k true)))))
  | .b4 i j k m t u v x, listed => (match Region.ready .any ops listed with | [a, y, z, b] => Nat.beq a i && (Nat.beq y j && (Nat.beq z k && Nat.beq b m)) | _ => false) && (Nat.beq u.len t.len && (Nat.beq v.len t.len && (Nat.beq x.len t.len && (flowT ops t (listed.setIfInBounds i true) && (flowT ops u (listed.setIfInBounds j true) && (flowT ops v (listed.setIfInBounds k true) && flowT ops x (listed.setIfInBounds m true)))))))
section
variable {P : Program} {ops : Array Oper} {C : World → Prop} {R : Act → World → Prop}
variable {r : Option Nat} {Q : Exit → Act → World → Prop} {w0 : World} {M0 : Nat → Prop} {ds : List Deferred} {a : Act} {w : World} {l l' : List Value} {bs bs' bs0 : List Item} {fs fs0 : List (World → Prop)}
  {d : Option Nat} {op : Op} {ty : TypeId} {pos : String} {af : Array Edge} {rest : List Oper} {v v' G : Value} {j g : Nat} {pol : Bool} {cs : List Bool} {n : Nat} {listed : Array Bool}
def AT (P : Program) (ops : Array Oper) (C : World → Prop) (R : Act → World → Prop) (t : Tr) (a : Act) (w : World) : Prop :=
  ∀ listed, Region.noSelect ops = true → flowT ops t listed = true → AC P ops C R t.len listed a w
variable {t u x : Tr} {i k : Nat}
theorem tq (S : St w0 M0 ds a w l bs fs) [hb : SubL bs0 bs] [hf : SubL fs0 fs] [ho : OpAt ops i ⟨d, op, ty, pos, af, none⟩] [hq : OpQ P op ty ⟨[], l⟩ bs0 fs0 v] [hp : PutO l d v l']
    (K : ∀ a, St w0 M0 ds a w l' bs fs → AT P ops (fun w => Wd w0 M0 w bs0 fs0) R t a w) :
    AT P ops (fun w => Wd w0 M0 w bs0 fs0) R (.q i t) a w := by
  intro listed hs hflow
  simp only [flowT, Bool.and_eq_true] at hflow
  refine ac_first ho.eq (Region.noSelect_spec hs) _ listed a w (Region.free_spec ho.eq hflow.1.2) (by simpa using hflow.1.1) (v := v) (.inl ⟨rfl, fun w' hw' => ?_⟩) (S.wd.sub hb.sub hf.sub) (K _ S.put _ hs hflow.2)
  rw [execOp_eq]
  exact hq.run a.eval w' S.fr hw'.mem
theorem wn_of {o : Oper} [ho : OpAt ops i o] {K : Act → World → Prop} (h : WL P none ops (fun e a' w' => e = .normal ∧ K a' w') [o] a w) : WN P ops i K a w := by
  unfold WN wpOpIn
  simp only [ho.eq]
  simp only [WL, wpListIn] at h
  split
  · rename_i hw
    rw [if_pos hw] at h
    refine ⟨fun _ _ => trivial, ?_⟩
    have h := h.2
    generalize (o.semAt (FW none).round a.eval).run P w = q at *
    cases q with
    | ok x w' =>
      cases x <;> simp only [Oper.uponIn] at h ⊢
      case value u => exact h.2
      case skip => exact h.2
      case defer d => exact h.2
      case enter f args =>
        refine ⟨h.1, CallsIn.mono h.2 fun e w'' he => ?_⟩
        cases e with
        | returned u => exact he.2
        | panicked c => exact absurd he.1 (by simp)
        | outgrown => obtain ⟨_, _, he, _⟩ := he; exact absurd he (by simp)
      case row row args => exact ⟨h.1, RowsIn.mono h.2 fun u w'' he => he.2⟩
      case round l f tmps assign body =>
        refine ⟨h.1, RoundIn.mono h.2 fun e w'' he => ?_⟩
        cases e with
        | returned u => exact he.2
        | panicked c => exact absurd he.1 (by simp)
        | outgrown => obtain ⟨_, _, he, _⟩ := he; exact absurd he (by simp)
    | halt x w' =>
      cases x <;> simp only [Oper.uponIn] at h ⊢
      case panic u => exact absurd h.1 (by simp)
  · rename_i hw
    rw [if_neg hw] at h
    exact ⟨fun _ _ => trivial, h.2.2⟩
theorem tl {o : Oper} [ho : OpAt ops i o] (h : WL P none ops (fun e a' w' => e = .normal ∧ C w' ∧ AT P ops C R t a' w') [o] a w) : AT P ops C R (.l i t) a w := by
  intro listed hs hflow
  simp only [flowT, Bool.and_eq_true] at hflow
  have hr : Region.ready .any ops listed = [i] := by
    have := hflow.1
    split at this
    · rename_i k hk; rw [hk, Nat.eq_of_beq_eq_true this]
    · cases this
  refine ⟨fun h0 => (by rw [h0] at hr; cases hr), fun k hk => ?_⟩
  rw [hr] at hk
  obtain rfl : k = i := by simpa using hk
  exact wpOpIn_mono (fun a' w' h' => ⟨h'.1, h'.2 _ hs hflow.2⟩) (wn_of h)
theorem tb2 {oi oj : Oper} [hi : OpAt ops i oi] [hj : OpAt ops j oj] (h1 : WL P none ops (fun e a' w' => e = .normal ∧ C w' ∧ AT P ops C R t a' w') [oi] a w) (h2 : WL P none ops (fun e a' w' => e = .normal ∧ C w' ∧ AT P ops C R u a' w') [oj] a w) : AT P ops C R (.b2 i j t u) a w := by
  intro listed hs hflow
  simp only [flowT, Bool.and_eq_true] at hflow
  have hr : Region.ready .any ops listed = [i, j] := by
    have := hflow.1
    split at this
    · rename_i x y hk
      simp only [Bool.and_eq_true] at this
      rw [hk, Nat.eq_of_beq_eq_true this.1, Nat.eq_of_beq_eq_true this.2]
    · cases this
  have hlen := Nat.eq_of_beq_eq_true hflow.2.1
  refine ⟨fun h0 => (by rw [h0] at hr; cases hr), fun k hk => ?_⟩
  rw [hr] at hk
  rcases List.mem_cons.1 hk with rfl | hk
  · exact wpOpIn_mono (fun a' w' h' => ⟨h'.1, h'.2 _ hs hflow.2.2.1⟩) (wn_of h1)
  · obtain rfl := List.mem_singleton.1 hk
    refine wpOpIn_mono (fun a' w' h' => ⟨h'.1, ?_⟩) (wn_of h2)
    have := h'.2 _ hs hflow.2.2.2
    rwa [hlen] at this
theorem tb3 {oi oj ok : Oper} [hi : OpAt ops i oi] [hj : OpAt ops j oj] [hk : OpAt ops k ok] (h1 : WL P none ops (fun e a' w' => e = .normal ∧ C w' ∧ AT P ops C R t a' w') [oi] a w) (h2 : WL P none ops (fun e a' w' => e = .normal ∧ C w' ∧ AT P ops C R u a' w') [oj] a w)
    (h3 : WL P none ops (fun e a' w' => e = .normal ∧ C w' ∧ AT P ops C R x a' w') [ok] a w) : AT P ops C R (.b3 i j k t u x) a w := by
  intro listed hs hflow
  simp only [flowT, Bool.and_eq_true] at hflow
  have hr : Region.ready .any ops listed = [i, j, k] := by
    have := hflow.1
    split at this
    · rename_i x y z hk
      simp only [Bool.and_eq_true] at this
      rw [hk, Nat.eq_of_beq_eq_true this.1, Nat.eq_of_beq_eq_true this.2.1, Nat.eq_of_beq_eq_true this.2.2]
    · cases this
  have hlen := Nat.eq_of_beq_eq_true hflow.2.1
  have hlen2 := Nat.eq_of_beq_eq_true hflow.2.2.1
  refine ⟨fun h0 => (by rw [h0] at hr; cases hr), fun m hm => ?_⟩
  rw [hr] at hm
  rcases List.mem_cons.1 hm with rfl | hm
  · exact wpOpIn_mono (fun a' w' h' => ⟨h'.1, h'.2 _ hs hflow.2.2.2.1⟩) (wn_of h1)
  · rcases List.mem_cons.1 hm with rfl | hm
    · refine wpOpIn_mono (fun a' w' h' => ⟨h'.1, ?_⟩) (wn_of h2)
      have := h'.2 _ hs hflow.2.2.2.2.1
      rwa [hlen] at this
    · obtain rfl := List.mem_singleton.1 hm
      refine wpOpIn_mono (fun a' w' h' => ⟨h'.1, ?_⟩) (wn_of h3)
      have := h'.2 _ hs hflow.2.2.2.2.2
      rwa [hlen2] at this
theorem te [hb : SubL bs0 bs] [hf : SubL fs0 fs] (S : St w0 M0 ds a w l bs fs) (h : AT P ops (fun w => Wd w0 M0 w bs0 fs0) R t a w) : WL P none ops (fun e a' w' => e = .normal ∧ Wd w0 M0 w' bs0 fs0 ∧ AT P ops (fun w => Wd w0 M0 w bs0 fs0) R t a' w') [] a w :=
  wl_nil ⟨rfl, S.wd.sub hb.sub hf.sub, h⟩
theorem tn (h : R a w) : AT P ops C R .e a w := by
  intro listed hs hflow
  have hr : Region.ready .any ops listed = [] := by simpa [flowT] using hflow
  exact ⟨hr, h⟩
theorem ac_mono {R' : Act → World → Prop} (hR : ∀ a w, R a w → R' a w) : ∀ (fuel : Nat) (listed : Array Bool) (a : Act) (w : World), AC P ops C R fuel listed a w → AC P ops C R' fuel listed a w
  | 0, _, _, _, h => ⟨h.1, hR _ _ h.2⟩
  | fuel + 1, _, _, _, h => ⟨fun h0 => hR _ _ (h.1 h0), fun i hi => wpOpIn_mono (fun _ _ h' => ⟨h'.1, ac_mono hR fuel _ _ _ h'.2⟩) (h.2 i hi)⟩
theorem c_drawT {id : Nat} {lo : List Oper} (t : Tr) (bs0 : List Item) (S : St w0 M0 ds a w l bs fs) (I : Act → World → Prop) (h : ∀ w, St w0 M0 ds a w l bs fs → AT P lo.toArray (fun w => Wd w0 M0 w bs0 fs) I t a w)
    (hk : ∀ a w, I a w → Q .normal a w) (hm : P.follows .mixedOrders = true := by kernel_rfl)
    (hd : ((lo.all fun o => !isDefer o.op) && (Nat.beq t.len lo.length && (Region.noSelect lo.toArray && flowT lo.toArray t (Array.replicate lo.length false)))) = true := by kernel_rfl) : Wp P r (.region id lo.toArray true) Q a w := by
  simp only [Bool.and_eq_true] at hd
  refine wpIn_region_any hm (any_of_ac (C := fun w => Wd w0 M0 w bs0 fs) (fun i o ho => ?_) _ _ _ _ ?_)
  · have := List.all_eq_true.1 hd.1 o (by
      rw [List.getElem?_toArray] at ho
      exact List.mem_of_getElem? ho)
    simpa using this
  · have := h { w with drawn := w.drawn + 1 } ⟨S.slots, S.defers, S.wd.step (Agree.drawn _ w _)⟩ _ hd.2.2.1 hd.2.2.2
    rw [Nat.eq_of_beq_eq_true hd.2.1] at this
    simpa using ac_mono hk _ _ _ _ this
theorem c_drawT1 {id : Nat} {lo : List Oper} {l2 : Nat → List Value} {bs2 : Nat → List Item} {fs2 : Nat → List (World → Prop)} (t : Tr) (ids : List Nat) [DropBs bs ids bs0] (S : St w0 M0 ds a w l bs fs) (h : ∀ w, St w0 M0 ds a w l bs fs → AT P lo.toArray (fun w => Wd w0 M0 w bs0 fs) (fun a w => ∃ b, St w0 M0 ds a w (l2 b) (bs2 b) (fs2 b)) t a w)
    (hk : ∀ b a w, St w0 M0 ds a w (l2 b) (bs2 b) (fs2 b) → Q .normal a w) (hm : P.follows .mixedOrders = true := by kernel_rfl)
    (hd : ((lo.all fun o => !isDefer o.op) && (Nat.beq t.len lo.length && (Region.noSelect lo.toArray && flowT lo.toArray t (Array.replicate lo.length false)))) = true := by kernel_rfl) : Wp P r (.region id lo.toArray true) Q a w :=
  c_drawT t _ S _ h (fun a w ⟨b, h⟩ => hk b a w h) hm hd
end
instance opMakeFunc {P ty} {l : Cx} {bs fs} {f : Nat} {fi ca : List Operand} {vs us : List Value} [EvL l fi vs] [EvL l ca us] : OpQ P (.makeFunc (.func f) fi.toArray ca.toArray) ty l bs fs (.func (.func f) ⟨vs⟩ ⟨us⟩) := ⟨fun ρ w h _ => by
  have e1 := h.evl (xs := fi) (vs := vs)
  have e2 := h.evl (xs := ca) (vs := us)
  simp [xop, execOp, e1, e2, Instr.makeFunc]⟩
section
variable {P : Program} {r : Option Nat} {ops : Array Oper} {Q : Exit → Act → World → Prop} {w0 : World} {M0 : Nat → Prop} {ds : List Deferred} {a : Act} {w : World} {l : List Value} {bs bs' : List Item} {fs fs0 : List (World → Prop)}
  {d : Option Nat} {op : Op} {ty : TypeId} {pos : String} {af : Array Edge} {rest : List Oper} {ts : Array TypeId}
theorem sy {x : Operand} {xs : List Operand} {L : Nat} {vs : List Value} {l' : Bool → List Value} {wI : World} {M : Nat → Prop} {J Jx : World → Prop} [hx : Ev ⟨[], l⟩ x (.func (.yield L) #[] #[])] [hv : EvL ⟨[], l⟩ xs vs] [hp : ∀ b : Bool, PutO l d (.bool b) (l' b)]
    (S : St w0 M0 ds a w l bs fs) (hF : ∀ Φ ∈ fs0, Stable M wI Φ)
    (hy : YieldAt (FW none) 0 P L vs.toArray w fun e W' => Agree M wI W' ∧ ((e = .returned (.bool true) ∧ J W') ∨ (e = .returned (.bool false) ∧ Jx W')))
    (K : ∀ (b : Bool) (N : Nat → Prop) a W, (b = true → J W) → (b = false → Jx W) → St W (fun _ => False) ds a W (l' b) [ext N] fs0 → WL P r ops Q rest a W) :
    WL P r ops Q (⟨d, .call { callee := .value x, args := xs.toArray, argTypes := ts }, ty, pos, af, none⟩ :: rest) a w := by
  refine wl_plain rfl ?_
  rw [semAt_nd rfl]
  obtain ⟨fn, tmps, assign, body, hrun, hround⟩ := hy
  have hf : a.eval x = .func (.yield L) #[] #[] := S.fr.ev
  have e := S.fr.evl (xs := xs) (vs := vs)
  have e1 : (xop a.eval (.call { callee := .value x, args := xs.toArray, argTypes := ts }) ty).run P w = .ok (.round L fn tmps assign body) w := by
    rw [← hrun]
    simp [xop, execOp, resolve, hf, Deferred.ofValue, invoke, e]
  simp only [e1, Oper.uponIn]
  refine ⟨fun h => (by cases h), RoundIn.mono hround ?_⟩
  have key : ∀ (b : Bool) (W : World), Agree M wI W → (b = true → J W) → (b = false → Jx W) → WL P r ops Q rest (a.put d (.bool b)) W := fun b W hag h1 h2 => by
    have := hp b
    have S' := S.put (d := d) (v := .bool b)
    refine K b (fun k => (M k ∨ wI.heap.size ≤ k) ∧ k < W.heap.size) _ W h1 h2 ⟨S'.slots, S'.defers, Wd.beginM (fun k hk => hk.2) fun Φ hΦ w'' hw'' => hF Φ hΦ w'' (hag.trans' hw'' fun i hi hk => ?_)⟩
    rcases hk.1 with h | h
    · exact h
    · omega
  rintro e W ⟨hag, ⟨rfl, hJ⟩ | ⟨rfl, hJ⟩⟩
  · exact key true W hag (fun _ => hJ) (fun h => by cases h)
  · exact key false W hag (fun h => by cases h) (fun _ => hJ)
class EvB (l : Cx) (x : Option Operand) (dflt : Nat) (v : outParam Nat) : Prop where
  eq : (x = none ∧ v = dflt) ∨ ∃ o kk, x = some o ∧ Ev l o (.int kk (v : Int))
instance evb0 {l : Cx} {n : Nat} : EvB l none n n := ⟨.inl ⟨rfl, rfl⟩⟩
instance evb1 {l : Cx} {x : Operand} {n m : Nat} {kk : IntKind} {mi : Int} [h : Ev l x (.int kk mi)] [hm : IsNat mi m] : EvB l (some x) n m := ⟨.inr ⟨x, kk, rfl, by have := hm.eq; subst this; exact h⟩⟩
theorem run_sliceBound {P : Program} {kk : IntKind} {v y : Nat} (h : v ≤ y) (code : BoundsCode) (w : World) : (Instr.sliceBound (.int kk (v : Int)) y code).run P w = .ok v w := by
  simp [Instr.sliceBound, asIntOf, h]
theorem ssl {x : Operand} {ol oh om : Option Operand} {t e : TypeId} {z : Value} {sz by_ n c lo hi mx : Nat} {p : Option Addr} {l' : List Value} (S : St w0 M0 ds a w l bs fs) [Ev ⟨[], l⟩ x (.slice p n c)] [hl : EvB ⟨[], l⟩ ol 0 lo] [hh : EvB ⟨[], l⟩ oh n hi] [hx : EvB ⟨[], l⟩ om c mx] [Und P t (.slice e)] [TI P e z sz by_]
    [hp : PutO l d (.slice (if mx = lo then p else p.map (·.add (lo * sz))) (hi - lo) (mx - lo)) l'] (h1 : mx ≤ c) (h2 : hi ≤ mx) (h3 : lo ≤ hi) (K : ∀ a, St w0 M0 ds a w l' bs fs → WL P r ops Q rest a w) (hxh : om.isSome = true → oh.isSome = true := by simp) :
    WL P r ops Q (⟨d, .slice t x ol oh om, ty, pos, af, none⟩ :: rest) a w := by
  refine sv (.slice (if mx = lo then p else p.map (·.add (lo * sz))) (hi - lo) (mx - lo)) S (fun hf => ?_) K
  have hsz := run_size (P := P) (t := e) (z := z) (s := sz) (b := by_) w
  have eX : a.eval x = .slice p n c := hf.ev
  have hb : (Instr.sliceBounds true n c (ol.map a.eval) (oh.map a.eval) (om.map a.eval)).run P w = .ok (lo, hi, mx) w := by
    rcases hx.eq with ⟨rfl, rfl⟩ | ⟨o, kk, rfl, h⟩
    · rcases hh.eq with ⟨rfl, rfl⟩ | ⟨o2, kk2, rfl, h'⟩
      · rcases hl.eq with ⟨rfl, rfl⟩ | ⟨o3, kk3, rfl, h''⟩
        · simp [Instr.sliceBounds]
        · have e3 := hf.ev (x := o3) (v := .int kk3 (lo : Int))
          simp [Instr.sliceBounds, e3, run_sliceBound h3]
      · have e2 := hf.ev (x := o2) (v := .int kk2 (hi : Int))
        have h2' : hi ≤ mx := h2
        rcases hl.eq with ⟨rfl, rfl⟩ | ⟨o3, kk3, rfl, h''⟩
        · simp [Instr.sliceBounds, e2, run_sliceBound h2']
        · have e3 := hf.ev (x := o3) (v := .int kk3 (lo : Int))
          simp [Instr.sliceBounds, Sem.run_bind, e2, e3, run_sliceBound h2', run_sliceBound h3]
    · have e1 := hf.ev (x := o) (v := .int kk (mx : Int))
      rcases hh.eq with ⟨rfl, rfl⟩ | ⟨o2, kk2, rfl, h'⟩
      · exact absurd (hxh rfl) (by simp)
      · have e2 := hf.ev (x := o2) (v := .int kk2 (hi : Int))
        rcases hl.eq with ⟨rfl, rfl⟩ | ⟨o3, kk3, rfl, h''⟩
        · simp [Instr.sliceBounds, Sem.run_bind, e1, e2, run_sliceBound h1, run_sliceBound h2]
        · have e3 := hf.ev (x := o3) (v := .int kk3 (lo : Int))
          simp [Instr.sliceBounds, Sem.run_bind, e1, e2, e3, run_sliceBound h1, run_sliceBound h2, run_sliceBound h3]
  have key : (Instr.slice t (.slice p n c) (ol.map a.eval) (oh.map a.eval) (om.map a.eval)).run P w = .ok (.slice (if mx = lo then p else p.map (·.add (lo * sz))) (hi - lo) (mx - lo)) w := by
    simp only [Instr.slice, Sem.run_bind, run_und, Result.andThen_ok, hb, hsz, Sem.run_pure]
  simp only [xop, execOp, Instr.sliceAt, eX, Sem.run_bind, run_und, Result.andThen_ok, Sem.run_pure]
  simp [key]
theorem LsIn.drop {w : World} {p : Option Addr} : ∀ {i : Nat} {ts : List LTerm} (k : Nat), LsIn w p i ts → LsIn w p (i + k) (ts.drop k)
  | i, ts, 0, h => h
  | i, [], k + 1, h => by simp [LsIn]
  | i, t :: ts, k + 1, h => by
    have := LsIn.drop (i := i + 1) k h.2.2
    rw [show i + 1 + k = i + (k + 1) from by omega] at this
    exact this
theorem LsIn.shift {w : World} {ad : Addr} : ∀ {i : Nat} {ts : List LTerm} (k : Nat), LsIn w (some ad) (k + i) ts → LsIn w (some (ad.add (k * 5))) i ts
  | i, [], k, h => by simp [LsIn]
  | i, t :: ts, k, h => by
    obtain ⟨⟨ad', he, hc⟩, ht, hr⟩ := h
    cases he
    refine ⟨⟨_, rfl, fun j v hj => ?_⟩, ht, LsIn.shift k hr⟩
    rw [add_add, show k * 5 + (i * 5 + j) = (k + i) * 5 + j from by omega]
    exact hc j v hj
theorem LsIn.cut {w : World} {p : Option Addr} {ts : List LTerm} {lo mx : Nat} (h : LsIn w p 0 ts) (hm : ts.length ≤ mx) : LsIn w (if mx = lo then p else p.map (·.add (lo * 5))) 0 (ts.drop lo) := by
  by_cases hd : ts.drop lo = []
  · rw [hd]; simp [LsIn]
  · have hlo : lo < ts.length := by
      rcases Nat.lt_or_ge lo ts.length with h | h
      · exact h
      · exact absurd (List.drop_of_length_le h) hd
    rw [if_neg (by omega)]
    cases p with
    | none =>
      cases ts with
      | nil => simp at hd
      | cons t ts => obtain ⟨⟨ad, h1, _⟩, _⟩ := h; cases h1
    | some ad =>
      have := LsIn.drop lo h
      rw [Nat.zero_add] at this
      exact LsIn.shift (i := 0) lo (by simpa using this)
theorem c_scope {c : Code} (h : Wp P r c (Exit.noGoto Q) a w) : Wp P r (.scope c) Q a w := by
  intro b k cs hro hb hr
  have h0 : (lone (b.atR a (.code (.scope c) :: k)) cs w).fenced P (FW r) := fenced_calm hb hr rfl
  have s1 : step P (lone (b.atR a (.code (.scope c) :: k)) cs w) = .next (lone (b.atR a (.code c :: .inScope c :: k)) cs w) := step_lone_go (by simp [stepG, stepG.exec, Frame.atR])
  have s2 : ∀ (a : Act) (w : World), step P (lone (b.atR a (.inScope c :: k)) cs w) = .next (lone (b.atR a k) cs w) := fun a w => step_lone_go (by simp [stepG, stepG.exec, Frame.atR])
  obtain ⟨e, a₁, w₁, hq, harr⟩ := h b (.inScope c :: k) cs hro hb hr
  cases e with
  | normal => exact ⟨.normal, a₁, w₁, hq, .head h0 s1 (StepsIn.trans harr (.one (fenced_calm hb hr rfl) (s2 _ _)))⟩
  | exit id =>
    have hx : exitTo id (.inScope c :: k) = exitTo id k := by simp [exitTo]
    exact ⟨.exit id, a₁, w₁, hq, fun k' hk => .head h0 s1 (harr.1 k' (by rw [hx]; exact hk)), fun hr' hk => let ⟨k₁, h1, h2⟩ := harr.2 hr' (by rw [hx]; exact hk); ⟨k₁, h1, .head h0 s1 h2⟩⟩
  | goto l => exact hq.elim
  | ret => exact ⟨_, a₁, w₁, hq, .of_steps (.one h0 s1) harr⟩
  | panic ch => exact ⟨_, a₁, w₁, hq, .of_steps (.one h0 s1) harr⟩
  | outgrown => exact ⟨_, a₁, w₁, hq, .of_steps (.one h0 s1) harr⟩
theorem xsr (h : Q .ret a w) : Exit.noGoto Q .ret a w := h
def Item.ro (x : Item) : Item := { x with own := false }
theorem St.toRo {x : Item} (S : St w0 M0 ds a w l bs fs) [hr : ReplI bs x x.ro bs'] : St w0 M0 ds a w l bs' fs := by
  obtain ⟨pre, post, rfl, rfl⟩ := hr.ex
  have h := S.wd
  have key : ∀ it, it ∈ pre ++ x.ro :: post → ∃ y, y ∈ pre ++ x :: post ∧ y.foot = it.foot ∧ y.holds = it.holds ∧ (it.own = true → y.own = true) := fun it hi => by
    rcases List.mem_append.1 hi with hi | hi
    · exact ⟨it, by simp [hi], rfl, rfl, id⟩
    · rcases List.mem_cons.1 hi with rfl | hi
      · exact ⟨x, by simp, rfl, rfl, fun h => by cases h⟩
      · exact ⟨it, by simp [hi], rfl, rfl, id⟩
  have hfe : foots (pre ++ x.ro :: post) = foots (pre ++ x :: post) := foots_repl rfl
  refine ⟨S.slots, S.defers, h.agree, ?_, ?_, ?_, ?_, ?_, ?_⟩
  · intro it hi; obtain ⟨y, hy, _, h2, _⟩ := key it hi; rw [← h2]; exact h.held y hy
  · intro it hi k hk; obtain ⟨y, hy, h1, _, _⟩ := key it hi; exact h.lt y hy k (h1 ▸ hk)
  · intro it hi ho k hk; obtain ⟨y, hy, h1, _, h3⟩ := key it hi; exact h.own y hy (h3 ho) k (h1 ▸ hk)
  · have hap := List.pairwise_append.1 h.apart
    have hap2 := List.pairwise_cons.1 hap.2.1
    exact List.pairwise_append.2 ⟨hap.1, List.pairwise_cons.2 hap2, fun u hu y hy => by
      rcases List.mem_cons.1 hy with rfl | hy
      · exact hap.2.2 u hu x (by simp)
      · exact hap.2.2 u hu y (by simp [hy])⟩
  · intro Φ hΦ; rw [hfe]; exact h.facts Φ hΦ
  · intro it hi w1 w2 hk hh; obtain ⟨y, hy, h1, h2, _⟩ := key it hi; rw [← h2] at hh ⊢; exact h.loc y hy w1 w2 (fun k hk' => hk k (h1 ▸ hk')) hh
theorem St.unRo {x : Item} (S : St w0 M0 ds a w l bs fs) [hr : ReplI bs x.ro x bs'] (hown : ∀ k, x.foot k → M0 k ∨ w0.heap.size ≤ k) : St w0 M0 ds a w l bs' fs := by
  obtain ⟨pre, post, rfl, rfl⟩ := hr.ex
  have h := S.wd
  have key : ∀ it, it ∈ pre ++ x :: post → ∃ y, y ∈ pre ++ x.ro :: post ∧ y.foot = it.foot ∧ y.holds = it.holds ∧ (it = x ∨ y.own = it.own) := fun it hi => by
    rcases List.mem_append.1 hi with hi | hi
    · exact ⟨it, by simp [hi], rfl, rfl, .inr rfl⟩
    · rcases List.mem_cons.1 hi with rfl | hi
      · exact ⟨it.ro, by simp, rfl, rfl, .inl rfl⟩
      · exact ⟨it, by simp [hi], rfl, rfl, .inr rfl⟩
  have hfe : foots (pre ++ x :: post) = foots (pre ++ x.ro :: post) := foots_repl rfl
  refine ⟨S.slots, S.defers, h.agree, ?_, ?_, ?_, ?_, ?_, ?_⟩
  · intro it hi; obtain ⟨y, hy, _, h2, _⟩ := key it hi; rw [← h2]; exact h.held y hy
  · intro it hi k hk; obtain ⟨y, hy, h1, _, _⟩ := key it hi; exact h.lt y hy k (h1 ▸ hk)
  · intro it hi ho k hk
    obtain ⟨y, hy, h1, _, h3⟩ := key it hi
    rcases h3 with rfl | h3
    · exact hown k hk
    · exact h.own y hy (h3 ▸ ho) k (h1 ▸ hk)
  · have hap := List.pairwise_append.1 h.apart
    have hap2 := List.pairwise_cons.1 hap.2.1
    exact List.pairwise_append.2 ⟨hap.1, List.pairwise_cons.2 hap2, fun u hu y hy => by
      rcases List.mem_cons.1 hy with rfl | hy
      · exact hap.2.2 u hu y.ro (by simp)
      · exact hap.2.2 u hu y (by simp [hy])⟩
  · intro Φ hΦ; rw [hfe]; exact h.facts Φ hΦ
  · intro it hi w1 w2 hk hh; obtain ⟨y, hy, h1, h2, _⟩ := key it hi; rw [← h2] at hh ⊢; exact h.loc y hy w1 w2 (fun k hk' => hk k (h1 ▸ hk')) hh
end
theorem St.boxNew {w0 M0 ds a w l bs fs} (S : St w0 M0 ds a w l bs fs) (b : Nat) {t : TypeId} {cs : List Value} [h : HasBox bs b t cs] : M0 b ∨ w0.heap.size ≤ b := S.wd.own _ h.mem rfl b rfl
instance isnatL0 : IsNat 0 0 := ⟨rfl⟩
instance isnatL1 : IsNat 1 1 := ⟨rfl⟩
theorem endI {P : Program} {fn : Func} {R : World → Prop} {w0 : World} {M0 : Nat → Prop} {a : Act} {w : World} {l : List Value} {bs : List Item} {fs : List (World → Prop)} {e : Exit} [hr : FnRes fn []] (S : St w0 M0 [] a w l bs fs) (h : R w) (he : e = .ret ∨ e = .normal := by simp) :
    bodyPost P fn (fun e w' => (∃ v, e = .returned v) ∧ R w') e a w := by
  have hv : (results fn l.toArray).run P w = .ok (.tuple #[]) w := by rw [results_eq (rs := [])]; simp
  rw [← S.slots] at hv
  rcases he with rfl | rfl
  · exact bodyPost_ret hv S.defers ⟨⟨_, rfl⟩, h⟩
  · exact bodyPost_end hv S.defers ⟨⟨_, rfl⟩, h⟩
instance (priority := 100) mulnAny {i s : Nat} : MulN i s (i * s) := ⟨rfl⟩
theorem LsIn.nil_of {w : World} {i : Nat} {xs : List LTerm} (h : LsIn w none i xs) : xs = [] := by
  cases xs with
  | nil => rfl
  | cons x xs => obtain ⟨⟨ad, h0, _⟩, _⟩ := h; cases h0
section
variable {P : Program} {ty : TypeId} {l : Cx} {bs : List Item} {fs : List (World → Prop)} {x y : Operand} {t e : TypeId}
instance opCapSl {p : Option Addr} {a c : Nat} [Ev l x (.slice p a c)] [Und P t (.slice e)] : OpQ P (.call { callee := .builtin .cap, args := #[x], argTypes := #[t] }) ty l bs fs (.int .i64 c) := ⟨fun ρ w h _ => by
  simp [xop, execOp, resolve, invoke, builtin, Builtin.cap_, h.ev (x := x) (v := .slice p a c), Sem.run_bind, run_und, goInt]⟩
instance (priority := 960) opIdxB {lc : Cx} {b n c k o : Nat} {kk : IntKind} {m : Int} {z : Value} {sz by_ : Nat} [Ev lc x (.slice (some ⟨b, 0, none⟩) n c)] [Ev lc y (.int kk m)] [Und P t (.slice e)] [TI P e z sz by_] [hm : IsNat m k] [hk : KLt k n] [hmul : MulN k sz o] :
    OpQ P (.indexAddr t x y) ty lc bs fs (.pointer (some ⟨b, o, none⟩)) := ⟨fun ρ w h mm => by
  have hlt := hk.lt
  have h2 := hm.eq
  subst h2
  have he : (⟨b, 0, none⟩ : Addr).add (k * sz) = ⟨b, o, none⟩ := by rw [hmul.eq, add_lit]
  simp [xop, execOp, h.ev (x := x) (v := .slice (some ⟨b, 0, none⟩) n c), h.ev (x := y) (v := .int kk (k : Int))]
  simp [run_indexAt (P := P) (t := t) (e := e) (z := z) (sz := sz) (by_ := by_) (Int.natCast_nonneg k) (Int.ofNat_lt.2 hlt), he]⟩
class LeC (a b : Nat) : Prop where le : a ≤ b
instance (priority := 1100) lec0 {a : Nat} : LeC a a := ⟨Nat.le_refl _⟩
class HiOk (om oh : Option Operand) : Prop where ok : om.isSome = true → oh.isSome = true
instance hiok0 {oh : Option Operand} : HiOk none oh := ⟨fun h => by cases h⟩
instance hiok1 {om : Option Operand} {x : Operand} : HiOk om (some x) := ⟨fun _ => rfl⟩
end
section
variable {P : Program} {r : Option Nat} {ops : Array Oper} {Q : Exit → Act → World → Prop} {w0 : World} {M0 : Nat → Prop} {ds : List Deferred} {a : Act} {w : World} {l : List Value} {bs bs' : List Item} {fs : List (World → Prop)}
  {d : Option Nat} {op : Op} {ty : TypeId} {pos : String} {af : Array Edge} {rest : List Oper} {v : Value} {t e : TypeId} {sz by_ n c : Nat} {z : Value} {p : Option Addr} {xs : List Value} {x y : Operand}
theorem add_lit_off (g o j : Nat) : (⟨g, o, none⟩ : Addr).add j = ⟨g, o + j, none⟩ := by unfold Addr.add; split <;> simp_all
theorem run_cut {ρ : Operand → Value} {lc : Cx} {ol oh om : Option Operand} {lo hi mx : Nat} [Ev lc x (.slice p n c)] [hl : EvB lc ol 0 lo] [hh : EvB lc oh n hi] [hx : EvB lc om c mx] [Und P t (.slice e)] [TI P e z sz by_] (hf : Fr ρ lc)
    (h1 : mx ≤ c) (h2 : hi ≤ mx) (h3 : lo ≤ hi) (hxh : om.isSome = true → oh.isSome = true) (w : World) :
    (xop ρ (.slice t x ol oh om) ty).run P w = .ok (.value (.slice (if mx = lo then p else p.map (·.add (lo * sz))) (hi - lo) (mx - lo))) w := by
  have hsz := run_size (P := P) (t := e) (z := z) (s := sz) (b := by_) w
  have eX : ρ x = .slice p n c := hf.ev
  have hb : (Instr.sliceBounds true n c (ol.map ρ) (oh.map ρ) (om.map ρ)).run P w = .ok (lo, hi, mx) w := by
    rcases hx.eq with ⟨rfl, rfl⟩ | ⟨o, kk, rfl, h⟩
    · rcases hh.eq with ⟨rfl, rfl⟩ | ⟨o2, kk2, rfl, h'⟩
      · rcases hl.eq with ⟨rfl, rfl⟩ | ⟨o3, kk3, rfl, h''⟩
        · simp [Instr.sliceBounds]
        · have e3 := hf.ev (x := o3) (v := .int kk3 (lo : Int))
          simp [Instr.sliceBounds, e3, run_sliceBound h3]
      · have e2 := hf.ev (x := o2) (v := .int kk2 (hi : Int))
        have h2' : hi ≤ mx := h2
        rcases hl.eq with ⟨rfl, rfl⟩ | ⟨o3, kk3, rfl, h''⟩
        · simp [Instr.sliceBounds, e2, run_sliceBound h2']
        · have e3 := hf.ev (x := o3) (v := .int kk3 (lo : Int))
          simp [Instr.sliceBounds, Sem.run_bind, e2, e3, run_sliceBound h2', run_sliceBound h3]
    · have e1 := hf.ev (x := o) (v := .int kk (mx : Int))
      rcases hh.eq with ⟨rfl, rfl⟩ | ⟨o2, kk2, rfl, h'⟩
      · exact absurd (hxh rfl) (by simp)
      · have e2 := hf.ev (x := o2) (v := .int kk2 (hi : Int))
        rcases hl.eq with ⟨rfl, rfl⟩ | ⟨o3, kk3, rfl, h''⟩
        · simp [Instr.sliceBounds, Sem.run_bind, e1, e2, run_sliceBound h1, run_sliceBound h2]
        · have e3 := hf.ev (x := o3) (v := .int kk3 (lo : Int))
          simp [Instr.sliceBounds, Sem.run_bind, e1, e2, e3, run_sliceBound h1, run_sliceBound h2, run_sliceBound h3]
  have key : (Instr.slice t (.slice p n c) (ol.map ρ) (oh.map ρ) (om.map ρ)).run P w = .ok (.slice (if mx = lo then p else p.map (·.add (lo * sz))) (hi - lo) (mx - lo)) w := by
    simp only [Instr.slice, Sem.run_bind, run_und, Result.andThen_ok, hb, hsz, Sem.run_pure]
  simp only [xop, execOp, Instr.sliceAt, eX, Sem.run_bind, run_und, Result.andThen_ok, Sem.run_pure]
  simp [key]
instance (priority := 700) opSliceQ {lc : Cx} {ol oh om : Option Operand} {lo hi mx : Nat} [Ev lc x (.slice p n c)] [EvB lc ol 0 lo] [EvB lc oh n hi] [EvB lc om c mx] [Und P t (.slice e)] [TI P e z sz by_] [h1 : LeC mx c] [h2 : LeC hi mx] [h3 : LeC lo hi] [h4 : HiOk om oh] :
    OpQ P (.slice t x ol oh om) ty lc bs fs (.slice (if mx = lo then p else p.map (·.add (lo * sz))) (hi - lo) (mx - lo)) := ⟨fun _ρ w h _ => run_cut h h1.le h2.le h3.le h4.ok w⟩
theorem sapz {tn : TypeId} {kn k : IntKind} {m : Nat} {mi : Int} {l' : Nat → Nat → List Value} (S : St w0 M0 ds a w l bs fs) [Ev ⟨[], l⟩ x (.slice none 0 0)] [Ev ⟨[], l⟩ y (.int k mi)] [hm : IsNat mi m] [ht : Und P t (.slice e)] [htn : Und P tn (.int kn)] [hti : TI P e z sz by_] {zc : List Value} [hzc : Cells z zc] [hzl : LenIs zc sz]
    [hp : ∀ b c, PutO l d (.slice (some ⟨b, 0, none⟩) m c) (l' b c)] (h0 : 0 < m) (hs : 0 < sz) (h63 : m ≤ maxLen) (h48 : m * by_ ≤ 140737488355328)
    (K : ∀ b c zs a w, St w0 M0 ds a w (l' b c) (row e sz (some ⟨b, 0, none⟩) m c zs :: bs) fs → WL P r ops Q rest a w) :
    WL P r ops Q (⟨d, .call { callee := .builtin .append, args := #[x, y], argTypes := #[t, tn] }, ty, pos, af, none⟩ :: rest) a w := by
  refine wl_plain rfl ?_
  rw [semAt_nd rfl]
  obtain ⟨i, hi, hz', hsize, hby⟩ := hti.ex
  subst hsize hby
  have hmm := hm.eq
  subst hmm
  have h63' := h63
  have hzs : z.cells.size = i.size := by rw [← Array.length_toList, hzc.eq, hzl.eq]
  have hrun := Lib.run_append_nil_zeros (P := P) w t tn ty e i z k kn ht.eq htn.eq hi hz' m h0 hs (by unfold maxLen at h63; omega) (by omega)
  have e1 : (xop a.eval (.call { callee := .builtin .append, args := #[x, y], argTypes := #[t, tn] }) ty).run P w = .ok (.value (.slice (some ⟨w.heap.size, 0, none⟩) m (grownCap w m 0 e))) (w.drew.alloc (.cells (Builtin.zeroCells z.cells m ++ Builtin.zeroCells z.cells (grownCap w m 0 e - m)) e)) := by
    simp [xop, execOp, resolve, invoke, builtin, S.fr.ev (x := x) (v := .slice none 0 0), S.fr.ev (x := y) (v := .int k (m : Int)), Sem.run_bind, hrun]
  simp only [e1, Oper.uponIn]
  have := hp w.heap.size (grownCap w m 0 e)
  have S' := S.put (d := d) (v := .slice (some ⟨w.heap.size, 0, none⟩) m (grownCap w m 0 e))
  have hge := grownCap_ge w m 0 e
  have hgrow : Grow w (w.drew.alloc (.cells (Builtin.zeroCells z.cells m ++ Builtin.zeroCells z.cells (grownCap w m 0 e - m)) e)) := (Agree.drawn _ w _).trans (Agree.alloc _ w.drew _)
  refine K _ _ ((Builtin.zeroCells z.cells m).toList) _ _ ⟨S'.slots, S'.defers, S'.wd.addRow hgrow (e := e) (sz := i.size) ⟨?_, .inr ⟨w.heap.size, _, _, rfl, Nat.zero_le _, heap_alloc_new w.drew _, hge, grownCap_le_maxLen w m 0 e h63', ?_, ?_⟩⟩ (fun ad h => by cases h; exact Nat.le_refl _)⟩
  · rw [Array.length_toList, size_zeroCells, hzs]
  · rw [Array.size_append, size_zeroCells, size_zeroCells, hzs, ← Nat.add_mul]; congr 1; omega
  · rw [Array.toList_append]
    have : (Builtin.zeroCells z.cells m).toList.length = m * i.size := by rw [Array.length_toList, size_zeroCells, hzs]
    rw [← this]; exact List.take_left
theorem sapr {i j m cy : Nat} {q : Option Addr} {tx e' : TypeId} {l' : List Value} (p : Option Addr) (n : Nat) (S : St w0 M0 ds a w l bs fs) {c : Nat} {xs : List Value} [hr : HasRow bs p n e sz c xs] [Ev ⟨[], l⟩ x (.slice p i c)] [Ev ⟨[], l⟩ y (.slice q m cy)] [ht : Und P t (.slice e)] [htx : Und P tx (.slice e')] [hti : TI P e z sz by_] [hfl : FlatR xs]
    [hp : PutO l d (.slice p (i + m) c) l'] [hrep : ReplI bs (row e sz p n c xs) (row e sz p (i + m) c (xs.take (i * sz) ++ xs.drop (j * sz))) bs'] (hq : q = if c = j then p else p.map (·.add (j * sz))) (hm : m = n - j) (hij : i ≤ j) (hj : j ≤ n) (hn : 0 < n)
    (K : ∀ a w, St w0 M0 ds a w l' bs' fs → WL P r ops Q rest a w) :
    WL P r ops Q (⟨d, .call { callee := .builtin .append, args := #[x, y], argTypes := #[t, tx] }, ty, pos, af, none⟩ :: rest) a w := by
  refine wl_plain rfl ?_
  rw [semAt_nd rfl]
  obtain ⟨ii, hi, hz', hsize, hby⟩ := hti.ex
  subst hsize hby
  have hrow := S.row p n
  obtain ⟨g, cur, hpp, hg, hnc, hcs, htk, hcm⟩ := own_cells hrow hn
  have hxl := hrow.1
  have hnl : (xs.drop (j * ii.size)).length = m * ii.size := by rw [List.length_drop, hxl, hm, Nat.sub_mul]
  have hjn := Nat.mul_le_mul_right ii.size hj
  have hijn := Nat.mul_le_mul_right ii.size hij
  have hncn := Nat.mul_le_mul_right ii.size hnc
  have hxc : ∀ k u, xs[k]? = some u → cur[k]? = some u := fun k u hk => by
    rw [← htk, List.getElem?_take] at hk
    split at hk
    · simpa using hk
    · cases hk
  have hs : Src P ii.size tx (.slice q m cy) m (xs.drop (j * ii.size)) w := by
    by_cases hcj : c = j
    · rw [if_pos hcj, hpp] at hq
      subst hq
      have h0 : xs.drop (j * ii.size) = [] := by
        have h00 : n - j = 0 := by omega
        refine List.eq_nil_of_length_eq_zero ?_
        rw [hnl, hm, h00, Nat.zero_mul]
      exact Src.ofSlice w htx.eq _ _ _ _ hnl (fun k u hk => by rw [h0] at hk; simp at hk) (fun u hu => hfl.all u (List.mem_of_mem_drop hu))
    · rw [if_neg hcj, hpp] at hq
      subst hq
      refine Src.ofSlice w htx.eq _ _ _ _ hnl (fun k u hk => ?_) (fun u hu => hfl.all u (List.mem_of_mem_drop hu))
      show w.cell? (((⟨g, 0, none⟩ : Addr).add (j * ii.size)).add k) = some u
      rw [add_lit, add_lit_off, cell_of_row w g _ cur e (0, 0) hg]
      rw [List.getElem?_drop] at hk
      exact hxc _ _ hk
  have hroom : i + m ≤ c := by omega
  have him : (i + m) * ii.size ≤ c * ii.size := Nat.mul_le_mul_right _ hroom
  have hcell : ∀ k, w.cell? ⟨g, k, none⟩ = cur[k]? := fun k => cell_of_row w g k cur e (0, 0) hg
  have hb0 : ∀ k, k < (xs.drop (j * ii.size)).length → i * ii.size + k < cur.size := fun k hk => by
    rw [hnl] at hk
    rw [hcs]
    rw [Nat.add_mul] at him
    omega
  have hrun := run_append_room_src (P := P) w t tx ty e ii ht.eq hi g 0 i c (.slice q m cy) m _ hs hroom
    (fun k hk => by simp only [Nat.zero_add]; rw [hcell]; simpa using hb0 k hk) (fun k hk => by simp [World.frozen?, hg])
  simp only [Nat.zero_add] at hrun
  have hfit2 : i * ii.size + (xs.drop (j * ii.size)).length ≤ cur.size := by rw [hnl, hcs, ← Nat.add_mul]; exact him
  have hsc : w.setCells g (i * ii.size) (xs.drop (j * ii.size)) = w.setRow g ((cur.toList.take (i * ii.size) ++ xs.drop (j * ii.size) ++ cur.toList.drop (i * ii.size + (xs.drop (j * ii.size)).length)).toArray) := by
    have h1 := run_storeCells_cells (P := P) g (i * ii.size) (xs.drop (j * ii.size)) 0 w (fun k hk => by rw [hcell]; simpa using hb0 k hk) (fun k hk => by simp [World.frozen?, hg]) hs.one
    have h2 := run_storeCells_at (P := P) g (i * ii.size) e (xs.drop (j * ii.size)) 0 cur w hg (by simpa using hfit2) hs.one
    rw [h1] at h2
    simp only [Nat.add_zero] at h2
    injection h2
  rw [hsc] at hrun
  have e1 : (xop a.eval (.call { callee := .builtin .append, args := #[x, y], argTypes := #[t, tx] }) ty).run P w = .ok (.value (.slice p (i + m) c)) (w.setRow g ((cur.toList.take (i * ii.size) ++ xs.drop (j * ii.size) ++ cur.toList.drop (i * ii.size + (xs.drop (j * ii.size)).length)).toArray)) := by
    have ex := S.fr.ev (x := x) (v := .slice p i c)
    rw [hpp] at ex
    simp [xop, execOp, resolve, invoke, builtin, ex, S.fr.ev (x := y) (v := .slice q m cy), Sem.run_bind, hrun, hpp]
  simp only [e1, Oper.uponIn]
  have S' := S.put (d := d) (v := .slice p (i + m) c) (l' := l')
  have hti' : cur.toList.take (i * ii.size) = xs.take (i * ii.size) := by
    rw [← htk, List.take_take, Nat.min_eq_left (by omega)]
  have hlen : (xs.take (i * ii.size) ++ xs.drop (j * ii.size)).length = (i + m) * ii.size := by
    rw [List.length_append, List.length_take, hnl, hxl, Nat.min_eq_left (by omega), Nat.add_mul]
  have hown : (w.setRow g ((cur.toList.take (i * ii.size) ++ xs.drop (j * ii.size) ++ cur.toList.drop (i * ii.size + (xs.drop (j * ii.size)).length)).toArray)).ownsRow 0 e ii.size (.slice p (i + m) c) (i + m) (xs.take (i * ii.size) ++ xs.drop (j * ii.size)) := by
    subst hpp
    refine ⟨hlen, .inr ⟨g, c, _, rfl, Nat.zero_le _, setRow_heap w g cur _ e _ hg, hroom, hcm, ?_, ?_⟩⟩
    · simp only [List.size_toArray, List.length_append, List.length_take, List.length_drop, Array.length_toList]
      rw [List.length_drop] at hfit2
      omega
    · simp only
      rw [hti', ← hlen]
      exact List.take_left
  refine K _ _ (S.reput S'.slots S'.defers (hr := hrep) rfl (Agree.setRow w g _ ⟨_, hpp, rfl⟩) hown (fun k h => .inl h) (row_foot_lt hown) (row_loc _ _ _ _ _ _))
theorem sclr {k m cy : Nat} {q : Option Addr} {l' : List Value} (p : Option Addr) (m' : Nat) (S : St w0 M0 ds a w l bs fs) {c : Nat} {xs : List Value} [hr : HasRow bs p m' e sz c xs] [Ev ⟨[], l⟩ y (.slice q k cy)] [ht : Und P t (.slice e)] [hti : TI P e z sz by_] {zc : List Value} [hzc : Cells z zc] [hfl : Flat zc] [hzl : LenIs zc sz]
    [hp : PutO l d (.tuple #[]) l'] (hm : m = m') (hq : q = if c = m then p else p.map (·.add (m * sz))) (hk : m + k ≤ c)
    (K : ∀ a w, St w0 M0 ds a w l' bs fs → WL P r ops Q rest a w) :
    WL P r ops Q (⟨d, .call { callee := .builtin .clear, args := #[y], argTypes := #[t] }, ty, pos, af, none⟩ :: rest) a w := by
  subst hm
  refine wl_plain rfl ?_
  rw [semAt_nd rfl]
  obtain ⟨ii, hi, hz', hsize, hby⟩ := hti.ex
  subst hsize hby
  have hrow := S.row p m
  have S' := S.put (d := d) (v := .tuple #[]) (l' := l')
  have hey := S.fr.ev (x := y) (v := .slice q k cy)
  by_cases hk0 : k = 0
  · subst hk0
    have e1 : (xop a.eval (.call { callee := .builtin .clear, args := #[y], argTypes := #[t] }) ty).run P w = .ok (.value (.tuple #[])) w := by
      cases q <;> simp [xop, execOp, resolve, invoke, builtin, Builtin.clear_, hey, Sem.run_bind, run_und]
    simp only [e1, Oper.uponIn]
    exact K _ _ S'
  · have hcm : c ≠ m := by omega
    rw [if_neg hcm] at hq
    rcases hrow.2 with ⟨hv, h0⟩ | ⟨g, cap, cur, hv, hb, hg, hnc, hcmx, hcs, htk⟩
    · cases hv; omega
    · cases hv
      have hq' : q = some ⟨g, m * ii.size, none⟩ := by rw [hq]; simp [add_lit]
      subst hq'
      have hkk : (m + k) * ii.size ≤ c * ii.size := Nat.mul_le_mul_right _ hk
      rw [Nat.add_mul] at hkk
      have hzs : z.cells.size = ii.size := by rw [← Array.length_toList, hzc.eq, hzl.eq]
      have hzlen : (Builtin.zeroCells z.cells k).toList.length = k * ii.size := by rw [Array.length_toList, size_zeroCells, hzs]
      have hone : ∀ u ∈ (Builtin.zeroCells z.cells k).toList, u.oneCell' = true := fun u hu => by
        simp only [Builtin.zeroCells, Array.toList_map, List.mem_map, Array.toList_range, List.mem_range] at hu
        obtain ⟨j, hj, rfl⟩ := hu
        have hpos : 0 < z.cells.size := by
          rcases Nat.eq_zero_or_pos z.cells.size with h0 | h0
          · rw [h0] at hj; simp at hj
          · exact h0
        have hlt : j % z.cells.size < z.cells.size := Nat.mod_lt _ hpos
        refine hfl.all _ ?_
        rw [← hzc.eq]
        rw [getElem!_pos z.cells (j % z.cells.size) hlt]
        simp
      have hst := run_storeCells_at (P := P) g (m * ii.size) e (Builtin.zeroCells z.cells k).toList 0 cur w hg (by simp only [Nat.add_zero]; rw [hzlen, hcs]; exact hkk) hone
      simp only [Nat.add_zero] at hst
      have hrz : (zeroValue e).run P w = .ok z w := run_zero (P := P) (t := e) (z := z) (s := ii.size) (b := ii.bytes) w
      have e1 : (xop a.eval (.call { callee := .builtin .clear, args := #[y], argTypes := #[t] }) ty).run P w = .ok (.value (.tuple #[])) (w.setRow g ((cur.toList.take (m * ii.size) ++ (Builtin.zeroCells z.cells k).toList ++ cur.toList.drop (m * ii.size + (Builtin.zeroCells z.cells k).toList.length)).toArray)) := by
        obtain ⟨k', rfl⟩ : ∃ k', k = k' + 1 := ⟨k - 1, by omega⟩
        simp only [xop, execOp, resolve, invoke, builtin, Builtin.clear_, List.map_toArray, List.map_cons, List.map_nil, hey, Sem.run_bind, run_und, Result.andThen_ok, Sem.run_pure]
        simp [run_und, Sem.run_bind, hrz, hst]
      simp only [e1, Oper.uponIn]
      have hown : (w.setRow g ((cur.toList.take (m * ii.size) ++ (Builtin.zeroCells z.cells k).toList ++ cur.toList.drop (m * ii.size + (Builtin.zeroCells z.cells k).toList.length)).toArray)).ownsRow 0 e ii.size (.slice (some ⟨g, 0, none⟩) m c) m xs := by
        refine ⟨hrow.1, .inr ⟨g, c, _, rfl, Nat.zero_le _, setRow_heap w g cur _ e _ hg, hnc, hcmx, ?_, ?_⟩⟩
        · simp only [List.size_toArray, List.length_append, List.length_take, List.length_drop, Array.length_toList]
          rw [Array.length_toList] at hzlen
          omega
        · simp only
          have hl2 : (cur.toList.take (m * ii.size)).length = m * ii.size := by rw [List.length_take, Array.length_toList, hcs]; omega
          rw [List.append_assoc, ← htk]
          have h5 := List.take_left (l₁ := cur.toList.take (m * ii.size)) (l₂ := (Builtin.zeroCells z.cells k).toList ++ cur.toList.drop (m * ii.size + (Builtin.zeroCells z.cells k).toList.length))
          rw [hl2] at h5
          exact h5
      refine K _ _ (S.reput (x := row e ii.size (some ⟨g, 0, none⟩) m c xs) (y := row e ii.size (some ⟨g, 0, none⟩) m c xs) S'.slots S'.defers (hr := ⟨?_⟩) rfl (Agree.setRow w g _ ⟨_, rfl, rfl⟩) hown (fun k h => .inl h) (row_foot_lt hown) (row_loc _ _ _ _ _ _))
      obtain ⟨pre, post, h⟩ := List.append_of_mem hr.mem
      exact ⟨pre, post, h, h⟩
end
theorem ls_own_from {w : World} {e : TypeId} {p : Option Addr} {n c : Nat} {xs : List LTerm} (h : w.ownsRow 0 e 5 (.slice p n c) n (encL xs)) (hk : ∀ x ∈ xs, LtIn w x) : ∀ (k i : Nat), xs.length - i = k → i ≤ xs.length → LsIn w p i (xs.drop i)
  | 0, i, hi, hle => by rw [List.drop_of_length_le (by omega)]; simp [LsIn]
  | k + 1, i, hi, hle => by
    have hlt : i < xs.length := by omega
    have hn : n = xs.length := by
      have := h.1
      rw [encL_len] at this
      have e5 : Enc.sz LTerm = 5 := rfl
      rw [e5] at this; omega
    obtain ⟨g, cur, hp, _⟩ := own_cells h (by omega)
    rw [nth_drop hlt]
    refine ⟨⟨⟨g, 0, none⟩, hp, fun j v hj => ?_⟩, hk _ (nth_mem hlt), ls_own_from h hk k (i + 1) (by omega) hlt⟩
    have hj5 : j < 5 := (List.getElem?_eq_some_iff.1 hj).1
    have h1 := encL_get xs i _ (nth_get hlt) j hj5
    have h2 : (encL xs)[i * 5 + j]? = some v := by
      rw [← hj]; exact h1
    have h3 := own_cell h h2
    rw [hp] at h3
    simp only [rAddr, Option.getD_some, add_add] at h3
    exact h3
theorem ls_of_own {M : Nat → Prop} {w : World} {e : TypeId} {p : Option Addr} {n c : Nat} {xs : List LTerm} (h : w.ownsRow 0 e 5 (.slice p n c) n (encL xs)) (hk : ∀ x ∈ xs, Stable M w (LtF x)) (hM : ∀ ad, p = some ad → ¬ M ad.block) : Stable M w (LsF p 0 xs) := fun w' hw' => by
  have h' : w'.ownsRow 0 e 5 (.slice p n c) n (encL xs) := row_loc e 5 p n c (encL xs) w w' (fun k hkf => by
    obtain ⟨ad, h1, h2⟩ := hkf
    exact hw'.blk (row_foot_lt h k ⟨ad, h1, h2⟩) (by rw [h2]; exact hM ad h1)) h
  have := ls_own_from h' (fun x hx => hk x hx w' hw') _ 0 rfl (Nat.zero_le _)
  rw [List.drop_zero] at this
  exact this
theorem St.rowFact {w0 M0 ds a w l bs fs} (S : St w0 M0 ds a w l bs fs) (p : Option Addr) (n : Nat) {e : TypeId} {sz c : Nat} {xs : List Value} [h : HasRow bs p n e sz c xs] {Φ : World → Prop} (hΦ : Φ ∈ fs) : Stable (fun k => ∃ ad, p = some ad ∧ k = ad.block) w Φ :=
  (S.wd.facts Φ hΦ).less fun _ _ hk => ⟨_, h.mem, hk⟩
theorem St.apart2 {w0 M0 ds a w l bs fs} (S : St w0 M0 ds a w l bs fs) (x y : Item) [h : SubL [x, y] bs] (k : Nat) (hk : x.foot k) : ¬ y.foot k := by
  have := (S.wd.apart.sublist h.sub)
  simp only [List.pairwise_cons, List.mem_singleton, forall_eq] at this
  exact this.1 k hk
def kvS (x : List UInt8 × Value) : Value × Value := (str x.1, x.2)
def enKV (e : MapEntry) : Value × Value := (e.key, e.val)
def mpi (b r : Nat) (kv done : List (List UInt8 × Value)) : Item where
  foot := fun k => k = b ∨ k = r
  holds := fun w => ∃ (es : Array MapEntry) (clock : Nat) (ds : List MapEntry), w.heap[b]? = some (.map es clock) ∧ es.toList.map enKV = kv.map kvS ∧ (∀ e ∈ es.toList, e.born < clock) ∧ (es.toList.map (·.born)).Nodup ∧
    w.heap[r]? = some (.mapIter (some b) clock (ds.map (·.born)).toArray clock) ∧ (∀ e ∈ ds, e ∈ es.toList) ∧ (ds.map (·.born)).Nodup ∧ ds.map enKV = done.map kvS
class HasMpi (bs : List Item) (r : Nat) (b : outParam Nat) (kv done : outParam (List (List UInt8 × Value))) : Prop where mem : mpi b r kv done ∈ bs
class HasMpiB (bs : List Item) (b : Nat) (kv : outParam (List (List UInt8 × Value))) : Prop where mem : ∃ r done, mpi b r kv done ∈ bs
section
variable {P : Program} {r0 : Option Nat} {ops : Array Oper} {Q : Exit → Act → World → Prop} {w0 : World} {M0 : Nat → Prop} {ds : List Deferred} {a : Act} {w : World} {l : List Value} {bs : List Item} {fs : List (World → Prop)}
  {d : Option Nat} {op : Op} {ty : TypeId} {pos : String} {af : Array Edge} {rest : List Oper} {t kt et : TypeId} {x : Operand} {b : Nat} {kv : List (List UInt8 × Value)}
end
section
variable {P : Program} {r : Option Nat} {ops : Array Oper} {Q : Exit → Act → World → Prop} {w0 : World} {M0 : Nat → Prop} {ds : List Deferred} {a : Act} {w : World} {l : List Value} {bs : List Item} {fs : List (World → Prop)}
  {d : Option Nat} {ty : TypeId} {pos : String} {af : Array Edge} {rest : List Oper} {f : Nat} {x : Operand} {ys : List Operand} {args : List Value} {ts : Array TypeId}
theorem mp_lt {b : Nat} {kv : List (List UInt8 × Value)} (h : (mp b kv).holds w) : ∀ k, (mp b kv).foot k → k < w.heap.size := by
  rintro k rfl
  obtain ⟨es, clock, h1, _⟩ := h
  exact (Array.getElem?_eq_some_iff.1 h1).1
end
end Go.Wk
namespace Go.Proofs.Ytibkkbknnfehlaa
open Go Go.Wk
set_option synthInstance.maxSize 100000
set_option synthInstance.maxHeartbeats 400000
set_option maxRecDepth 100000
def secretT (u : Int) : Term := .mk 3 u 0 [] []
def secretL (u : Int) : LTerm := .mk 3 u 0 [] none 0 []
theorem secret_c (u : Int) (w0 : World) : Ret Try.prog 40 [.int .i64 u] w0 (fun _ => False) fun v _ => v = vL (secretL u) := by
  refine enter Try.func40 rfl rfl (Wd.start w0) (fun a S => ?_)
  simp only [Try.ntmps40, List.length_cons, List.length_nil, Nat.reduceAdd, Nat.reduceSub, List.replicate_succ, List.replicate_zero, List.cons_append, List.nil_append] at S
  refine c_seq ?_; refine c_region ?_
  refine sa S ?_; clear S; intro b2 a w S
  refine wl_nil ?_; refine xtn ?_; refine c_seq ?_; refine c_region ?_; (iterate 2 (refine sq S ?_; clear S; intro a S)); refine sw S ?_; clear S; intro a w S; refine wl_nil ?_; refine xtn ?_; refine c_ret ?_
  refine end1 S (fun _ => ?_)
  rfl
instance {u : Int} {bs fs} : CallV Try.prog 40 [.int .i64 u] bs fs (vL (secretL u)) := ⟨fun w _ => secret_c u w⟩
instance {fs : List (World → Prop)} {u : Int} : HasT fs (secretL u) := ⟨fun _ _ _ w _ => by simp [LtF, LtIn, secretL, LsIn]⟩
def kvM (km : List (List UInt8 × LTerm)) : List (List UInt8 × Value) := km.map fun x => (x.1, vL x.2)
def tget (k : List UInt8) : List (List UInt8 × LTerm) → Option LTerm
  | [] => none
  | (u, x) :: km => if k = u then some x else tget k km
abbrev zeroL : LTerm := .mk 0 0 0 [] none 0 []
theorem kvM_idx (k : List UInt8) : ∀ (km : List (List UInt8 × LTerm)) (i : Nat), (kvIdx k (kvM km) i).map (·.2) = (tget k km).map fun x => vL x
  | [], _ => rfl
  | (u, x) :: km, i => by
    show (kvIdx k ((u, vL x) :: kvM km) i).map (·.2) = _
    rw [kvIdx, tget]
    split
    · rfl
    · exact kvM_idx k km (i + 1)
theorem kvM_get (k : List UInt8) (km : List (List UInt8 × LTerm)) : kvGet k (kvM km) = (tget k km).map fun x => vL x := kvM_idx k km 0
theorem kvM_getD (k : List UInt8) (km : List (List UInt8 × LTerm)) : (kvGet k (kvM km)).getD (.agg #[.int .i64 0, .int .i64 0, .int .i64 0, .string ⟨#[]⟩, .slice none 0 0]) = vL ((tget k km).getD zeroL) := by
  rw [kvM_get]; cases tget k km <;> rfl
def inM (km : List (List UInt8 × LTerm)) (k : List UInt8) : Bool := (tget k km).isSome
theorem kvM_some (k : List UInt8) (km : List (List UInt8 × LTerm)) : (kvGet k (kvM km)).isSome = inM km k := by
  rw [kvM_get]; unfold inM; cases tget k km <;> rfl
mutual
def canF (H : List UInt8 → Bool) : Term → Bool
  | .mk k u n s ks => (H (nameF (.mk k u n s ks)) || decide (k = 1)) || (!(decide (k = 2) || decide (k = 3)) && ((!decide (k = 8) || H (nameF (secretT u))) && canLF H ks))
def canLF (H : List UInt8 → Bool) : List Term → Bool
  | [] => true
  | t :: ts => canF H t && canLF H ts
end
theorem canLF_any (H : List UInt8 → Bool) : ∀ ts : List Term, canLF H ts = !(ts.any fun t => !canF H t)
  | [] => rfl
  | t :: ts => by rw [canLF, canLF_any H ts, List.any_cons]; cases canF H t <;> rfl
theorem canF_secret (H : List UInt8 → Bool) (u : Int) : canF H (secretT u) = H (nameF (secretT u)) := by
  rw [secretT, canF]; simp
theorem kid_st {M : Nat → Prop} {w : World} {t x : LTerm} (h : Stable M w (LtF t)) (hx : x ∈ t.kids) : Stable M w (LtF x) := by
  obtain ⟨k, hk, rfl⟩ := List.mem_iff_getElem.1 hx
  exact h.imp fun w' hw' => ((LtIn.iff.1 hw').2.2.get (List.getElem?_eq_getElem hk)).2
theorem can_close (b2 b : Nat) (x : LTerm) (km : List (List UInt8 × LTerm)) (w0 : World) (hb : Stable (fun _ => False) w0 (BoxF b2 73 [.map (some b)])) (hm : Stable (fun _ => False) w0 (MpF b (kvM km))) (hx : Stable (fun _ => False) w0 (LtF x))
    (h : ∀ w, Agree (fun _ => False) w0 w → Ret Try.prog 45 [.map (some b), vL x] w (fun _ => False) fun v _ => v = .bool (canF (inM km) x.t)) :
    Ret Try.prog 66 [vL x, .pointer (some ⟨b2, 0, none⟩)] w0 (fun _ => False) fun v _ => v = .bool (!canF (inM km) x.t) := by
  refine enter Try.func66 rfl rfl (Wd.begin (fs := [LtF x, BoxF b2 73 [.map (some b)], MpF b (kvM km)]) (by simp; exact ⟨hx, hb, hm⟩)) (fun a S => ?_)
  simp only [Try.ntmps66, List.length_cons, List.length_nil, Nat.reduceAdd, Nat.reduceSub, List.replicate_succ, List.replicate_zero, List.cons_append, List.nil_append] at S
  refine c_seq ?_; refine c_region ?_
  refine sa S ?_; clear S; intro b2 a w S
  refine sq S ?_; clear S; intro a S; refine wl_nil ?_; refine xtn ?_; refine c_seq ?_; refine c_region ?_; (iterate 2 (refine sq S ?_; clear S; intro a S))
  refine sr S (h w S.wd.agree) ?_; clear S; rintro _ a w rfl S
  (iterate 2 (refine sq S ?_; clear S; intro a S)); refine wl_nil ?_; refine xtn ?_; refine c_ret ?_
  refine end1 S (fun _ => rfl)
theorem can_walk (t : LTerm) (b : Nat) (km : List (List UInt8 × LTerm)) (w0 : World) (hf : Stable (fun _ => False) w0 (LtF t)) (hm : Stable (fun _ => False) w0 (MpF b (kvM km)))
    (hsec : t.kind = 8 → ∀ w, Agree (fun _ => False) w0 w → Ret Try.prog 45 [.map (some b), vL (secretL t.user)] w (fun _ => False) fun v _ => v = .bool (canF (inM km) (secretT t.user)))
    (hkid : ∀ x ∈ t.kids, ∀ w, Agree (fun _ => False) w0 w → Ret Try.prog 45 [.map (some b), vL x] w (fun _ => False) fun v _ => v = .bool (canF (inM km) x.t)) :
    Ret Try.prog 45 [.map (some b), vL t] w0 (fun _ => False) fun v _ => v = .bool (canF (inM km) t.t) := by
  have hcan : canF (inM km) t.t = ((inM km (nameF t.t) || decide (t.kind = 1)) || (!(decide (t.kind = 2) || decide (t.kind = 3)) && ((!decide (t.kind = 8) || inM km (nameF (secretT t.user))) && canLF (inM km) (t.kids.map LTerm.t)))) := by
    rw [LTerm.t_eq, canF]
  rw [hcan]
  refine enter Try.func45 rfl rfl (Wd.begin (fs := [LtF t, MpF b (kvM km)]) (by simp; exact ⟨hf, hm⟩)) (fun a S => ?_)
  simp only [Try.ntmps45, List.length_cons, List.length_nil, Nat.reduceAdd, Nat.reduceSub, List.replicate_succ, List.replicate_zero, List.cons_append, List.nil_append] at S
  refine c_seq ?_; refine c_region ?_
  refine sa S ?_; clear S; intro b2 a w S
  refine sa S ?_; clear S; intro b3 a w S
  refine sq S ?_; clear S; intro a S; refine wl_nil ?_; refine xtn ?_; (iterate 2 (refine c_seq ?_))
  refine' c_drawT1 (.q 0 (.q 1 (.b2 2 7 (.q 3 (.q 4 (.q 5 (.q 6 (.l 7 (.l 8 (.q 9 (.e)))))))) (.l 2 (.q 3 (.q 4 (.q 5 (.q 6 (.l 8 (.q 9 (.e))))))))))) [] S ?_ ?_
  rotate_left 3
  · intro w S
    (iterate 2 (refine tq S ?_; clear S; intro a S))
    refine tb2 ?_ ?_
    · refine sc S ?_; clear S; intro a w S; refine te S ?_; refine tq S ?_; clear S; intro a S
      rw [kvM_getD, kvM_some] at S
      (iterate 3 (refine tq S ?_; clear S; intro a S)); refine tl ?_
      refine sa S ?_; clear S; intro b5 a w S
      refine te S ?_; refine tl ?_; refine sw S ?_; clear S; intro a w S; refine te S ?_; refine tq S ?_; clear S; intro a S; refine tn ?_
      exact ⟨b5, S⟩
    · refine sa S ?_; clear S; intro b5 a w S
      refine te S ?_; refine tl ?_; refine sc S ?_; clear S; intro a w S; refine te S ?_; refine tq S ?_; clear S; intro a S
      rw [kvM_getD, kvM_some] at S
      (iterate 3 (refine tq S ?_; clear S; intro a S)); refine tl ?_; refine sw S ?_; clear S; intro a w S; refine te S ?_; refine tq S ?_; clear S; intro a S; refine tn ?_
      exact ⟨b5, S⟩
  intro b5 a w S
  refine xtn ?_; refine c_seq ?_; refine c_region ?_; (iterate 2 (refine sq S ?_; clear S; intro a S)); (iterate 3 (refine gQ S ?_; clear S; intro a S)); refine sq S ?_; clear S; intro a S; refine wl_nil ?_; refine xtn ?_
  refine c_cond S (fun h2 => ?_) (fun h2 => ?_)
  · refine c_seq ?_; refine c_region ?_; refine sq S ?_; clear S; intro a S; refine wl_nil ?_; refine xtn ?_; refine c_ret ?_; refine xtr ?_
    clear hkid hsec hcan hf hm
    refine end1 S (fun _ => ?_)
    clear S
    simp_all [canLF_any, List.any_map, Function.comp_def]
  · refine c_skip ?_; refine xtn ?_; (iterate 2 (refine c_seq ?_)); refine c_region ?_; (iterate 2 (refine sq S ?_; clear S; intro a S)); refine wl_nil ?_; refine xtn ?_; refine c_block ?_; (iterate 2 (refine c_seq ?_)); refine c_region ?_; (iterate 2 (refine sq S ?_; clear S; intro a S)); refine wl_nil ?_; refine xtn ?_
    refine c_cond S (fun h5 => ?_) (fun h5 => ?_)
    · refine c_skip ?_; refine xtn ?_
      refine c_cond S (fun h5 => ?_) (fun h5 => ?_)
      · refine c_seq ?_; refine c_region ?_; refine sq S ?_; clear S; intro a S; refine wl_nil ?_; refine xtn ?_; refine c_ret ?_; refine xbr ?_; refine xtr ?_
        clear hkid hsec hcan hf hm
        refine end1 S (fun _ => ?_)
        clear S
        simp_all [canLF_any, List.any_map, Function.comp_def]
      · refine c_seq ?_; refine c_region ?_; (iterate 2 (refine sq S ?_; clear S; intro a S)); refine wl_nil ?_; refine xtn ?_
        refine c_cond S (fun h8 => ?_) (fun h8 => ?_)
        · refine c_seq ?_
          refine c_drawD [(0, true), (1, true), (2, true), (3, false), (4, false), (5, true)] [] S ?_; clear S; intro w S
          (iterate 3 (refine dq S ?_; clear S; intro a S)); refine dl ?_; refine sc S ?_; clear S; intro a w S; refine de S ?_; refine dl ?_
          refine sr S (hsec (by simpa using h8) w S.wd.agree) ?_; clear S; rintro _ a w rfl S
          rw [canF_secret] at S
          refine de S ?_; refine dq S ?_; clear S; intro a S; refine dn ?_; refine xtn ?_
          refine c_cond S (fun h9 => ?_) (fun h9 => ?_)
          · refine c_seq ?_; refine c_region ?_; refine sq S ?_; clear S; intro a S; refine wl_nil ?_; refine xtn ?_; refine c_ret ?_; refine xbr ?_; refine xtr ?_
            clear hkid hsec hcan hf hm
            refine end1 S (fun _ => ?_)
            clear S
            simp_all [canLF_any, List.any_map, Function.comp_def]
          · refine c_skip ?_; refine xbn ?_; refine xtn ?_; refine c_seq ?_; refine c_region ?_; (iterate 3 (refine sq S ?_; clear S; intro a S))
            have hb2 : Stable (fun _ => False) w (BoxF b2 73 [.map (some b)]) := BoxF.stable (S.boxF b2) (fun h => h)
            have hlt := S.mem.fact0 (LtF t)
            have hmp := S.mem.fact0 (MpF b (kvM km))
            have hag := S.wd.agree
            have hcc := contains_c 66 [.pointer (some ⟨b2, 0, none⟩)] (fun x => !canF (inM km) x.t) t.kids t.p _ t.cap w rfl (LTerm.len_le hlt) (hlt.imp fun _ h => (LtIn.iff.1 h).2.2) fun x hx w' hw' =>
              can_close b2 b x km w' (hb2.later hw') (hmp.later hw') ((kid_st hlt hx).later hw') fun w'' hw'' => hkid x hx w'' (hag.trans (hw'.trans hw''))
            refine sr S hcc ?_
            clear S hb2 hlt hmp hag hcc; rintro _ a w rfl S
            (iterate 2 (refine sq S ?_; clear S; intro a S)); refine wl_nil ?_; refine xtn ?_; refine c_ret ?_
            clear hkid hsec hcan hf hm
            refine end1 S (fun _ => ?_)
            clear S
            simp_all [canLF_any, List.any_map, Function.comp_def]
        · refine c_skip ?_; refine xbn ?_; refine xtn ?_; refine c_seq ?_; refine c_region ?_; (iterate 3 (refine sq S ?_; clear S; intro a S))
          have hb2 : Stable (fun _ => False) w (BoxF b2 73 [.map (some b)]) := BoxF.stable (S.boxF b2) (fun h => h)
          have hlt := S.mem.fact0 (LtF t)
          have hmp := S.mem.fact0 (MpF b (kvM km))
          have hag := S.wd.agree
          have hcc := contains_c 66 [.pointer (some ⟨b2, 0, none⟩)] (fun x => !canF (inM km) x.t) t.kids t.p _ t.cap w rfl (LTerm.len_le hlt) (hlt.imp fun _ h => (LtIn.iff.1 h).2.2) fun x hx w' hw' =>
            can_close b2 b x km w' (hb2.later hw') (hmp.later hw') ((kid_st hlt hx).later hw') fun w'' hw'' => hkid x hx w'' (hag.trans (hw'.trans hw''))
          refine sr S hcc ?_
          clear S hb2 hlt hmp hag hcc; rintro _ a w rfl S
          (iterate 2 (refine sq S ?_; clear S; intro a S)); refine wl_nil ?_; refine xtn ?_; refine c_ret ?_
          clear hkid hsec hcan hf hm
          refine end1 S (fun _ => ?_)
          clear S
          simp_all [canLF_any, List.any_map, Function.comp_def]
    · refine c_region ?_; (iterate 2 (refine sq S ?_; clear S; intro a S)); refine wl_nil ?_; refine xtn ?_
      refine c_cond S (fun h6 => ?_) (fun h6 => ?_)
      · refine c_seq ?_; refine c_region ?_; refine sq S ?_; clear S; intro a S; refine wl_nil ?_; refine xtn ?_; refine c_ret ?_; refine xbr ?_; refine xtr ?_
        clear hkid hsec hcan hf hm
        refine end1 S (fun _ => ?_)
        clear S
        simp_all [canLF_any, List.any_map, Function.comp_def]
      · refine c_seq ?_; refine c_region ?_; (iterate 2 (refine sq S ?_; clear S; intro a S)); refine wl_nil ?_; refine xtn ?_
        refine c_cond S (fun h8 => ?_) (fun h8 => ?_)
        · refine c_seq ?_
          refine c_drawD [(0, true), (1, true), (2, true), (3, false), (4, false), (5, true)] [] S ?_; clear S; intro w S
          (iterate 3 (refine dq S ?_; clear S; intro a S)); refine dl ?_; refine sc S ?_; clear S; intro a w S; refine de S ?_; refine dl ?_
          refine sr S (hsec (by simpa using h8) w S.wd.agree) ?_; clear S; rintro _ a w rfl S
          rw [canF_secret] at S
          refine de S ?_; refine dq S ?_; clear S; intro a S; refine dn ?_; refine xtn ?_
          refine c_cond S (fun h9 => ?_) (fun h9 => ?_)
          · refine c_seq ?_; refine c_region ?_; refine sq S ?_; clear S; intro a S; refine wl_nil ?_; refine xtn ?_; refine c_ret ?_; refine xbr ?_; refine xtr ?_
            clear hkid hsec hcan hf hm
            refine end1 S (fun _ => ?_)
            clear S
            simp_all [canLF_any, List.any_map, Function.comp_def]
          · refine c_skip ?_; refine xbn ?_; refine xtn ?_; refine c_seq ?_; refine c_region ?_; (iterate 3 (refine sq S ?_; clear S; intro a S))
            have hb2 : Stable (fun _ => False) w (BoxF b2 73 [.map (some b)]) := BoxF.stable (S.boxF b2) (fun h => h)
            have hlt := S.mem.fact0 (LtF t)
            have hmp := S.mem.fact0 (MpF b (kvM km))
            have hag := S.wd.agree
            have hcc := contains_c 66 [.pointer (some ⟨b2, 0, none⟩)] (fun x => !canF (inM km) x.t) t.kids t.p _ t.cap w rfl (LTerm.len_le hlt) (hlt.imp fun _ h => (LtIn.iff.1 h).2.2) fun x hx w' hw' =>
              can_close b2 b x km w' (hb2.later hw') (hmp.later hw') ((kid_st hlt hx).later hw') fun w'' hw'' => hkid x hx w'' (hag.trans (hw'.trans hw''))
            refine sr S hcc ?_
            clear S hb2 hlt hmp hag hcc; rintro _ a w rfl S
            (iterate 2 (refine sq S ?_; clear S; intro a S)); refine wl_nil ?_; refine xtn ?_; refine c_ret ?_
            clear hkid hsec hcan hf hm
            refine end1 S (fun _ => ?_)
            clear S
            simp_all [canLF_any, List.any_map, Function.comp_def]
        · refine c_skip ?_; refine xbn ?_; refine xtn ?_; refine c_seq ?_; refine c_region ?_; (iterate 3 (refine sq S ?_; clear S; intro a S))
          have hb2 : Stable (fun _ => False) w (BoxF b2 73 [.map (some b)]) := BoxF.stable (S.boxF b2) (fun h => h)
          have hlt := S.mem.fact0 (LtF t)
          have hmp := S.mem.fact0 (MpF b (kvM km))
          have hag := S.wd.agree
          have hcc := contains_c 66 [.pointer (some ⟨b2, 0, none⟩)] (fun x => !canF (inM km) x.t) t.kids t.p _ t.cap w rfl (LTerm.len_le hlt) (hlt.imp fun _ h => (LtIn.iff.1 h).2.2) fun x hx w' hw' =>
            can_close b2 b x km w' (hb2.later hw') (hmp.later hw') ((kid_st hlt hx).later hw') fun w'' hw'' => hkid x hx w'' (hag.trans (hw'.trans hw''))
          refine sr S hcc ?_
          clear S hb2 hlt hmp hag hcc; rintro _ a w rfl S
          (iterate 2 (refine sq S ?_; clear S; intro a S)); refine wl_nil ?_; refine xtn ?_; refine c_ret ?_
          clear hkid hsec hcan hf hm
          refine end1 S (fun _ => ?_)
          clear S
          simp_all [canLF_any, List.any_map, Function.comp_def]
theorem can_secret_c (u : Int) (b : Nat) (km : List (List UInt8 × LTerm)) (w0 : World) (hm : Stable (fun _ => False) w0 (MpF b (kvM km))) :
    Ret Try.prog 45 [.map (some b), vL (secretL u)] w0 (fun _ => False) fun v _ => v = .bool (canF (inM km) (secretT u)) :=
  can_walk (secretL u) b km w0 (fun _ _ => by simp [LtF, LtIn, secretL, LsIn]) hm (fun h => absurd h (by simp [secretL, LTerm.kind])) (fun x hx => by simp [secretL, LTerm.kids] at hx)
theorem can_c0 (b : Nat) (km : List (List UInt8 × LTerm)) : ∀ (n : Nat) (t : LTerm) (w0 : World), SizeOf.sizeOf t < n → Stable (fun _ => False) w0 (LtF t) → Stable (fun _ => False) w0 (MpF b (kvM km)) →
    Ret Try.prog 45 [.map (some b), vL t] w0 (fun _ => False) fun v _ => v = .bool (canF (inM km) t.t)
  | 0, _, _, h, _, _ => absurd h (Nat.not_lt_zero _)
  | n + 1, t, w0, h, hf, hm => can_walk t b km w0 hf hm (fun _ w hw => can_secret_c _ b km w (hm.later hw)) (fun x hx w hw => can_c0 b km n x w (by have := LTerm.kid_lt hx; omega) ((kid_st hf hx).later hw) (hm.later hw))
theorem can_c (t : LTerm) (b : Nat) (km : List (List UInt8 × LTerm)) (w0 : World) (hf : Stable (fun _ => False) w0 (LtF t)) (hm : Stable (fun _ => False) w0 (MpF b (kvM km))) :
    Ret Try.prog 45 [.map (some b), vL t] w0 (fun _ => False) fun v _ => v = .bool (canF (inM km) t.t) := can_c0 b km _ t w0 (Nat.lt_succ_self _) hf hm
instance {t : LTerm} {b : Nat} {km : List (List UInt8 × LTerm)} {bs fs} [HasT fs t] [hm : HasMpF fs b (kvM km)] : CallV Try.prog 45 [.map (some b), vL t] bs fs (.bool (canF (inM km) t.t)) :=
  ⟨fun w m => can_c t b km w (m.t0 _) ((m.facts _ hm.mem).less fun _ _ h => h.elim)⟩
def givesF (H : List UInt8 → Bool) (t : LTerm) : List LTerm :=
  if t.kind = 4 ∨ t.kind = 8 then t.kids
  else if t.kind = 6 then (if canF H (nthL t.kids 0).t then t.kids.drop 1 else [])
  else if t.kind = 7 then (if H (nameF (secretT t.user)) then t.kids else [])
  else []
theorem secretL_t (u : Int) : (secretL u).t = secretT u := rfl
def opV (b1 b2 : Nat) : Value := .func (.func 77) #[] ⟨[.pointer (some ⟨b1, 0, none⟩), .pointer (some ⟨b2, 0, none⟩)]⟩
theorem opens_c (t : LTerm) (b : Nat) (w0 : World) : Ret Try.prog 63 [.map (some b), vL t] w0 (fun _ => False) fun v w' =>
    ∃ b1 b2, v = opV b1 b2 ∧ w0.heap.size ≤ b1 ∧ w0.heap.size ≤ b2 ∧ BoxF b1 37 t.cells w' ∧ BoxF b2 73 [.map (some b)] w' := by
  refine enter Try.func63 rfl rfl (Wd.start w0) (fun a S => ?_)
  simp only [Try.ntmps63, List.length_cons, List.length_nil, Nat.reduceAdd, Nat.reduceSub, List.replicate_succ, List.replicate_zero, List.cons_append, List.nil_append] at S
  refine c_seq ?_; refine c_region ?_
  refine sa S ?_; clear S; intro b2 a w S
  refine sa S ?_; clear S; intro b3 a w S
  refine sq S ?_; clear S; intro a S; refine wl_nil ?_; refine xtn ?_; refine c_seq ?_; refine c_region ?_; (iterate 2 (refine sq S ?_; clear S; intro a S)); refine wl_nil ?_; refine xtn ?_; refine c_ret ?_
  have h1 := S.boxF b3
  have h2 := S.boxF b2
  have n1 := S.boxNew b3
  have n2 := S.boxNew b2
  refine end1 S (fun _ => ?_)
  exact ⟨b3, b2, rfl, n1.elim (fun h => h.elim) id, n2.elim (fun h => h.elim) id, h1, h2⟩
theorem opens_it (b1 b2 b : Nat) (t : LTerm) (km : List (List UInt8 × LTerm)) (w0 : World) (M : Nat → Prop) (hM : ∀ k, M k → k < w0.heap.size) (f1 : Stable M w0 (BoxF b1 37 t.cells)) (f2 : Stable M w0 (BoxF b2 73 [.map (some b)]))
    (f3 : Stable M w0 (MpF b (kvM km))) (f4 : Stable M w0 (LtF t)) (hk6 : t.kind = 6 → 0 < t.kids.length) :
    IterRet Try.prog 77 [.pointer (some ⟨b1, 0, none⟩), .pointer (some ⟨b2, 0, none⟩)] w0 M (fun (x : LTerm) vs _ _ => vs = [vL x]) (givesF (inM km) t) := by
  intro L J Jx hy hJ
  have hF : ∀ Φ ∈ [BoxF b1 37 t.cells, BoxF b2 73 [.map (some b)], MpF b (kvM km), LtF t], Stable M w0 Φ := by simp; exact ⟨f1, f2, f3, f4⟩
  have hlen := LTerm.len_le f4
  have hcap := LtIn.iff.1 f4.now
  refine (callsIn_wide (n := 0)).2 ?_
  refine enter Try.func77 rfl rfl (Wd.beginM (M := M) (fs := [BoxF b1 37 t.cells, BoxF b2 73 [.map (some b)], MpF b (kvM km), LtF t]) hM hF) (fun a S => ?_)
  simp only [Try.ntmps77, List.length_cons, List.length_nil, Nat.reduceAdd, Nat.reduceSub, List.replicate_succ, List.replicate_zero, List.cons_append, List.nil_append] at S
  refine c_seq ?_; refine c_region ?_; refine sq S ?_; clear S; intro a S; refine wl_nil ?_; refine xtn ?_
  refine c_merge (fun a w => ∃ (p : Option Addr) (n c : Nat), n ≤ c ∧ n ≤ 9223372036854775807 ∧ (givesF (inM km) t).length = n ∧ (∀ w, LtIn w t → LsIn w p 0 (givesF (inM km) t)) ∧ ∃ uu : Nat → Value,  St w0 (fun _ => False) [] a w ((.func (.yield L) #[] #[]) :: (.pointer (some ⟨b1, 0, none⟩)) :: (.pointer (some ⟨b2, 0, none⟩)) :: uu 3 :: (.slice p n c) :: uu 5 :: uu 6 :: uu 7 :: uu 8 :: uu 9 :: uu 10 :: uu 11 :: uu 12 :: uu 13 :: uu 14 :: uu 15 :: uu 16 :: uu 17 :: uu 18 :: uu 19 :: uu 20 :: uu 21 :: uu 22 :: uu 23 :: uu 24 :: uu 25 :: uu 26 :: uu 27 :: uu 28 :: uu 29 :: uu 30 :: uu 31 :: uu 32 :: uu 33 :: uu 34 :: uu 35 :: uu 36 :: uu 37 :: uu 38 :: uu 39 :: uu 40 :: uu 41 :: uu 42 :: uu 43 :: uu 44 :: []) [ext M] [BoxF b1 37 t.cells, BoxF b2 73 [.map (some b)], MpF b (kvM km), LtF t]) ?_ ?_
  · refine c_seq ?_; refine c_region ?_; (iterate 2 (refine sq S ?_; clear S; intro a S)); refine wl_nil ?_; refine xtn ?_; refine c_block ?_; (iterate 2 (refine c_seq ?_)); refine c_region ?_; (iterate 2 (refine sq S ?_; clear S; intro a S)); refine wl_nil ?_; refine xtn ?_
    refine c_cond S (fun h2 => ?_) (fun h2 => ?_)
    · refine c_skip ?_; refine xtn ?_
      refine c_cond S (fun h2 => ?_) (fun h2 => ?_)
      · refine c_region ?_; (iterate 3 (refine sq S ?_; clear S; intro a S)); refine wl_nil ?_; refine xbn ?_; refine xtn ?_
        first
        | exact ⟨none, 0, 0, Nat.le_refl _, by omega, by clear S hy hJ hF f1 f2 f3 f4 hM hlen hcap; simp_all [givesF, secretL_t, canF_secret], fun w _ => by rw [show givesF (inM km) t = [] from by clear S hy hJ hF f1 f2 f3 f4 hM hlen hcap; simp_all [givesF, secretL_t, canF_secret]]; simp [LsIn], ⟨S.uu, S⟩⟩
        | exact ⟨t.p, _, t.cap, hcap.1, hlen, by clear S hy hJ hF f1 f2 f3 f4 hM hlen hcap; simp_all [givesF, secretL_t, canF_secret], fun w hw => by rw [show givesF (inM km) t = t.kids from by clear S hy hJ hF f1 f2 f3 f4 hM hlen hcap; simp_all [givesF, secretL_t, canF_secret]]; exact (LtIn.iff.1 hw).2.2, ⟨S.uu, S⟩⟩
        | exact ⟨_, _, _, Nat.sub_le_sub_right hcap.1 1, Nat.le_trans (Nat.sub_le ..) hlen, by clear S hy hJ hF f1 f2 f3 f4 hM hlen hcap; simp_all [givesF, secretL_t, canF_secret], fun w hw => by rw [show givesF (inM km) t = t.kids.drop 1 from by clear S hy hJ hF f1 f2 f3 f4 hM hlen hcap; simp_all [givesF, secretL_t, canF_secret]]; exact LsIn.cut (LtIn.iff.1 hw).2.2 (LtIn.iff.1 hw).1, ⟨S.uu, S⟩⟩
      · refine c_seq ?_; refine c_region ?_; (iterate 2 (refine sq S ?_; clear S; intro a S)); refine wl_nil ?_; refine xtn ?_
        refine c_cond S (fun h5 => ?_) (fun h5 => ?_)
        · refine c_seq ?_
          have e6 : t.kind = 6 := by simpa using h5
          have hK : KLt 0 t.kids.length := ⟨hk6 e6⟩
          refine c_drawD [(0, true), (1, true), (2, true), (3, true), (4, true), (5, false)] [] S ?_; clear S; intro w S
          (iterate 5 (refine dq S ?_; clear S; intro a S)); refine dl ?_; refine sc S ?_; clear S; intro a w S; refine de S ?_; refine dn ?_; refine xtn ?_
          refine c_cond S (fun h6 => ?_) (fun h6 => ?_)
          · refine c_region ?_; (iterate 2 (refine sq S ?_; clear S; intro a S))
            refine ssl S ?_ ?_ ?_ ?_; exact Nat.le_refl _; exact hcap.1; exact hk6 e6; clear S; intro a S
            refine sq S ?_; clear S; intro a S; refine wl_nil ?_; refine xbn ?_; refine xtn ?_
            first
            | exact ⟨none, 0, 0, Nat.le_refl _, by omega, by clear S hy hJ hF f1 f2 f3 f4 hM hlen hcap; simp_all [givesF, secretL_t, canF_secret], fun w _ => by rw [show givesF (inM km) t = [] from by clear S hy hJ hF f1 f2 f3 f4 hM hlen hcap; simp_all [givesF, secretL_t, canF_secret]]; simp [LsIn], ⟨S.uu, S⟩⟩
            | exact ⟨t.p, _, t.cap, hcap.1, hlen, by clear S hy hJ hF f1 f2 f3 f4 hM hlen hcap; simp_all [givesF, secretL_t, canF_secret], fun w hw => by rw [show givesF (inM km) t = t.kids from by clear S hy hJ hF f1 f2 f3 f4 hM hlen hcap; simp_all [givesF, secretL_t, canF_secret]]; exact (LtIn.iff.1 hw).2.2, ⟨S.uu, S⟩⟩
            | exact ⟨_, _, _, Nat.sub_le_sub_right hcap.1 1, Nat.le_trans (Nat.sub_le ..) hlen, by clear S hy hJ hF f1 f2 f3 f4 hM hlen hcap; simp_all [givesF, secretL_t, canF_secret], fun w hw => by rw [show givesF (inM km) t = t.kids.drop 1 from by clear S hy hJ hF f1 f2 f3 f4 hM hlen hcap; simp_all [givesF, secretL_t, canF_secret]]; exact LsIn.cut (LtIn.iff.1 hw).2.2 (LtIn.iff.1 hw).1, ⟨S.uu, S⟩⟩
          · refine c_skip ?_; refine xbn ?_; refine xtn ?_
            first
            | exact ⟨none, 0, 0, Nat.le_refl _, by omega, by clear S hy hJ hF f1 f2 f3 f4 hM hlen hcap; simp_all [givesF, secretL_t, canF_secret], fun w _ => by rw [show givesF (inM km) t = [] from by clear S hy hJ hF f1 f2 f3 f4 hM hlen hcap; simp_all [givesF, secretL_t, canF_secret]]; simp [LsIn], ⟨S.uu, S⟩⟩
            | exact ⟨t.p, _, t.cap, hcap.1, hlen, by clear S hy hJ hF f1 f2 f3 f4 hM hlen hcap; simp_all [givesF, secretL_t, canF_secret], fun w hw => by rw [show givesF (inM km) t = t.kids from by clear S hy hJ hF f1 f2 f3 f4 hM hlen hcap; simp_all [givesF, secretL_t, canF_secret]]; exact (LtIn.iff.1 hw).2.2, ⟨S.uu, S⟩⟩
            | exact ⟨_, _, _, Nat.sub_le_sub_right hcap.1 1, Nat.le_trans (Nat.sub_le ..) hlen, by clear S hy hJ hF f1 f2 f3 f4 hM hlen hcap; simp_all [givesF, secretL_t, canF_secret], fun w hw => by rw [show givesF (inM km) t = t.kids.drop 1 from by clear S hy hJ hF f1 f2 f3 f4 hM hlen hcap; simp_all [givesF, secretL_t, canF_secret]]; exact LsIn.cut (LtIn.iff.1 hw).2.2 (LtIn.iff.1 hw).1, ⟨S.uu, S⟩⟩
        · refine c_seq ?_; refine c_region ?_; (iterate 2 (refine sq S ?_; clear S; intro a S)); refine wl_nil ?_; refine xtn ?_
          refine c_cond S (fun h8 => ?_) (fun h8 => ?_)
          · refine c_seq ?_
            refine c_drawD [(0, true), (1, true), (2, true), (3, false), (4, false)] [] S ?_; clear S; intro w S
            (iterate 3 (refine dq S ?_; clear S; intro a S)); refine dl ?_; refine sc S ?_; clear S; intro a w S; refine de S ?_; refine dl ?_; refine sc S ?_; clear S; intro a w S; refine de S ?_; refine dn ?_; refine xtn ?_
            refine c_cond S (fun h9 => ?_) (fun h9 => ?_)
            · refine c_region ?_; (iterate 3 (refine sq S ?_; clear S; intro a S)); refine wl_nil ?_; refine xbn ?_; refine xtn ?_
              first
              | exact ⟨none, 0, 0, Nat.le_refl _, by omega, by clear S hy hJ hF f1 f2 f3 f4 hM hlen hcap; simp_all [givesF, secretL_t, canF_secret], fun w _ => by rw [show givesF (inM km) t = [] from by clear S hy hJ hF f1 f2 f3 f4 hM hlen hcap; simp_all [givesF, secretL_t, canF_secret]]; simp [LsIn], ⟨S.uu, S⟩⟩
              | exact ⟨t.p, _, t.cap, hcap.1, hlen, by clear S hy hJ hF f1 f2 f3 f4 hM hlen hcap; simp_all [givesF, secretL_t, canF_secret], fun w hw => by rw [show givesF (inM km) t = t.kids from by clear S hy hJ hF f1 f2 f3 f4 hM hlen hcap; simp_all [givesF, secretL_t, canF_secret]]; exact (LtIn.iff.1 hw).2.2, ⟨S.uu, S⟩⟩
              | exact ⟨_, _, _, Nat.sub_le_sub_right hcap.1 1, Nat.le_trans (Nat.sub_le ..) hlen, by clear S hy hJ hF f1 f2 f3 f4 hM hlen hcap; simp_all [givesF, secretL_t, canF_secret], fun w hw => by rw [show givesF (inM km) t = t.kids.drop 1 from by clear S hy hJ hF f1 f2 f3 f4 hM hlen hcap; simp_all [givesF, secretL_t, canF_secret]]; exact LsIn.cut (LtIn.iff.1 hw).2.2 (LtIn.iff.1 hw).1, ⟨S.uu, S⟩⟩
            · refine c_skip ?_; refine xbn ?_; refine xtn ?_
              first
              | exact ⟨none, 0, 0, Nat.le_refl _, by omega, by clear S hy hJ hF f1 f2 f3 f4 hM hlen hcap; simp_all [givesF, secretL_t, canF_secret], fun w _ => by rw [show givesF (inM km) t = [] from by clear S hy hJ hF f1 f2 f3 f4 hM hlen hcap; simp_all [givesF, secretL_t, canF_secret]]; simp [LsIn], ⟨S.uu, S⟩⟩
              | exact ⟨t.p, _, t.cap, hcap.1, hlen, by clear S hy hJ hF f1 f2 f3 f4 hM hlen hcap; simp_all [givesF, secretL_t, canF_secret], fun w hw => by rw [show givesF (inM km) t = t.kids from by clear S hy hJ hF f1 f2 f3 f4 hM hlen hcap; simp_all [givesF, secretL_t, canF_secret]]; exact (LtIn.iff.1 hw).2.2, ⟨S.uu, S⟩⟩
              | exact ⟨_, _, _, Nat.sub_le_sub_right hcap.1 1, Nat.le_trans (Nat.sub_le ..) hlen, by clear S hy hJ hF f1 f2 f3 f4 hM hlen hcap; simp_all [givesF, secretL_t, canF_secret], fun w hw => by rw [show givesF (inM km) t = t.kids.drop 1 from by clear S hy hJ hF f1 f2 f3 f4 hM hlen hcap; simp_all [givesF, secretL_t, canF_secret]]; exact LsIn.cut (LtIn.iff.1 hw).2.2 (LtIn.iff.1 hw).1, ⟨S.uu, S⟩⟩
          · refine c_skip ?_; refine xbn ?_; refine xtn ?_
            first
            | exact ⟨none, 0, 0, Nat.le_refl _, by omega, by clear S hy hJ hF f1 f2 f3 f4 hM hlen hcap; simp_all [givesF, secretL_t, canF_secret], fun w _ => by rw [show givesF (inM km) t = [] from by clear S hy hJ hF f1 f2 f3 f4 hM hlen hcap; simp_all [givesF, secretL_t, canF_secret]]; simp [LsIn], ⟨S.uu, S⟩⟩
            | exact ⟨t.p, _, t.cap, hcap.1, hlen, by clear S hy hJ hF f1 f2 f3 f4 hM hlen hcap; simp_all [givesF, secretL_t, canF_secret], fun w hw => by rw [show givesF (inM km) t = t.kids from by clear S hy hJ hF f1 f2 f3 f4 hM hlen hcap; simp_all [givesF, secretL_t, canF_secret]]; exact (LtIn.iff.1 hw).2.2, ⟨S.uu, S⟩⟩
            | exact ⟨_, _, _, Nat.sub_le_sub_right hcap.1 1, Nat.le_trans (Nat.sub_le ..) hlen, by clear S hy hJ hF f1 f2 f3 f4 hM hlen hcap; simp_all [givesF, secretL_t, canF_secret], fun w hw => by rw [show givesF (inM km) t = t.kids.drop 1 from by clear S hy hJ hF f1 f2 f3 f4 hM hlen hcap; simp_all [givesF, secretL_t, canF_secret]]; exact LsIn.cut (LtIn.iff.1 hw).2.2 (LtIn.iff.1 hw).1, ⟨S.uu, S⟩⟩
    · refine c_region ?_; (iterate 2 (refine sq S ?_; clear S; intro a S)); refine wl_nil ?_; refine xtn ?_
      refine c_cond S (fun h3 => ?_) (fun h3 => ?_)
      · refine c_region ?_; (iterate 3 (refine sq S ?_; clear S; intro a S)); refine wl_nil ?_; refine xbn ?_; refine xtn ?_
        first
        | exact ⟨none, 0, 0, Nat.le_refl _, by omega, by clear S hy hJ hF f1 f2 f3 f4 hM hlen hcap; simp_all [givesF, secretL_t, canF_secret], fun w _ => by rw [show givesF (inM km) t = [] from by clear S hy hJ hF f1 f2 f3 f4 hM hlen hcap; simp_all [givesF, secretL_t, canF_secret]]; simp [LsIn], ⟨S.uu, S⟩⟩
        | exact ⟨t.p, _, t.cap, hcap.1, hlen, by clear S hy hJ hF f1 f2 f3 f4 hM hlen hcap; simp_all [givesF, secretL_t, canF_secret], fun w hw => by rw [show givesF (inM km) t = t.kids from by clear S hy hJ hF f1 f2 f3 f4 hM hlen hcap; simp_all [givesF, secretL_t, canF_secret]]; exact (LtIn.iff.1 hw).2.2, ⟨S.uu, S⟩⟩
        | exact ⟨_, _, _, Nat.sub_le_sub_right hcap.1 1, Nat.le_trans (Nat.sub_le ..) hlen, by clear S hy hJ hF f1 f2 f3 f4 hM hlen hcap; simp_all [givesF, secretL_t, canF_secret], fun w hw => by rw [show givesF (inM km) t = t.kids.drop 1 from by clear S hy hJ hF f1 f2 f3 f4 hM hlen hcap; simp_all [givesF, secretL_t, canF_secret]]; exact LsIn.cut (LtIn.iff.1 hw).2.2 (LtIn.iff.1 hw).1, ⟨S.uu, S⟩⟩
      · refine c_seq ?_; refine c_region ?_; (iterate 2 (refine sq S ?_; clear S; intro a S)); refine wl_nil ?_; refine xtn ?_
        refine c_cond S (fun h5 => ?_) (fun h5 => ?_)
        · refine c_seq ?_
          have e6 : t.kind = 6 := by simpa using h5
          have hK : KLt 0 t.kids.length := ⟨hk6 e6⟩
          refine c_drawD [(0, true), (1, true), (2, true), (3, true), (4, true), (5, false)] [] S ?_; clear S; intro w S
          (iterate 5 (refine dq S ?_; clear S; intro a S)); refine dl ?_; refine sc S ?_; clear S; intro a w S; refine de S ?_; refine dn ?_; refine xtn ?_
          refine c_cond S (fun h6 => ?_) (fun h6 => ?_)
          · refine c_region ?_; (iterate 2 (refine sq S ?_; clear S; intro a S))
            refine ssl S ?_ ?_ ?_ ?_; exact Nat.le_refl _; exact hcap.1; exact hk6 e6; clear S; intro a S
            refine sq S ?_; clear S; intro a S; refine wl_nil ?_; refine xbn ?_; refine xtn ?_
            first
            | exact ⟨none, 0, 0, Nat.le_refl _, by omega, by clear S hy hJ hF f1 f2 f3 f4 hM hlen hcap; simp_all [givesF, secretL_t, canF_secret], fun w _ => by rw [show givesF (inM km) t = [] from by clear S hy hJ hF f1 f2 f3 f4 hM hlen hcap; simp_all [givesF, secretL_t, canF_secret]]; simp [LsIn], ⟨S.uu, S⟩⟩
            | exact ⟨t.p, _, t.cap, hcap.1, hlen, by clear S hy hJ hF f1 f2 f3 f4 hM hlen hcap; simp_all [givesF, secretL_t, canF_secret], fun w hw => by rw [show givesF (inM km) t = t.kids from by clear S hy hJ hF f1 f2 f3 f4 hM hlen hcap; simp_all [givesF, secretL_t, canF_secret]]; exact (LtIn.iff.1 hw).2.2, ⟨S.uu, S⟩⟩
            | exact ⟨_, _, _, Nat.sub_le_sub_right hcap.1 1, Nat.le_trans (Nat.sub_le ..) hlen, by clear S hy hJ hF f1 f2 f3 f4 hM hlen hcap; simp_all [givesF, secretL_t, canF_secret], fun w hw => by rw [show givesF (inM km) t = t.kids.drop 1 from by clear S hy hJ hF f1 f2 f3 f4 hM hlen hcap; simp_all [givesF, secretL_t, canF_secret]]; exact LsIn.cut (LtIn.iff.1 hw).2.2 (LtIn.iff.1 hw).1, ⟨S.uu, S⟩⟩
          · refine c_skip ?_; refine xbn ?_; refine xtn ?_
            first
            | exact ⟨none, 0, 0, Nat.le_refl _, by omega, by clear S hy hJ hF f1 f2 f3 f4 hM hlen hcap; simp_all [givesF, secretL_t, canF_secret], fun w _ => by rw [show givesF (inM km) t = [] from by clear S hy hJ hF f1 f2 f3 f4 hM hlen hcap; simp_all [givesF, secretL_t, canF_secret]]; simp [LsIn], ⟨S.uu, S⟩⟩
            | exact ⟨t.p, _, t.cap, hcap.1, hlen, by clear S hy hJ hF f1 f2 f3 f4 hM hlen hcap; simp_all [givesF, secretL_t, canF_secret], fun w hw => by rw [show givesF (inM km) t = t.kids from by clear S hy hJ hF f1 f2 f3 f4 hM hlen hcap; simp_all [givesF, secretL_t, canF_secret]]; exact (LtIn.iff.1 hw).2.2, ⟨S.uu, S⟩⟩
            | exact ⟨_, _, _, Nat.sub_le_sub_right hcap.1 1, Nat.le_trans (Nat.sub_le ..) hlen, by clear S hy hJ hF f1 f2 f3 f4 hM hlen hcap; simp_all [givesF, secretL_t, canF_secret], fun w hw => by rw [show givesF (inM km) t = t.kids.drop 1 from by clear S hy hJ hF f1 f2 f3 f4 hM hlen hcap; simp_all [givesF, secretL_t, canF_secret]]; exact LsIn.cut (LtIn.iff.1 hw).2.2 (LtIn.iff.1 hw).1, ⟨S.uu, S⟩⟩
        · refine c_seq ?_; refine c_region ?_; (iterate 2 (refine sq S ?_; clear S; intro a S)); refine wl_nil ?_; refine xtn ?_
          refine c_cond S (fun h8 => ?_) (fun h8 => ?_)
          · refine c_seq ?_
            refine c_drawD [(0, true), (1, true), (2, true), (3, false), (4, false)] [] S ?_; clear S; intro w S
            (iterate 3 (refine dq S ?_; clear S; intro a S)); refine dl ?_; refine sc S ?_; clear S; intro a w S; refine de S ?_; refine dl ?_; refine sc S ?_; clear S; intro a w S; refine de S ?_; refine dn ?_; refine xtn ?_
            refine c_cond S (fun h9 => ?_) (fun h9 => ?_)
            · refine c_region ?_; (iterate 3 (refine sq S ?_; clear S; intro a S)); refine wl_nil ?_; refine xbn ?_; refine xtn ?_
              first
              | exact ⟨none, 0, 0, Nat.le_refl _, by omega, by clear S hy hJ hF f1 f2 f3 f4 hM hlen hcap; simp_all [givesF, secretL_t, canF_secret], fun w _ => by rw [show givesF (inM km) t = [] from by clear S hy hJ hF f1 f2 f3 f4 hM hlen hcap; simp_all [givesF, secretL_t, canF_secret]]; simp [LsIn], ⟨S.uu, S⟩⟩
              | exact ⟨t.p, _, t.cap, hcap.1, hlen, by clear S hy hJ hF f1 f2 f3 f4 hM hlen hcap; simp_all [givesF, secretL_t, canF_secret], fun w hw => by rw [show givesF (inM km) t = t.kids from by clear S hy hJ hF f1 f2 f3 f4 hM hlen hcap; simp_all [givesF, secretL_t, canF_secret]]; exact (LtIn.iff.1 hw).2.2, ⟨S.uu, S⟩⟩
              | exact ⟨_, _, _, Nat.sub_le_sub_right hcap.1 1, Nat.le_trans (Nat.sub_le ..) hlen, by clear S hy hJ hF f1 f2 f3 f4 hM hlen hcap; simp_all [givesF, secretL_t, canF_secret], fun w hw => by rw [show givesF (inM km) t = t.kids.drop 1 from by clear S hy hJ hF f1 f2 f3 f4 hM hlen hcap; simp_all [givesF, secretL_t, canF_secret]]; exact LsIn.cut (LtIn.iff.1 hw).2.2 (LtIn.iff.1 hw).1, ⟨S.uu, S⟩⟩
            · refine c_skip ?_; refine xbn ?_; refine xtn ?_
              first
              | exact ⟨none, 0, 0, Nat.le_refl _, by omega, by clear S hy hJ hF f1 f2 f3 f4 hM hlen hcap; simp_all [givesF, secretL_t, canF_secret], fun w _ => by rw [show givesF (inM km) t = [] from by clear S hy hJ hF f1 f2 f3 f4 hM hlen hcap; simp_all [givesF, secretL_t, canF_secret]]; simp [LsIn], ⟨S.uu, S⟩⟩
              | exact ⟨t.p, _, t.cap, hcap.1, hlen, by clear S hy hJ hF f1 f2 f3 f4 hM hlen hcap; simp_all [givesF, secretL_t, canF_secret], fun w hw => by rw [show givesF (inM km) t = t.kids from by clear S hy hJ hF f1 f2 f3 f4 hM hlen hcap; simp_all [givesF, secretL_t, canF_secret]]; exact (LtIn.iff.1 hw).2.2, ⟨S.uu, S⟩⟩
              | exact ⟨_, _, _, Nat.sub_le_sub_right hcap.1 1, Nat.le_trans (Nat.sub_le ..) hlen, by clear S hy hJ hF f1 f2 f3 f4 hM hlen hcap; simp_all [givesF, secretL_t, canF_secret], fun w hw => by rw [show givesF (inM km) t = t.kids.drop 1 from by clear S hy hJ hF f1 f2 f3 f4 hM hlen hcap; simp_all [givesF, secretL_t, canF_secret]]; exact LsIn.cut (LtIn.iff.1 hw).2.2 (LtIn.iff.1 hw).1, ⟨S.uu, S⟩⟩
          · refine c_skip ?_; refine xbn ?_; refine xtn ?_
            first
            | exact ⟨none, 0, 0, Nat.le_refl _, by omega, by clear S hy hJ hF f1 f2 f3 f4 hM hlen hcap; simp_all [givesF, secretL_t, canF_secret], fun w _ => by rw [show givesF (inM km) t = [] from by clear S hy hJ hF f1 f2 f3 f4 hM hlen hcap; simp_all [givesF, secretL_t, canF_secret]]; simp [LsIn], ⟨S.uu, S⟩⟩
            | exact ⟨t.p, _, t.cap, hcap.1, hlen, by clear S hy hJ hF f1 f2 f3 f4 hM hlen hcap; simp_all [givesF, secretL_t, canF_secret], fun w hw => by rw [show givesF (inM km) t = t.kids from by clear S hy hJ hF f1 f2 f3 f4 hM hlen hcap; simp_all [givesF, secretL_t, canF_secret]]; exact (LtIn.iff.1 hw).2.2, ⟨S.uu, S⟩⟩
            | exact ⟨_, _, _, Nat.sub_le_sub_right hcap.1 1, Nat.le_trans (Nat.sub_le ..) hlen, by clear S hy hJ hF f1 f2 f3 f4 hM hlen hcap; simp_all [givesF, secretL_t, canF_secret], fun w hw => by rw [show givesF (inM km) t = t.kids.drop 1 from by clear S hy hJ hF f1 f2 f3 f4 hM hlen hcap; simp_all [givesF, secretL_t, canF_secret]]; exact LsIn.cut (LtIn.iff.1 hw).2.2 (LtIn.iff.1 hw).1, ⟨S.uu, S⟩⟩
  · clear S; rintro a w ⟨p, n, c, hnc, hn63, hlenG, hls, uu, S⟩
    replace S := S.add (Φ := LsF p 0 (givesF (inM km) t)) ((S.fact (Φ := LtF t) (by simp)).imp hls)
    refine c_seq ?_; refine c_region ?_; (iterate 3 (refine sq S ?_; clear S; intro a S)); refine wl_nil ?_; refine xtn ?_; refine c_block ?_
    refine c_loop (ι := Nat) (fun k a w => k ≤ n ∧ ∃ N w1, J k w1 ∧ ∃ uu : Nat → Value,  St w1 (fun _ => False) [] a w ((.func (.yield L) #[] #[]) :: (.pointer (some ⟨b1, 0, none⟩)) :: (.pointer (some ⟨b2, 0, none⟩)) :: uu 3 :: uu 4 :: uu 5 :: uu 6 :: uu 7 :: uu 8 :: uu 9 :: uu 10 :: uu 11 :: uu 12 :: uu 13 :: uu 14 :: uu 15 :: uu 16 :: uu 17 :: uu 18 :: uu 19 :: uu 20 :: uu 21 :: uu 22 :: uu 23 :: uu 24 :: uu 25 :: uu 26 :: uu 27 :: uu 28 :: uu 29 :: uu 30 :: uu 31 :: uu 32 :: uu 33 :: (.slice p n c) :: (.int .i64 n) :: (.int .i64 (k : Nat)) :: uu 37 :: uu 38 :: uu 39 :: uu 40 :: uu 41 :: uu 42 :: uu 43 :: uu 44 :: []) [ext N] [LsF p 0 (givesF (inM km) t), BoxF b1 37 t.cells, BoxF b2 73 [.map (some b)], MpF b (kvM km), LtF t]) (fun k => n - k) 0 ?_ ?_
    · exact ⟨Nat.zero_le _, M, w0, hJ, S.uu, S⟩
    · clear S
      rintro k a w ⟨hk, N, w1, hJk, uu, S⟩
      refine c_seq ?_; refine c_region ?_; refine sq S ?_; clear S; intro a S; refine wl_nil ?_; refine xtn ?_; refine c_seq ?_
      refine c_cond S (fun h12 => ?_) (fun h12 => ?_)
      · refine c_skip ?_; refine xtn ?_; refine c_seq ?_; refine c_block ?_; refine c_seq ?_
        have hkl : k < n := by simp at h12; omega
        have hK : KLt k n := ⟨hkl⟩
        have hK2 : KLt k (givesF (inM km) t).length := ⟨by omega⟩
        refine c_region ?_; (iterate 2 (refine sq S ?_; clear S; intro a S))
        refine sa S ?_; clear S; intro b6 a w S
        refine sw S ?_; clear S; intro a w S; refine wl_nil ?_; refine xtn ?_; refine c_seq ?_; refine c_region ?_; (iterate 2 (refine sq S ?_; clear S; intro a S))
        refine sy S (M := M) (wI := w0) (fs0 := [LsF p 0 (givesF (inM km) t), BoxF b1 37 t.cells, BoxF b2 73 [.map (some b)], MpF b (kvM km), LtF t]) (by simp; exact ⟨f4.imp hls, f1, f2, f3, f4⟩)
          (hy k _ _ w1 w (nth_get (by omega)) hJk S.wd.agree rfl) ?_; clear S; intro ok N' a w2 hT hX S
        refine sq S ?_; clear S; intro a S; refine wl_nil ?_; refine xtn ?_
        refine c_cond S (fun h14 => ?_) (fun h14 => ?_)
        · refine c_ret ?_; refine xbr ?_; (iterate 2 (refine xtr ?_)); refine xbr ?_
          exact endI S ⟨w2, S.wd.agree, .inr (hX (by simpa using h14))⟩
        · refine c_skip ?_; refine xbn ?_; refine xtn ?_; refine c_region ?_; (iterate 2 (refine sq S ?_; clear S; intro a S)); refine wl_nil ?_; refine xtn ?_
          rw [w64 ((k : Int) + 1) (by omega) (by omega)] at S
          exact ⟨k + 1, ⟨hkl, N', w2, hT (by simpa using h14), S.uu, S⟩, by omega⟩
      · refine c_exit ?_; (iterate 2 (refine xte ?_)); refine xbe ?_
        refine endI S ⟨w1, S.wd.agree, .inl ?_⟩
        have h6 : n ≤ k := by simp at h12; omega
        rw [hlenG, show n = k from by omega]; exact hJk
inductive Der (K : List Term) : Term → Prop where
  | known {t : Term} (h : t ∈ K) : Der K t
  | text {u n : Int} {s : List UInt8} {ks : List Term} : Der K (.mk 1 u n s ks)
  | make {k u n : Int} {s : List UInt8} {ks : List Term} (h2 : k ≠ 2) (h3 : k ≠ 3) (h8 : k = 8 → Der K (secretT u)) (hk : ∀ t ∈ ks, Der K t) : Der K (.mk k u n s ks)
  | part {k u n : Int} {s : List UInt8} {ks : List Term} {t : Term} (hk : k = 4 ∨ k = 8) (h : Der K (.mk k u n s ks)) (ht : t ∈ ks) : Der K t
  | unlock {u n : Int} {s : List UInt8} {key : Term} {ks : List Term} {t : Term} (h : Der K (.mk 6 u n s (key :: ks))) (hk : Der K key) (ht : t ∈ ks) : Der K t
  | open7 {u n : Int} {s : List UInt8} {ks : List Term} {t : Term} (h : Der K (.mk 7 u n s ks)) (hk : Der K (secretT u)) (ht : t ∈ ks) : Der K t
def givesT (H : List UInt8 → Bool) : Term → List Term
  | .mk k u n s ks =>
    if k = 4 ∨ k = 8 then ks else if k = 6 then (if canF H (ks.headD Wk.zeroT) then ks.drop 1 else []) else if k = 7 then (if H (nameF (secretT u)) then ks else []) else []
theorem gives_map (H : List UInt8 → Bool) (t : LTerm) : (givesF H t).map LTerm.t = givesT H t.t := by
  have e : (nthL t.kids 0).t = (t.kids.map LTerm.t).headD Wk.zeroT := by
    cases h : t.kids with
    | nil => rfl
    | cons x xs => rfl
  rw [t.t_eq, givesT, givesF, e]
  split
  · rfl
  · split
    · split
      · rw [List.map_drop]
      · rfl
    · split
      · split <;> rfl
      · rfl
theorem inM_iff {km : List (List UInt8 × LTerm)} {k : List UInt8} : inM km k = true ↔ ∃ e ∈ km, e.1 = k := by
  unfold inM
  induction km with
  | nil => simp [tget]
  | cons e km ih =>
    obtain ⟨u, x⟩ := e
    rw [tget]
    split
    · rename_i h; simp [h]
    · rename_i h; rw [ih]; simp [Ne.symm h]
theorem inM_append {km km' : List (List UInt8 × LTerm)} {k : List UInt8} : inM (km ++ km') k = (inM km k || inM km' k) := by
  rw [Bool.eq_iff_iff, Bool.or_eq_true, inM_iff, inM_iff, inM_iff]
  constructor
  · rintro ⟨e, he, h⟩
    exact (List.mem_append.1 he).elim (fun q => .inl ⟨e, q, h⟩) (fun q => .inr ⟨e, q, h⟩)
  · rintro (⟨e, he, h⟩ | ⟨e, he, h⟩)
    · exact ⟨e, by simp [he], h⟩
    · exact ⟨e, by simp [he], h⟩
structure Apart (K : List Term) (km : List (List UInt8 × LTerm)) : Prop where
  names : ∀ e ∈ km, e.1 = nameF e.2.t
  good : ∀ e ∈ km, Good e.2.t ∧ Der K e.2.t
  cover : ∀ t ∈ K, inM km (nameF t) = true
  closed : ∀ e ∈ km, ∀ y ∈ givesT (inM km) e.2.t, inM km (nameF y) = true
  nd : (km.map (·.1)).Nodup
theorem inM_der {K : List Term} {km : List (List UInt8 × LTerm)} (hn : ∀ e ∈ km, e.1 = nameF e.2.t) (hg : ∀ e ∈ km, Good e.2.t ∧ Der K e.2.t) {t : Term} (ht : Good t) (h : inM km (nameF t) = true) : Der K t := by
  obtain ⟨e, he, h1⟩ := inM_iff.1 h
  rw [hn e he] at h1
  rw [← name_inj (hg e he).1 ht h1]
  exact (hg e he).2
mutual
theorem can_der {K : List Term} {km : List (List UInt8 × LTerm)} (hn : ∀ e ∈ km, e.1 = nameF e.2.t) (hg : ∀ e ∈ km, Good e.2.t ∧ Der K e.2.t) : ∀ t : Term, Good t → canF (inM km) t = true → Der K t
  | .mk k u n s ks => by
    intro ht h
    rw [canF] at h
    simp only [Bool.or_eq_true, Bool.and_eq_true, Bool.not_eq_true', Bool.or_eq_false_iff, decide_eq_true_eq, decide_eq_false_iff_not] at h
    rcases h with (h | rfl) | ⟨⟨h2, h3⟩, h8, hk⟩
    · exact inM_der hn hg ht h
    · exact .text
    · have hp := plain_shape (by cases ok_of_size ht with | mk h _ => exact h)
      refine .make h2 h3 (fun e8 => ?_) (canL_der hn hg ks (fun t h => good_kid ht h) hk)
      rcases h8 with h8 | h8
      · exact absurd e8 h8
      · exact inM_der hn hg (good_secret (by omega)) h8
theorem canL_der {K : List Term} {km : List (List UInt8 × LTerm)} (hn : ∀ e ∈ km, e.1 = nameF e.2.t) (hg : ∀ e ∈ km, Good e.2.t ∧ Der K e.2.t) : ∀ ts : List Term, (∀ t ∈ ts, Good t) → canLF (inM km) ts = true → ∀ t ∈ ts, Der K t
  | [] => by intro _ _ t ht; cases ht
  | x :: xs => by
    intro hG h t ht
    rw [canLF, Bool.and_eq_true] at h
    rcases List.mem_cons.1 ht with he | ht
    · rw [he]; exact can_der hn hg x (hG x (by simp)) h.1
    · exact canL_der hn hg xs (fun t h => hG t (by simp [h])) h.2 t ht
end
theorem canL_iff {H : List UInt8 → Bool} {ts : List Term} : canLF H ts = true ↔ ∀ t ∈ ts, canF H t = true := by
  induction ts with
  | nil => simp [canLF]
  | cons x xs ih => simp [canLF, ih]
theorem can_in {H : List UInt8 → Bool} {t : Term} (h : H (nameF t) = true) : canF H t = true := by
  cases t; rw [canF, h]; rfl
theorem name_ne {t : Term} (h : Good t) : nameF t ≠ [] := by
  rw [nameF, if_neg h]
  cases t
  rw [bytesF, headF]; simp
theorem can_cases {K : List Term} {km : List (List UInt8 × LTerm)} (A : Apart K km) {k u n : Int} {s : List UInt8} {ks : List Term} (h : canF (inM km) (.mk k u n s ks) = true) (hk : k ≠ 1) :
    (∃ e ∈ km, e.2.t = .mk k u n s ks) ∨ (∀ t ∈ ks, canF (inM km) t = true) := by
  rw [canF] at h
  simp only [Bool.or_eq_true, Bool.and_eq_true, decide_eq_true_eq] at h
  rcases h with (h | h) | ⟨_, _, h⟩
  · obtain ⟨e, he, h1⟩ := inM_iff.1 h
    refine .inl ⟨e, he, ?_⟩
    rw [A.names e he] at h1
    by_cases hG : Good (.mk k u n s ks)
    · exact name_inj (A.good e he).1 hG h1
    · have hG' : sizeF (.mk k u n s ks) = 0 := by
        unfold Good at hG
        exact Classical.not_not.1 hG
      rw [show nameF (.mk k u n s ks) = [] from by rw [nameF, if_pos hG']] at h1
      exact absurd h1 (name_ne (A.good e he).1)
  · exact absurd h hk
  · exact .inr (canL_iff.1 h)
theorem der_can {K : List Term} {km : List (List UInt8 × LTerm)} (A : Apart K km) {t : Term} (h : Der K t) : canF (inM km) t = true := by
  induction h with
  | known h => exact can_in (A.cover _ h)
  | text => simp [canF]
  | @make k u n s ks h2 h3 _ _ ih8 ihk =>
    rw [canF]
    have e1 : canLF (inM km) ks = true := canL_iff.2 ihk
    have e2 : (!decide (k = 8) || inM km (nameF (secretT u))) = true := by
      by_cases h8 : k = 8
      · have := ih8 h8
        rw [canF_secret] at this
        rw [this]; simp
      · simp [h8]
    rw [e1, e2]; simp [h2, h3]
  | @part k u n s ks t hk _ ht ih =>
    rcases can_cases A ih (by omega) with ⟨e, he, h1⟩ | h1
    · refine can_in (A.closed e he t ?_)
      rw [h1, givesT, if_pos hk]; exact ht
    · exact h1 t ht
  | @unlock u n s key ks t _ _ ht ih1 ih2 =>
    rcases can_cases A ih1 (by omega) with ⟨e, he, h1⟩ | h1
    · refine can_in (A.closed e he t ?_)
      rw [h1, givesT, if_neg (by omega), if_pos rfl, List.headD_cons, if_pos ih2]; exact ht
    · exact h1 t (by simp [ht])
  | @open7 u n s ks t _ _ ht ih1 ih2 =>
    rcases can_cases A ih1 (by omega) with ⟨e, he, h1⟩ | h1
    · refine can_in (A.closed e he t ?_)
      rw [canF_secret] at ih2
      rw [h1, givesT, if_neg (by omega), if_neg (by omega), if_pos rfl, if_pos ih2]; exact ht
    · exact h1 t ht
theorem can_iff {K : List Term} {km : List (List UInt8 × LTerm)} (A : Apart K km) {t : Term} (ht : Good t) : canF (inM km) t = true ↔ Der K t := ⟨can_der A.names A.good t ht, der_can A⟩
inductive SubT (K : List Term) : Term → Prop where
  | top {t : Term} (h : t ∈ K) : SubT K t
  | kid {k u n : Int} {s : List UInt8} {ks : List Term} {t : Term} (h : SubT K (.mk k u n s ks)) (ht : t ∈ ks) : SubT K t
def Cov (st : List LTerm) (km : List (List UInt8 × LTerm)) (y : Term) : Prop := (∃ x ∈ st, x.t = y) ∨ inM km (nameF y) = true
def partsT : Term → List Term
  | .mk k _ _ _ ks => if k = 4 ∨ k = 8 ∨ k = 7 then ks else if k = 6 then ks.drop 1 else []
structure AInv (K : List Term) (O : LTerm → Prop) (st sh : List LTerm) (km : List (List UInt8 × LTerm)) : Prop where
  old : ∀ x, x ∈ st ∨ x ∈ sh ∨ (∃ e ∈ km, e.2 = x) → O x ∧ Good x.t ∧ Der K x.t
  names : ∀ e ∈ km, e.1 = nameF e.2.t
  cover : ∀ t ∈ K, Cov st km t
  closed : ∀ e ∈ km, (∃ x ∈ sh, x.t = e.2.t) ∨ ∀ y ∈ partsT e.2.t, Cov st km y
  nd : (km.map (·.1)).Nodup
def wS (st : List LTerm) : Nat := (st.map fun x => 2 * cnt x.t).sum
def wH (sh : List LTerm) : Nat := (sh.map fun x => 2 * cnt x.t - 1).sum
theorem wS_append (a b : List LTerm) : wS (a ++ b) = wS a + wS b := by simp [wS]
theorem wH_append (a b : List LTerm) : wH (a ++ b) = wH a + wH b := by simp [wH]
theorem wS_len (st : List LTerm) : st.length ≤ wS st := by
  induction st with
  | nil => simp
  | cons x xs ih =>
    have := cnt_pos x.t
    simp only [wS, List.map_cons, List.sum_cons, List.length_cons] at ih ⊢
    omega
theorem wH_len (st : List LTerm) : st.length ≤ wH st := by
  induction st with
  | nil => simp
  | cons x xs ih =>
    have := cnt_pos x.t
    simp only [wH, List.map_cons, List.sum_cons, List.length_cons] at ih ⊢
    omega
theorem wS_kids (t : LTerm) : wS t.kids + 2 = 2 * cnt t.t := by
  have h : ∀ ks : List LTerm, wS ks = 2 * cntL (ks.map LTerm.t) := by
    intro ks
    induction ks with
    | nil => rfl
    | cons x xs ih =>
      simp only [wS, List.map_cons, List.sum_cons, cntL] at ih ⊢
      omega
  rw [h, t.t_eq, cnt]; omega
theorem wS_gives (H : List UInt8 → Bool) (t : LTerm) : wS (givesF H t) + 2 ≤ 2 * cnt t.t := by
  have h1 := wS_kids t
  have h2 : wS (t.kids.drop 1) ≤ wS t.kids := by
    have : wS t.kids = wS (t.kids.take 1) + wS (t.kids.drop 1) := by rw [← wS_append, List.take_append_drop]
    omega
  have h3 : wS ([] : List LTerm) = 0 := rfl
  unfold givesF
  split
  · omega
  · split
    · split <;> omega
    · split
      · split <;> omega
      · omega
theorem wH_erase (sh : List LTerm) (i : Nat) (x : LTerm) (h : sh[i]? = some x) : wH (sh.eraseIdx i) + (2 * cnt x.t - 1) = wH sh := by
  induction sh generalizing i with
  | nil => simp at h
  | cons y ys ih =>
    cases i with
    | zero => simp at h; subst h; simp [wH]; omega
    | succ i =>
      have := ih i (by simpa using h)
      simp only [wH, List.eraseIdx_cons_succ, List.map_cons, List.sum_cons] at this ⊢
      omega
section
variable {K : List Term} {O : LTerm → Prop} {st sh : List LTerm} {km : List (List UInt8 × LTerm)} {x : LTerm}
theorem AInv.found (h : AInv K O (st ++ [x]) sh km) (hx : inM km (nameF x.t) = true) : AInv K O st sh km := by
  have hc : ∀ y, Cov (st ++ [x]) km y → Cov st km y := by
    rintro y (⟨z, hz, rfl⟩ | hy)
    · rcases List.mem_append.1 hz with hz | hz
      · exact .inl ⟨z, hz, rfl⟩
      · obtain rfl := List.mem_singleton.1 hz; exact .inr hx
    · exact .inr hy
  exact ⟨fun y hy => h.old y (hy.imp (fun q => by simp [q]) id), h.names, fun t ht => hc t (h.cover t ht), fun e he => (h.closed e he).imp id fun q y hy => hc y (q y hy), h.nd⟩
theorem nd_push {km : List (List UInt8 × LTerm)} {k : List UInt8} {x : LTerm} (h : (km.map (·.1)).Nodup) (hk : inM km k = false) : ((km ++ [(k, x)]).map (·.1)).Nodup := by
  rw [List.map_append, List.map_singleton]
  refine List.nodup_append.2 ⟨h, by simp, fun a ha b hb hab => ?_⟩
  obtain ⟨e, he, rfl⟩ := List.mem_map.1 ha
  have hk2 : inM km k = true := inM_iff.2 ⟨e, he, hab.trans (List.mem_singleton.1 hb)⟩
  rw [hk] at hk2; cases hk2
theorem AInv.new (hxk : inM km (nameF x.t) = false) (h : AInv K O (st ++ [x]) sh km) (st' sh' : List LTerm) (hst : ∀ y ∈ st', y ∈ st ∨ (O y ∧ Good y.t ∧ Der K y.t)) (hsh : ∀ y ∈ sh', y ∈ sh ∨ y = x) (hst2 : ∀ y ∈ st, y ∈ st') (hsh2 : ∀ y ∈ sh, y ∈ sh')
    (hx : (∃ y ∈ sh', y.t = x.t) ∨ ∀ y ∈ partsT x.t, Cov st' (km ++ [(nameF x.t, x)]) y) : AInv K O st' sh' (km ++ [(nameF x.t, x)]) := by
  have hox := h.old x (.inl (by simp))
  have hc : ∀ y, Cov (st ++ [x]) km y → Cov st' (km ++ [(nameF x.t, x)]) y := by
    rintro y (⟨z, hz, rfl⟩ | hy)
    · rcases List.mem_append.1 hz with hz | hz
      · exact .inl ⟨z, hst2 z hz, rfl⟩
      · obtain rfl := List.mem_singleton.1 hz
        exact .inr (inM_iff.2 ⟨(nameF z.t, z), by simp, rfl⟩)
    · exact .inr (by rw [inM_append, hy]; rfl)
  refine ⟨fun y hy => ?_, fun e he => ?_, fun t ht => hc t (h.cover t ht), fun e he => ?_, nd_push h.nd hxk⟩
  · rcases hy with hy | hy | ⟨e, he, rfl⟩
    · rcases hst y hy with q | q
      · exact h.old y (.inl (by simp [q]))
      · exact q
    · rcases hsh y hy with q | rfl
      · exact h.old y (.inr (.inl q))
      · exact hox
    · rcases List.mem_append.1 he with he | he
      · exact h.old _ (.inr (.inr ⟨e, he, rfl⟩))
      · obtain rfl := List.mem_singleton.1 he; exact hox
  · rcases List.mem_append.1 he with he | he
    · exact h.names e he
    · obtain rfl := List.mem_singleton.1 he; rfl
  · rcases List.mem_append.1 he with he | he
    · rcases h.closed e he with ⟨y, hy, q⟩ | q
      · exact .inl ⟨y, hsh2 y hy, q⟩
      · exact .inr fun y hy => hc y (q y hy)
    · obtain rfl := List.mem_singleton.1 he; exact hx
theorem AInv.open48 (hxk : inM km (nameF x.t) = false) (hO : ∀ x, O x → ∀ y ∈ x.kids, O y) (h : AInv K O (st ++ [x]) sh km) (hk : x.kind = 4 ∨ x.kind = 8) : AInv K O (st ++ x.kids) sh (km ++ [(nameF x.t, x)]) := by
  obtain ⟨o1, o2, o3⟩ := h.old x (.inl (by simp))
  refine h.new hxk _ _ (fun y hy => ?_) (fun y hy => .inl hy) (fun y hy => by simp [hy]) (fun y hy => hy) (.inr fun y hy => ?_)
  · rcases List.mem_append.1 hy with hy | hy
    · exact .inl hy
    · rw [x.t_eq] at o2 o3
      have hm : y.t ∈ x.kids.map LTerm.t := List.mem_map.2 ⟨y, hy, rfl⟩
      exact .inr ⟨hO x o1 y hy, good_kid o2 hm, .part hk o3 hm⟩
  · rw [x.t_eq, partsT, if_pos (by omega)] at hy
    obtain ⟨z, hz, rfl⟩ := List.mem_map.1 hy
    exact .inl ⟨z, by simp [hz], rfl⟩
theorem AInv.shut (hxk : inM km (nameF x.t) = false) (h : AInv K O (st ++ [x]) sh km) : AInv K O st (sh ++ [x]) (km ++ [(nameF x.t, x)]) :=
  h.new hxk _ _ (fun y hy => .inl hy) (fun y hy => (List.mem_append.1 hy).imp id fun q => List.mem_singleton.1 q) (fun y hy => hy) (fun y hy => by simp [hy]) (.inl ⟨x, by simp, rfl⟩)
theorem AInv.other (hxk : inM km (nameF x.t) = false) (h : AInv K O (st ++ [x]) sh km) (h4 : x.kind ≠ 4) (h8 : x.kind ≠ 8) (h6 : x.kind ≠ 6) (h7 : x.kind ≠ 7) : AInv K O st sh (km ++ [(nameF x.t, x)]) :=
  h.new hxk _ _ (fun y hy => .inl hy) (fun y hy => .inl hy) (fun y hy => hy) (fun y hy => hy) (.inr fun y hy => by rw [x.t_eq, partsT, if_neg (by omega), if_neg h6] at hy; cases hy)
theorem gives_der (h : AInv K O st sh km) {t : Term} (hG : Good t) (ht : Der K t) {y : Term} (hy : y ∈ givesT (inM km) t) : Good y ∧ Der K y := by
  have hg : ∀ e ∈ km, Good e.2.t ∧ Der K e.2.t := fun e he => (h.old _ (.inr (.inr ⟨e, he, rfl⟩))).2
  obtain ⟨k, u, n, s, ks⟩ := t
  rw [givesT] at hy
  split at hy
  · rename_i hk; exact ⟨good_kid hG hy, .part hk ht hy⟩
  · split at hy
    · rename_i hk
      subst hk
      split at hy
      · rename_i hc
        cases ks with
        | nil => simp at hy
        | cons key ks => exact ⟨good_kid hG (by simp at hy; simp [hy]), .unlock ht (can_der h.names hg key (good_kid hG (by simp)) (by simpa using hc)) (by simpa using hy)⟩
      · cases hy
    · split at hy
      · rename_i hk
        subst hk
        split at hy
        · rename_i hc
          have hp := plain_shape (by cases ok_of_size hG with | mk h _ => exact h)
          exact ⟨good_kid hG hy, .open7 ht (inM_der h.names hg (good_secret (by omega)) hc) hy⟩
        · cases hy
      · cases hy
theorem gives_parts {H : List UInt8 → Bool} {t : Term} (h : givesT H t ≠ []) : givesT H t = partsT t := by
  obtain ⟨k, u, n, s, ks⟩ := t
  rw [givesT] at h
  rw [givesT, partsT]
  by_cases hk : k = 4 ∨ k = 8
  · rw [if_pos hk, if_pos (show k = 4 ∨ k = 8 ∨ k = 7 by omega)]
  · rw [if_neg hk] at h ⊢
    by_cases h6 : k = 6
    · rw [if_pos h6] at h ⊢
      rw [if_neg (show ¬ (k = 4 ∨ k = 8 ∨ k = 7) by omega), if_pos h6]
      by_cases hc : canF H (ks.headD Wk.zeroT) = true
      · rw [if_pos hc]
      · rw [if_neg hc] at h; exact absurd rfl h
    · rw [if_neg h6] at h ⊢
      by_cases h7 : k = 7
      · rw [if_pos h7] at h ⊢
        rw [if_pos (show k = 4 ∨ k = 8 ∨ k = 7 by omega)]
        by_cases hc : H (nameF (secretT u)) = true
        · rw [if_pos hc]
        · rw [if_neg hc] at h; exact absurd rfl h
      · rw [if_neg h7] at h; exact absurd rfl h
theorem AInv.reopen (hO : ∀ x, O x → ∀ y ∈ x.kids, O y) (h : AInv K O [] sh km) {i : Nat} (hx : sh[i]? = some x) (hne : givesF (inM km) x ≠ []) : AInv K O (givesF (inM km) x) (sh.eraseIdx i) km := by
  have hxm : x ∈ sh := List.mem_of_getElem? hx
  obtain ⟨o1, o2, o3⟩ := h.old x (.inr (.inl hxm))
  have hsub : ∀ y ∈ givesF (inM km) x, y ∈ x.kids := fun y hy => by
    unfold givesF at hy
    split at hy
    · exact hy
    · split at hy
      · split at hy
        · exact List.mem_of_mem_drop hy
        · cases hy
      · split at hy
        · split at hy
          · exact hy
          · cases hy
        · cases hy
  have hc : ∀ y, Cov [] km y → Cov (givesF (inM km) x) km y := fun y hy => hy.elim (fun ⟨z, hz, _⟩ => by cases hz) .inr
  have hgp : (givesF (inM km) x).map LTerm.t = partsT x.t := by
    rw [gives_map]
    refine gives_parts fun h0 => hne ?_
    rw [← gives_map] at h0
    exact List.map_eq_nil_iff.1 h0
  refine ⟨fun y hy => ?_, h.names, fun t ht => hc t (h.cover t ht), fun e he => ?_, h.nd⟩
  · rcases hy with hy | hy | hy
    · have hm : y.t ∈ givesT (inM km) x.t := by rw [← gives_map]; exact List.mem_map.2 ⟨y, hy, rfl⟩
      exact ⟨hO x o1 y (hsub y hy), gives_der h o2 o3 hm⟩
    · exact h.old y (.inr (.inl (List.mem_of_mem_eraseIdx hy)))
    · exact h.old y (.inr (.inr hy))
  · rcases h.closed e he with ⟨y, hy, q⟩ | q
    · by_cases hxy : y.t = x.t
      · right
        intro z hz
        rw [← q, hxy, ← hgp] at hz
        obtain ⟨v, hv, rfl⟩ := List.mem_map.1 hz
        exact .inl ⟨v, hv, rfl⟩
      · left
        refine ⟨y, ?_, q⟩
        obtain ⟨j, hj, hjy⟩ := List.mem_iff_getElem.1 hy
        refine List.mem_eraseIdx_iff_getElem?.2 ⟨j, fun hji => hxy ?_, by rw [← hjy]; exact List.getElem?_eq_getElem hj⟩
        subst hji
        rw [List.getElem?_eq_getElem hj, hjy] at hx
        cases hx; rfl
    · exact .inr fun z hz => hc z (q z hz)
theorem AInv.apart (h : AInv K O [] sh km) (hsh : ∀ x ∈ sh, givesF (inM km) x = []) : Apart K km := by
  have hc : ∀ y, Cov [] km y → inM km (nameF y) = true := fun y hy => hy.elim (fun ⟨z, hz, _⟩ => by cases hz) id
  refine ⟨h.names, fun e he => (h.old _ (.inr (.inr ⟨e, he, rfl⟩))).2, fun t ht => hc t (h.cover t ht), fun e he y hy => ?_, h.nd⟩
  rcases h.closed e he with ⟨x, hx, q⟩ | q
  · rw [← q, ← gives_map, hsh x hx] at hy; cases hy
  · refine hc y (q y ?_)
    rw [← gives_parts (fun h0 => by rw [h0] at hy; cases hy)]; exact hy
theorem AInv.start (ks : List LTerm) (hK : ks.map LTerm.t = K) (ho : ∀ x ∈ ks, O x ∧ Good x.t) : AInv K O ks [] [] := by
  refine ⟨fun x hx => ?_, fun e he => by (cases he), fun t ht => ?_, fun e he => by (cases he), by simp⟩
  · rcases hx with hx | hx | ⟨e, he, _⟩
    · exact ⟨(ho x hx).1, (ho x hx).2, .known (by rw [← hK]; exact List.mem_map.2 ⟨x, hx, rfl⟩)⟩
    · cases hx
    · cases he
  · rw [← hK] at ht
    obtain ⟨x, hx, rfl⟩ := List.mem_map.1 ht
    exact .inl ⟨x, hx, rfl⟩
end
theorem clone_c (xs : List LTerm) (p : Option Addr) (n c : Nat) (w0 : World) (hn : xs.length = n) (hl : n ≤ 10000000) (hx : Stable (fun _ => False) w0 (LsF p 0 xs)) :
    Ret Try.prog 46 [.slice p n c] w0 (fun _ => False) fun v w' => ∃ p' c', v = .slice p' n c' ∧ w'.ownsRow 0 37 5 (.slice p' n c') n (encL xs) ∧ ∀ ad, p' = some ad → w0.heap.size ≤ ad.block := by
  refine enter Try.func46 rfl rfl (Wd.begin (fs := [LsF p 0 xs]) (by simpa using hx)) (fun a S => ?_)
  simp only [Try.ntmps46, List.length_cons, List.length_nil, Nat.reduceAdd, Nat.reduceSub, List.replicate_succ, List.replicate_zero, List.cons_append, List.nil_append] at S
  refine c_seq ?_; refine c_region ?_; refine sq S ?_; clear S; intro a S; refine wl_nil ?_; refine xtn ?_; (iterate 2 (refine c_seq ?_)); refine c_region ?_; (iterate 2 (refine sq S ?_; clear S; intro a S)); refine wl_nil ?_; refine xtn ?_
  refine c_cond S (fun h1 => ?_) (fun h1 => ?_)
  · refine c_seq ?_; refine c_region ?_; refine sq S ?_; clear S; intro a S; refine wl_nil ?_; refine xtn ?_; refine c_ret ?_; refine xtr ?_
    have hp : p = none := by simpa using h1
    subst hp
    have hx0 := hx.now.nil_of
    subst hx0
    simp at hn
    subst hn
    refine end1 S (fun _ => ?_)
    exact ⟨none, 0, rfl, World.ownsRow_nil _ _ _ _, fun _ h => by cases h⟩
  · refine c_skip ?_; refine xtn ?_; refine c_seq ?_; refine c_region ?_
    refine sn S ?_; clear S; intro b5 a w S
    refine sq S ?_; clear S; intro a S
    replace S := S.boxRow b5 5 0 rfl (by omega)
    have hN : LenN xs n := ⟨hn⟩
    refine sap S (by simp [maxLen]; omega) (by omega) ?_; clear S; rintro p2 c2 a w - S
    rw [List.nil_append, Nat.zero_add] at S
    refine sq S ?_; clear S; intro a S; refine wl_nil ?_; refine xtn ?_; refine c_ret ?_
    have hrow := S.row p2 n
    have hnew := S.rowNew p2 n
    refine end1 S (fun _ => ?_)
    exact ⟨p2, c2, rfl, hrow, fun ad h => (hnew ad h).elim (fun h => h.elim) id⟩
theorem grow_c (n : Nat) (w0 : World) (hl : n ≤ 10000000) :
    Ret Try.prog 70 [.slice none 0 0, .int .i64 n] w0 (fun _ => False) fun v w' => ∃ p' c', v = .slice p' 0 c' ∧ w'.ownsRow 0 37 5 (.slice p' 0 c') 0 [] ∧ ∀ ad, p' = some ad → w0.heap.size ≤ ad.block := by
  refine enter Try.func70 rfl rfl (Wd.start w0) (fun a S => ?_)
  simp only [Try.ntmps70, List.length_cons, List.length_nil, Nat.reduceAdd, Nat.reduceSub, List.replicate_succ, List.replicate_zero, List.cons_append, List.nil_append] at S
  refine c_seq ?_; refine c_region ?_; refine sq S ?_; clear S; intro a S; refine wl_nil ?_; refine xtn ?_; (iterate 2 (refine c_seq ?_)); refine c_region ?_; (iterate 2 (refine sq S ?_; clear S; intro a S))
  rw [show decide ((n : Int) < 0) = false from by simp] at S
  refine wl_nil ?_; refine xtn ?_; refine c_condF S ?_; refine c_skip ?_; refine xtn ?_; (iterate 2 (refine c_seq ?_)); refine c_region ?_; (iterate 6 (refine sq S ?_; clear S; intro a S))
  rw [show IntKind.i64.wrap (((0 : Nat) : Int) - ((0 : Nat) : Int)) = 0 from rfl] at S
  refine sq S ?_; clear S; intro a S
  rw [show IntKind.i64.wrap ((n : Int) - 0) = n from by rw [Int.sub_zero]; exact w64 _ (by omega) (by omega)] at S
  refine sq S ?_; clear S; intro a S; refine wl_nil ?_; refine xtn ?_; refine c_seq ?_; refine c_region ?_; (iterate 2 (refine sq S ?_; clear S; intro a S)); refine wl_nil ?_; refine xtn ?_
  refine c_cond S (fun h4 => ?_) (fun h4 => ?_)
  · refine c_region ?_; (iterate 3 (refine sq S ?_; clear S; intro a S))
    refine ssl S ?_ ?_ ?_ ?_; omega; omega; omega; clear S; intro a S
    rw [if_pos rfl] at S
    refine sq S ?_; clear S; intro a S
    have hn0 : 0 < n := by simp at h4; omega
    refine sapz S hn0 (by omega) (by simp [maxLen]; omega) (by omega) ?_; clear S; intro b22 c22 zs a w S
    (iterate 2 (refine sq S ?_; clear S; intro a S))
    refine scut S (by omega) ?_; clear S; intro a S
    rw [Nat.zero_mul, List.take_zero] at S
    refine sq S ?_; clear S; intro a S; refine wl_nil ?_; refine xtn ?_; refine c_seq ?_; refine c_region ?_; (iterate 2 (refine sq S ?_; clear S; intro a S)); refine wl_nil ?_; refine xtn ?_; refine c_ret ?_
    have hrow := S.row (some ⟨b22, 0, none⟩) 0
    have hnew := S.rowNew (some ⟨b22, 0, none⟩) 0
    refine end1 S (fun _ => ?_)
    exact ⟨_, _, rfl, hrow, fun ad h => (hnew ad h).elim (fun h => h.elim) id⟩
  · refine c_skip ?_; refine xtn ?_; refine c_seq ?_; refine c_region ?_; (iterate 2 (refine sq S ?_; clear S; intro a S)); refine wl_nil ?_; refine xtn ?_; refine c_ret ?_
    refine end1 S (fun _ => ?_)
    exact ⟨none, 0, rfl, World.ownsRow_nil _ _ _ _, fun _ h => by cases h⟩
theorem cut0 (c : Nat) (p : Option Addr) : (if c = 0 then p else p.map (·.add (0 * 5))) = p := by
  split
  · rfl
  · cases p <;> simp [Addr.add]
theorem encL_drop (xs : List LTerm) (k : Nat) (h : k ≤ xs.length) : (encL xs).drop (k * 5) = encL (xs.drop k) := by
  have e : encL xs = encL (xs.take k) ++ encL (xs.drop k) := by rw [← encL_append, List.take_append_drop]
  have hl : (encL (xs.take k)).length = k * 5 := by rw [encL_len, List.length_take, Nat.min_eq_left h]; rfl
  rw [e, ← hl, List.drop_left]
theorem encL_erase (xs : List LTerm) (i : Nat) (h : i < xs.length) : (encL xs).take (i * 5) ++ (encL xs).drop ((i + 1) * 5) = encL (xs.eraseIdx i) := by
  have e1 : (encL xs).take (i * 5) = encL (xs.take i) := encL_take xs i
  rw [encL_drop xs (i + 1) h, e1, ← encL_append, List.eraseIdx_eq_take_drop_succ]
theorem delete_c (xs : List LTerm) (i : Nat) (p : Option Addr) (n c : Nat) (w0 : World) (hi : i < n) (hn : xs.length = n) (hl : n ≤ 10000000) (hown : w0.ownsRow 0 37 5 (.slice p n c) n (encL xs)) :
    Ret Try.prog 65 [.slice p n c, .int .i64 i, .int .i64 ((i + 1 : Nat) : Int)] w0 (fun k => ∃ ad, p = some ad ∧ k = ad.block) fun v w' =>
      v = .slice p (n - 1) c ∧ w'.ownsRow 0 37 5 (.slice p (n - 1) c) (n - 1) (encL (xs.eraseIdx i)) := by
  have hnc : n ≤ c := by
    obtain ⟨g, cur, _, _, hnc, _⟩ := own_cells hown (by omega)
    exact hnc
  have h1 : LeC n c := ⟨hnc⟩
  have h2 : LeC (i + 1) n := ⟨by omega⟩
  have h3 : LeC i (i + 1) := ⟨by omega⟩
  have h4 : LeC i c := ⟨by omega⟩
  have h5 : LeC 0 i := ⟨by omega⟩
  refine enter Try.func65 rfl rfl (Wd.rowLent (fs := []) hown (by simp)) (fun a S => ?_)
  simp only [Try.ntmps65, List.length_cons, List.length_nil, Nat.reduceAdd, Nat.reduceSub, List.replicate_succ, List.replicate_zero, List.cons_append, List.nil_append] at S
  refine c_seq ?_; refine c_region ?_; refine sq S ?_; clear S; intro a S; refine wl_nil ?_; refine xtn ?_; refine c_seq ?_; refine c_region ?_; (iterate 6 (refine sq S ?_; clear S; intro a S)); refine wl_nil ?_; refine xtn ?_; (iterate 2 (refine c_seq ?_)); refine c_region ?_; (iterate 3 (refine sq S ?_; clear S; intro a S))
  rw [show decide ((i : Int) = ((i + 1 : Nat) : Int)) = false from by simp; omega] at S
  refine wl_nil ?_; refine xtn ?_; refine c_condF S ?_; refine c_skip ?_; refine xtn ?_; refine c_seq ?_; refine c_region ?_; (iterate 3 (refine sq S ?_; clear S; intro a S)); refine wl_nil ?_; refine xtn ?_; refine c_seq ?_
  refine c_drawE [(0, true), (1, true), (2, true), (3, true), (4, true), (5, true), (6, false), (7, true)] [] S ?_; clear S; intro w S
  (iterate 3 (refine dq S ?_; clear S; intro a S))
  rw [cut0, Nat.sub_zero, Nat.sub_zero] at S
  (iterate 3 (refine dq S ?_; clear S; intro a S)); refine dl ?_
  refine sapr p n S rfl rfl (by omega) (by omega) (by omega) ?_; clear S; intro a w S
  rw [show i + (n - (i + 1)) = n - 1 from by omega, encL_erase xs i (by omega)] at S
  have h6 : LeC (n - 1) n := ⟨by omega⟩
  refine de S ?_; refine dq S ?_; clear S; intro a S; refine dn ?_; refine xtn ?_; refine c_seq ?_; refine c_region ?_; (iterate 5 (refine sq S ?_; clear S; intro a S))
  refine sclr p (n - 1) S rfl rfl (by omega) ?_; clear S; intro a w S
  refine wl_nil ?_; refine xtn ?_; refine c_seq ?_; refine c_region ?_; (iterate 2 (refine sq S ?_; clear S; intro a S)); refine wl_nil ?_; refine xtn ?_; refine c_ret ?_
  have hrow := S.row p (n - 1)
  refine end1 S (fun _ => ?_)
  exact ⟨rfl, hrow⟩
def preL (xs1 xs2 : List LTerm) (k : Nat) : List LTerm := ([xs1, xs2].take k).flatten
theorem preL_step (xs1 xs2 : List LTerm) (p1 p2 : Option Addr) (n1 n2 c1 c2 k : Nat) (h1 : xs1.length = n1) (h2 : xs2.length = n2) (hk : k < 2) (M : Nat → Prop) (w : World) (hx1 : Stable M w (LsF p1 0 xs1)) (hx2 : Stable M w (LsF p2 0 xs2)) :
    ∃ pk nk ck xk, [Value.slice p1 n1 c1, Value.slice p2 n2 c2][k]? = some (.slice pk nk ck) ∧ xk.length = nk ∧ Stable M w (LsF pk 0 xk) ∧ preL xs1 xs2 (k + 1) = preL xs1 xs2 k ++ xk := by
  match k, hk with
  | 0, _ => exact ⟨p1, n1, c1, xs1, rfl, h1, hx1, by simp [preL]⟩
  | 1, _ => exact ⟨p2, n2, c2, xs2, rfl, h2, hx2, by simp [preL]⟩
theorem preL_le (xs1 xs2 : List LTerm) (k : Nat) : (preL xs1 xs2 k).length ≤ xs1.length + xs2.length := by
  match k with
  | 0 => simp [preL]
  | 1 => simp [preL]
  | k + 2 => simp [preL]
theorem concat_c (xs1 xs2 : List LTerm) (p1 p2 : Option Addr) (n1 n2 c1 c2 q : Nat) (w0 : World) (h1 : xs1.length = n1) (h2 : xs2.length = n2) (hl1 : n1 ≤ 1000000) (hl2 : n2 ≤ 1000000) (hx1 : Stable (fun _ => False) w0 (LsF p1 0 xs1)) (hx2 : Stable (fun _ => False) w0 (LsF p2 0 xs2))
    (hq : Stable (fun _ => False) w0 (BoxF q 23 [.slice p1 n1 c1, .slice p2 n2 c2])) :
    Ret Try.prog 51 [.slice (some ⟨q, 0, none⟩) 2 2] w0 (fun _ => False) fun v w' => ∃ p' c', v = .slice p' (n1 + n2) c' ∧ w'.ownsRow 0 37 5 (.slice p' (n1 + n2) c') (n1 + n2) (encL (xs1 ++ xs2)) ∧ ∀ ad, p' = some ad → w0.heap.size ≤ ad.block := by
  have hle := preL_le xs1 xs2
  refine enter Try.func51 rfl rfl (Wd.begin (fs := [BoxF q 23 [.slice p1 n1 c1, .slice p2 n2 c2], LsF p1 0 xs1, LsF p2 0 xs2]) (by simp; exact ⟨hq, hx1, hx2⟩)) (fun a S => ?_)
  simp only [Try.ntmps51, List.length_cons, List.length_nil, Nat.reduceAdd, Nat.reduceSub, List.replicate_succ, List.replicate_zero, List.cons_append, List.nil_append] at S
  refine c_seq ?_; refine c_region ?_; refine sq S ?_; clear S; intro a S; refine wl_nil ?_; refine xtn ?_; refine c_seq ?_; refine c_region ?_; refine sq S ?_; clear S; intro a S; refine wl_nil ?_; refine xtn ?_; (iterate 2 (refine c_seq ?_)); refine c_region ?_; (iterate 3 (refine sq S ?_; clear S; intro a S)); refine wl_nil ?_; refine xtn ?_; refine c_block ?_
  refine c_loop (ι := Nat) (fun k a w => k ≤ 2 ∧ ∃ uu : Nat → Value,  St w0 (fun _ => False) [] a w ((.slice (some ⟨q, 0, none⟩) 2 2) :: uu 1 :: uu 2 :: (.int .i64 ((preL xs1 xs2 k).length : Nat)) :: uu 4 :: uu 5 :: uu 6 :: uu 7 :: uu 8 :: (.slice (some ⟨q, 0, none⟩) 2 2) :: (.int .i64 ((2 : Nat) : Int)) :: (.int .i64 (k : Nat)) :: uu 12 :: uu 13 :: uu 14 :: uu 15 :: uu 16 :: uu 17 :: uu 18 :: uu 19 :: uu 20 :: uu 21 :: uu 22 :: uu 23 :: uu 24 :: uu 25 :: uu 26 :: uu 27 :: uu 28 :: uu 29 :: uu 30 :: uu 31 :: uu 32 :: uu 33 :: uu 34 :: uu 35 :: []) [] [BoxF q 23 [.slice p1 n1 c1, .slice p2 n2 c2], LsF p1 0 xs1, LsF p2 0 xs2]) (fun k => 2 - k) 0 ?_ ?_
  · exact ⟨by omega, S.uu, S⟩
  · clear S
    rintro k a w ⟨hk, uu, S⟩
    refine c_seq ?_; refine c_region ?_; refine sq S ?_; clear S; intro a S; refine wl_nil ?_; refine xtn ?_; refine c_seq ?_
    refine c_cond S (fun h3 => ?_) (fun h3 => ?_)
    · refine c_skip ?_; refine xtn ?_; refine c_seq ?_; refine c_block ?_; refine c_seq ?_
      have hkl : k < 2 := by simp at h3; omega
      have hK : KLt k 2 := ⟨hkl⟩
      obtain ⟨pk, nk, ck, xk, hcell, hlk, hsk, hpre⟩ := preL_step xs1 xs2 p1 p2 n1 n2 c1 c2 k h1 h2 hkl _ w (S.fact (Φ := LsF p1 0 xs1) (by simp)) (S.fact (Φ := LsF p2 0 xs2) (by simp))
      have hpl := congrArg List.length hpre
      rw [List.length_append] at hpl
      have hk1 := hle (k + 1)
      refine c_region ?_; refine sq S ?_; clear S; intro a S
      refine sl1 (.slice pk nk ck) S (by
        have hb : w.heap[q]? = some (.cells #[.slice p1 n1 c1, .slice p2 n2 c2] 23 (0, 0)) := (S.fact (Φ := BoxF q 23 [.slice p1 n1 c1, .slice p2 n2 c2]) (by simp)).now
        rw [cell_of_row w q k _ 23 (0, 0) hb]; simpa using hcell) ?_; clear S; intro a S
      refine sq S ?_; clear S; intro a S; refine wl_nil ?_; refine xtn ?_; refine c_seq ?_; refine c_region ?_; (iterate 5 (refine sq S ?_; clear S; intro a S)); refine wl_nil ?_; refine xtn ?_; refine c_seq ?_; refine c_region ?_; (iterate 2 (refine sq S ?_; clear S; intro a S))
      rw [w64 _ (by omega) (by omega)] at S
      rw [decide_eq_false (show ¬ (((preL xs1 xs2 k).length : Int) + (nk : Int) < 0) by omega)] at S
      refine wl_nil ?_; refine xtn ?_; refine c_condF S ?_; refine c_skip ?_; refine xbn ?_; refine xtn ?_; refine c_region ?_; (iterate 2 (refine sq S ?_; clear S; intro a S)); refine wl_nil ?_; refine xtn ?_
      rw [w64 ((k : Int) + 1) (by omega) (by omega)] at S
      rw [show ((preL xs1 xs2 k).length : Int) + (nk : Int) = ((preL xs1 xs2 (k + 1)).length : Nat) from by omega] at S
      exact ⟨k + 1, ⟨hkl, S.uu, S⟩, by omega⟩
    · refine c_exit ?_; (iterate 2 (refine xte ?_)); refine xbe ?_; refine xtn ?_; refine c_seq ?_
      have hk2 : k = 2 := by simp at h3; omega
      subst hk2
      have hfl : (preL xs1 xs2 2) = xs1 ++ xs2 := by simp [preL]
      have hfn : (preL xs1 xs2 2).length = n1 + n2 := by rw [hfl, List.length_append, h1, h2]
      refine c_region ?_; refine sq S ?_; clear S; intro a S
      refine srn S (grow_c _ w (by omega)) ?_; clear S; rintro _ a w ⟨pg, cg, rfl, hown, hnew⟩ hS -
      have S := hS hown hnew
      clear hS hown hnew
      refine sq S ?_; clear S; intro a S; refine wl_nil ?_; refine xtn ?_; (iterate 2 (refine c_seq ?_)); refine c_region ?_; (iterate 3 (refine sq S ?_; clear S; intro a S)); refine wl_nil ?_; refine xtn ?_; refine c_block ?_
      refine c_loop (ι := Nat) (fun k a w => k ≤ 2 ∧ ∃ p c, ∃ uu : Nat → Value,  St w0 (fun _ => False) [] a w ((.slice (some ⟨q, 0, none⟩) 2 2) :: uu 1 :: uu 2 :: uu 3 :: uu 4 :: uu 5 :: (.slice p (preL xs1 xs2 k).length c) :: uu 7 :: uu 8 :: uu 9 :: uu 10 :: uu 11 :: uu 12 :: uu 13 :: uu 14 :: uu 15 :: uu 16 :: uu 17 :: uu 18 :: uu 19 :: uu 20 :: uu 21 :: uu 22 :: uu 23 :: uu 24 :: (.slice (some ⟨q, 0, none⟩) 2 2) :: (.int .i64 ((2 : Nat) : Int)) :: (.int .i64 (k : Nat)) :: uu 28 :: uu 29 :: uu 30 :: uu 31 :: uu 32 :: uu 33 :: uu 34 :: uu 35 :: []) [Wk.row 37 5 p (preL xs1 xs2 k).length c (encL (preL xs1 xs2 k))] [BoxF q 23 [.slice p1 n1 c1, .slice p2 n2 c2], LsF p1 0 xs1, LsF p2 0 xs2]) (fun k => 2 - k) 0 ?_ ?_
      · exact ⟨by omega, _, _, S.uu, S⟩
      · clear S
        rintro k a w ⟨hk, p, c, uu, S⟩
        refine c_seq ?_; refine c_region ?_; refine sq S ?_; clear S; intro a S; refine wl_nil ?_; refine xtn ?_; refine c_seq ?_
        refine c_cond S (fun h11 => ?_) (fun h11 => ?_)
        · refine c_skip ?_; refine xtn ?_; refine c_seq ?_; refine c_block ?_; refine c_seq ?_
          have hkl : k < 2 := by simp at h11; omega
          have hK : KLt k 2 := ⟨hkl⟩
          obtain ⟨pk, nk, ck, xk, hcell, hlk, hsk, hpre⟩ := preL_step xs1 xs2 p1 p2 n1 n2 c1 c2 k h1 h2 hkl _ w (S.fact (Φ := LsF p1 0 xs1) (by simp)) (S.fact (Φ := LsF p2 0 xs2) (by simp))
          have hpl := congrArg List.length hpre
          rw [List.length_append] at hpl
          have hk1 := hle (k + 1)
          replace S := S.add hsk
          have hNk : LenN xk nk := ⟨hlk⟩
          refine c_region ?_; refine sq S ?_; clear S; intro a S
          refine sl1 (.slice pk nk ck) S (by
            have hb : w.heap[q]? = some (.cells #[.slice p1 n1 c1, .slice p2 n2 c2] 23 (0, 0)) := (S.fact (Φ := BoxF q 23 [.slice p1 n1 c1, .slice p2 n2 c2]) (by simp)).now
            rw [cell_of_row w q k _ 23 (0, 0) hb]; simpa using hcell) ?_; clear S; intro a S
          refine sq S ?_; clear S; intro a S; refine wl_nil ?_; refine xtn ?_; refine c_region ?_; (iterate 2 (refine sq S ?_; clear S; intro a S))
          refine sap S (by simp [maxLen]; omega) (by omega) ?_; clear S; rintro p2' c2' a w - S
          rw [← encL_append, ← hpre, show (preL xs1 xs2 k).length + nk = (preL xs1 xs2 (k + 1)).length from by omega] at S
          replace S := S.sub [Wk.row 37 5 p2' (preL xs1 xs2 (k + 1)).length c2' (encL (preL xs1 xs2 (k + 1)))] [BoxF q 23 [.slice p1 n1 c1, .slice p2 n2 c2], LsF p1 0 xs1, LsF p2 0 xs2]
          refine sq S ?_; clear S; intro a S; refine wl_nil ?_; refine xbn ?_; refine xtn ?_; refine c_region ?_; (iterate 2 (refine sq S ?_; clear S; intro a S)); refine wl_nil ?_; refine xtn ?_
          rw [w64 ((k : Int) + 1) (by omega) (by omega)] at S
          exact ⟨k + 1, ⟨hkl, _, _, S.uu, S⟩, by omega⟩
        · refine c_exit ?_; (iterate 2 (refine xte ?_)); refine xbe ?_; refine xtn ?_; refine c_seq ?_; refine c_region ?_; (iterate 2 (refine sq S ?_; clear S; intro a S)); refine wl_nil ?_; refine xtn ?_; refine c_ret ?_
          have hk2 : k = 2 := by simp at h11; omega
          subst hk2
          have hrow := S.row p (preL xs1 xs2 2).length
          have hnew := S.rowNew p (preL xs1 xs2 2).length
          refine end1 S (fun _ => ?_)
          rw [hfn, hfl] at hrow
          exact ⟨p, c, by rw [hfn], hrow, fun ad h => (hnew ad h).elim (fun h => h.elim) id⟩
theorem own_put {A Z vs : List Value} (o : Nat) (k : Nat) (h : A.length = o) (hz : Z.length = vs.length) (hk : k = o) : (A ++ Z).take o ++ vs ++ (A ++ Z).drop (k + vs.length) = A ++ vs := by
  subst h hk
  rw [List.take_left, List.drop_of_length_le (by rw [List.length_append, hz]; exact Nat.le_refl _), List.append_nil]
theorem appendSeq_c (gf : Nat) [EntF Try.prog gf] (lb : List Value) (ys : List LTerm) (xs : List Value) (fs0 : List (World → Prop)) (p : Option Addr) (n c : Nat) (w0 : World) (hl : n + ys.length ≤ 10000000) (hown : w0.ownsRow 0 37 5 (.slice p n c) n xs)
    (hfs : ∀ Φ ∈ fs0, Stable (fun k => ∃ ad, p = some ad ∧ k = ad.block) w0 Φ)
    (hit : ∀ (M : Nat → Prop) (w1 : World), (∀ k, M k → k < w1.heap.size) → (∀ Φ ∈ fs0, Stable M w1 Φ) → IterRet Try.prog gf lb w1 M (fun (x : LTerm) vs _ _ => vs = [vL x]) ys) :
    Ret Try.prog 64 [.slice p n c, .func (.func gf) #[] ⟨lb⟩] w0 (fun k => ∃ ad, p = some ad ∧ k = ad.block) fun v w' =>
      ∃ p' c', v = .slice p' (n + ys.length) c' ∧ w'.ownsRow 0 37 5 (.slice p' (n + ys.length) c') (n + ys.length) (xs ++ encL ys) ∧ ∀ ad, p' = some ad → (∃ ad', p = some ad' ∧ ad.block = ad'.block) ∨ w0.heap.size ≤ ad.block := by
  refine enterM Try.func64 rfl rfl (Wd.rowLent hown hfs) (fun a S => ?_)
  simp only [Try.ntmps64, List.length_cons, List.length_nil, Nat.reduceAdd, Nat.reduceSub, List.replicate_succ, List.replicate_zero, List.cons_append, List.nil_append] at S
  refine c_seq ?_; refine c_region ?_
  refine sa S ?_; clear S; intro b2 a w S
  refine sq S ?_; clear S; intro a S; refine wl_nil ?_; refine xtn ?_; (iterate 2 (refine c_seq ?_)); refine c_region ?_; refine sq S ?_; clear S; intro a S; refine wl_nil ?_; refine xtn ?_; refine c_block ?_
  refine c_range (κ := Option Addr × Nat) (κx := Empty) (Ds := []) ys
    (fun i k => [Wk.box b2 23 [.slice k.1 (n + i) k.2], marks [], Wk.row 37 5 k.1 (n + i) k.2 (xs ++ encL (ys.take i))]) (fun _ _ => fs0) (fun _ _ => True) (fun k => k.elim) (fun k => k.elim) (fun _ k => k.elim) (p, c) S (fun M w1 hM hF _ => hit M w1 hM hF) ⟨trivial, by simp [encL], rfl⟩ ?_ ?_ ?_ ?_
  · clear S
    rintro L D bL M w1 i x vs ⟨p, c⟩ W0 w hx - hW0 hgr rfl
    refine ⟨_, inferInstance, fun a S => ?_⟩
    have hil : i < ys.length := (List.getElem?_eq_some_iff.1 hx).1
    have hti : ys.take (i + 1) = ys.take i ++ [x] := by rw [List.take_add_one, hx]; rfl
    have hKL : KLt (n + i) (n + i + 1) := ⟨by omega⟩
    have hrl : (xs ++ encL (ys.take i)).length = (n + i) * 5 := S.row p (n + i) |>.1
    refine c_region ?_
    refine sa S ?_; clear S; intro b5 a w S
    refine sw S ?_; clear S; intro a w S; refine wl_nil ?_; refine xtn ?_
    refine rbegin (D := D) (b := bL) S ?_; clear S; intro a w S
    refine c_block ?_
    refine c_drawT (.q 1 (.b2 0 3 (.q 2 (.l 3 (.l 4 (.b2 5 7 (.b2 6 7 (.l 7 (.e)) (.l 6 (.e))) (.l 5 (.l 6 (.e))))))) (.l 0 (.q 2 (.l 4 (.b2 5 7 (.b2 6 7 (.l 7 (.e)) (.l 6 (.e))) (.l 5 (.l 6 (.e))))))))) [Wk.box b5 37 x.cells] S
      (fun a w => ∃ (p' : Option Addr) (c' : Nat) (l' : List Value), St w1 M [] a w l' [lpI L D (lpR bL .busy none), Wk.box b2 23 [.slice p' (n + (i + 1)) c'], marks [], Wk.row 37 5 p' (n + (i + 1)) c' (xs ++ encL (ys.take (i + 1)))] fs0) ?_ ?_
    · intro w S
      refine tq S ?_; clear S; intro a S
      refine tb2 ?_ ?_
      · refine sq S ?_; clear S; intro a S; refine te S ?_; refine tq S ?_; clear S; intro a S; refine tl ?_
        refine sn S ?_; clear S; intro b11 a w S
        refine te S ?_; refine tl ?_
        refine sap S (by simp [maxLen]; omega) (by omega) ?_; clear S; rintro p3 c3 a w - S
        refine te S ?_
        refine tb2 ?_ ?_
        · refine sq S ?_; clear S; intro a S; refine te S ?_
          refine tb2 ?_ ?_
          · refine sws S (n + i + 1) (by omega) (by omega) ?_; clear S; intro a w S
            refine te S ?_; refine tl ?_; refine sw S ?_; clear S; intro a w S; refine te S ?_; refine tn ?_
            have e := own_put (A := xs ++ encL (ys.take i)) (Z := [.int .i64 0, .int .i64 0, .int .i64 0, .string ⟨#[]⟩, .slice none 0 0]) (vs := x.cells) _ _ hrl rfl rfl
            rw [e, List.append_assoc, ← encT_cells, ← encL_append, ← hti] at S
            exact ⟨p3, c3, _, S.sub _ _⟩
          · refine sw S ?_; clear S; intro a w S; refine te S ?_; refine tl ?_
            refine sws S (n + i + 1) (by omega) (by omega) ?_; clear S; intro a w S
            refine te S ?_; refine tn ?_
            have e := own_put (A := xs ++ encL (ys.take i)) (Z := [.int .i64 0, .int .i64 0, .int .i64 0, .string ⟨#[]⟩, .slice none 0 0]) (vs := x.cells) _ _ hrl rfl rfl
            rw [e, List.append_assoc, ← encT_cells, ← encL_append, ← hti] at S
            exact ⟨p3, c3, _, S.sub _ _⟩
        · refine sw S ?_; clear S; intro a w S; refine te S ?_; refine tl ?_; refine sq S ?_; clear S; intro a S; refine te S ?_; refine tl ?_
          refine sws S (n + i + 1) (by omega) (by omega) ?_; clear S; intro a w S
          refine te S ?_; refine tn ?_
          have e := own_put (A := xs ++ encL (ys.take i)) (Z := [.int .i64 0, .int .i64 0, .int .i64 0, .string ⟨#[]⟩, .slice none 0 0]) (vs := x.cells) _ _ hrl rfl rfl
          rw [e, List.append_assoc, ← encT_cells, ← encL_append, ← hti] at S
          exact ⟨p3, c3, _, S.sub _ _⟩
      · refine sn S ?_; clear S; intro b11 a w S
        refine te S ?_; refine tl ?_; refine sq S ?_; clear S; intro a S; refine te S ?_; refine tq S ?_; clear S; intro a S; refine tl ?_
        refine sap S (by simp [maxLen]; omega) (by omega) ?_; clear S; rintro p3 c3 a w - S
        refine te S ?_
        refine tb2 ?_ ?_
        · refine sq S ?_; clear S; intro a S; refine te S ?_
          refine tb2 ?_ ?_
          · refine sws S (n + i + 1) (by omega) (by omega) ?_; clear S; intro a w S
            refine te S ?_; refine tl ?_; refine sw S ?_; clear S; intro a w S; refine te S ?_; refine tn ?_
            have e := own_put (A := xs ++ encL (ys.take i)) (Z := [.int .i64 0, .int .i64 0, .int .i64 0, .string ⟨#[]⟩, .slice none 0 0]) (vs := x.cells) _ _ hrl rfl rfl
            rw [e, List.append_assoc, ← encT_cells, ← encL_append, ← hti] at S
            exact ⟨p3, c3, _, S.sub _ _⟩
          · refine sw S ?_; clear S; intro a w S; refine te S ?_; refine tl ?_
            refine sws S (n + i + 1) (by omega) (by omega) ?_; clear S; intro a w S
            refine te S ?_; refine tn ?_
            have e := own_put (A := xs ++ encL (ys.take i)) (Z := [.int .i64 0, .int .i64 0, .int .i64 0, .string ⟨#[]⟩, .slice none 0 0]) (vs := x.cells) _ _ hrl rfl rfl
            rw [e, List.append_assoc, ← encT_cells, ← encL_append, ← hti] at S
            exact ⟨p3, c3, _, S.sub _ _⟩
        · refine sw S ?_; clear S; intro a w S; refine te S ?_; refine tl ?_; refine sq S ?_; clear S; intro a S; refine te S ?_; refine tl ?_
          refine sws S (n + i + 1) (by omega) (by omega) ?_; clear S; intro a w S
          refine te S ?_; refine tn ?_
          have e := own_put (A := xs ++ encL (ys.take i)) (Z := [.int .i64 0, .int .i64 0, .int .i64 0, .string ⟨#[]⟩, .slice none 0 0]) (vs := x.cells) _ _ hrl rfl rfl
          rw [e, List.append_assoc, ← encT_cells, ← encL_append, ← hti] at S
          exact ⟨p3, c3, _, S.sub _ _⟩
    rintro a w ⟨p2, c2, l2, S⟩
    refine xbn ?_
    exact rnext (D := D) (b := bL) S fun W hW => ⟨(p2, c2), trivial, hW⟩
  · clear S
    rintro D ⟨p2, c2⟩ a w - S
    refine xbn ?_; refine xtn ?_; refine c_seq ?_; refine c_region ?_; (iterate 2 (refine sq S ?_; clear S; intro a S)); refine wl_nil ?_; refine xtn ?_; refine c_ret ?_
    replace S := S.join (Ds := [])
    have hrow := S.row p2 (n + ys.length)
    have hnew := S.rowNew p2 (n + ys.length)
    refine endM1 S (fun w hw => ?_)
    have h1 := hw.held (Wk.row 37 5 p2 (n + ys.length) c2 (xs ++ encL (ys.take ys.length))) (by simp)
    rw [List.take_length] at h1
    exact ⟨p2, c2, rfl, h1, hnew⟩
  · intro D k; exact k.elim
  · intro id D k; exact k.elim
def badF (t : Term) : Bool := !decide (checkF t = 0)
def chkF (K L : List Term) : Int := if 500 < K.length then 3 else if (K ++ L).any badF then 150 else 0
theorem check1_c (t : LTerm) (w0 : World) (hf : Stable (fun _ => False) w0 (LtF t)) : Ret Try.prog 61 [vL t] w0 (fun _ => False) fun v _ => v = .bool (badF t.t) := by
  refine enter Try.func61 rfl rfl (Wd.begin (fs := [LtF t]) (by simpa using hf)) (fun a S => ?_)
  simp only [Try.ntmps61, List.length_cons, List.length_nil, Nat.reduceAdd, Nat.reduceSub, List.replicate_succ, List.replicate_zero, List.cons_append, List.nil_append] at S
  refine c_seq ?_; refine c_region ?_
  refine sa S ?_; clear S; intro b1 a w S
  refine sq S ?_; clear S; intro a S; refine wl_nil ?_; refine xtn ?_; refine c_seq ?_; refine c_region ?_; refine sq S ?_; clear S; intro a S; refine sc S ?_; clear S; intro a w S; (iterate 2 (refine sq S ?_; clear S; intro a S)); refine wl_nil ?_; refine xtn ?_; refine c_ret ?_
  refine end1 S (fun _ => rfl)
theorem kids_st {M : Nat → Prop} {w : World} {p : Option Addr} {xs : List LTerm} (h : Stable M w (LsF p 0 xs)) {x : LTerm} (hx : x ∈ xs) : Stable M w (LtF x) := by
  obtain ⟨k, hk, rfl⟩ := List.mem_iff_getElem.1 hx
  exact h.imp fun w' hw' => (LsIn.get hw' (List.getElem?_eq_getElem hk)).2
theorem check_cl (xs ys : List LTerm) (p p2 : Option Addr) (n n2 c c2 : Nat) (w0 : World) (hn : xs.length = n) (hn2 : ys.length = n2) (hl2 : n2 ≤ 500) (hx : Stable (fun _ => False) w0 (LsF p 0 xs)) (hy : Stable (fun _ => False) w0 (LsF p2 0 ys)) :
    Ret Try.prog 43 [.slice p n c, .slice p2 n2 c2] w0 (fun _ => False) fun v _ => v = .int .i64 (chkF (xs.map LTerm.t) (ys.map LTerm.t)) := by
  have hany : (xs ++ ys).any (fun x => badF x.t) = ((xs.map LTerm.t) ++ (ys.map LTerm.t)).any badF := by
    rw [List.any_append, List.any_append, List.any_map, List.any_map]; rfl
  refine enter Try.func43 rfl rfl (Wd.begin (fs := [LsF p 0 xs, LsF p2 0 ys]) (by simp; exact ⟨hx, hy⟩)) (fun a S => ?_)
  simp only [Try.ntmps43, List.length_cons, List.length_nil, Nat.reduceAdd, Nat.reduceSub, List.replicate_succ, List.replicate_zero, List.cons_append, List.nil_append] at S
  refine c_seq ?_; refine c_region ?_; refine sq S ?_; clear S; intro a S; refine wl_nil ?_; refine xtn ?_; (iterate 2 (refine c_seq ?_)); refine c_region ?_; (iterate 3 (refine sq S ?_; clear S; intro a S)); refine wl_nil ?_; refine xtn ?_
  refine c_cond S (fun h1 => ?_) (fun h1 => ?_)
  · refine c_seq ?_; refine c_region ?_; refine sq S ?_; clear S; intro a S; refine wl_nil ?_; refine xtn ?_; refine c_ret ?_; refine xtr ?_
    refine end1 S (fun _ => ?_)
    rw [chkF, List.length_map, hn, if_pos (by simp at h1; omega)]
  · refine c_skip ?_; refine xtn ?_; (iterate 2 (refine c_seq ?_)); refine c_region ?_; (iterate 2 (refine sq S ?_; clear S; intro a S))
    refine sn S ?_; clear S; intro b10 a w S
    have hn5 : n ≤ 500 := by simp at h1; omega
    have hb := BoxF.stable (M := fun _ => False) (S.boxF b10) (fun h => h)
    refine srn S (concat_c xs ys p p2 n n2 c c2 b10 w hn hn2 (by omega) (by omega) (S.mem.fact0 (LsF p 0 xs)) (S.mem.fact0 (LsF p2 0 ys)) hb) ?_; clear S hb; rintro _ a w ⟨p3, c3, rfl, hown, hnew⟩ - S
    have hst : ∀ x ∈ xs ++ ys, Stable (fun _ => False) w (LtF x) := fun x hx => by
      rcases List.mem_append.1 hx with hx | hx
      · exact kids_st (S.mem.fact0 (LsF p 0 xs)) hx
      · exact kids_st (S.mem.fact0 (LsF p2 0 ys)) hx
    have hls := ls_of_own hown hst (fun _ _ h => h)
    have hcc := contains_c 61 [] (fun x => badF x.t) (xs ++ ys) p3 (n + n2) c3 w (by simp [hn, hn2]) (by omega) hls fun x hx w' hw' => check1_c x w' ((hst x hx).later hw')
    refine sr S hcc ?_
    clear S hcc hls hst; rintro _ a w rfl S
    refine wl_nil ?_; refine xtn ?_
    refine c_cond S (fun h3 => ?_) (fun h3 => ?_)
    · refine c_seq ?_; refine c_region ?_; refine sq S ?_; clear S; intro a S; refine wl_nil ?_; refine xtn ?_; refine c_ret ?_; refine xtr ?_
      refine end1 S (fun _ => ?_)
      rw [hany] at h3
      rw [chkF, List.length_map, hn, if_neg (by omega), if_pos h3]
    · refine c_skip ?_; refine xtn ?_; refine c_seq ?_; refine c_region ?_; refine sq S ?_; clear S; intro a S; refine wl_nil ?_; refine xtn ?_; refine c_ret ?_
      refine end1 S (fun _ => ?_)
      rw [hany] at h3
      rw [chkF, List.length_map, hn, if_neg (by omega), if_neg (by rw [h3]; simp)]
end Go.Proofs.Ytibkkbknnfehlaa