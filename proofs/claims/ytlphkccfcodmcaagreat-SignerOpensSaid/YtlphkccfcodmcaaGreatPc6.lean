/- 6: a part of this claim's texts, joined: RangeP RangeI SigI SigJ SigK SigL SignA SignB WalQ WalR PlainDisk PlainWalB PlainWalC PlainWalD WalLawE WalLawF WalLawG WalLawH WalLawI WalLawJ WalLawK WalLawL WalLawM WalLawN WalLawP. -/
import Derived.Test.YtlphkccfcodmcaaGreatPc5
/- Loops over functions that keep memory of their own from round to round. -/
namespace Go.Proofs.YtlphkccfcodmcaaGreat
open Go Go.Wk
set_option maxRecDepth 100000

/-- what may be written by whoever holds these items. -/
def ownF (bs : List Wk.Item) : Nat → Prop := fun k => ∃ it ∈ bs, it.own = true ∧ it.foot k
def IterRetP {α : Type} (P : Program) (g : Nat) (lb : List Value) (w : World) (M : Nat → Prop) (E : α → List Value → (Nat → Prop) → World → Prop) (xs : List α) : Prop :=
  ∀ (l : Nat) (J : Nat → (Nat → Prop) → World → Prop) (Jx : World → Prop),
    (∀ i x vs C W0 W1, xs[i]? = some x → J i C W0 → Grow W0 W1 → E x vs C W1 → YieldAt (FW none) 0 P l vs.toArray W1 fun e W' =>
      (Agree M w W' ∧ Agree C W1 W') ∧ ((e = .returned (.bool true) ∧ ∃ C', (∀ k, C' k → (C k ∨ W1.heap.size ≤ k) ∧ k < W'.heap.size) ∧ J (i + 1) C' W') ∨ (e = .returned (.bool false) ∧ Jx W'))) →
    ∀ C0 : Nat → Prop, (∀ k, C0 k → M k ∧ k < w.heap.size) → J 0 C0 w →
    CallsIn (FW none) 0 P g (.func (.yield l) #[] #[] :: lb).toArray w fun e W' => (∃ v, e = .returned v) ∧ ∃ W0, Grow W0 W' ∧ ((∃ C, J xs.length C W0) ∨ Jx W0)
theorem wd_now {w0 w : World} {M0 : Nat → Prop} {bs : List Wk.Item} {fs : List (World → Prop)} (h : Wd w0 M0 w bs fs) : Wd w (ownF bs) w bs fs where
  agree := Agree.refl _ _
  held := h.held
  lt := h.lt
  own := fun it hi ho _ hk => .inl ⟨it, hi, ho, hk⟩
  apart := h.apart
  facts := h.facts
  loc := h.loc
theorem roundPost_mono' {P : Program} {L : Nat} {R R' : Ending → World → Prop} (h : ∀ e W, R e W → R' e W) {e : Exit} {a : Act} {w : World} (hp : roundPost P L R e a w) : roundPost P L R' e a w := by
  cases e <;> first
    | exact hp.elim
    | (obtain ⟨v, w', h1, h2⟩ := hp; exact ⟨v, w', h1, h _ _ h2⟩)
section
variable {P : Program} {Q : Exit → Act → World → Prop} {w0 : World} {M0 : Nat → Prop} {ds : List Deferred} {a : Act} {w : World} {l : List Value} {bs bs' : List Wk.Item} {fs : List (World → Prop)}
/-- a loop over a function. -/
theorem c_rangeP {α : Type} {g : Operand} {ps : List Nat} {assign body : Code} {gf : Nat} {lb : List Value} {Ds : List Nat} {κ κx : Type} {E : α → List Value → (Nat → Prop) → World → Prop} (xs : List α)
    (bsI : Nat → κ → List Wk.Item) (fsI : Nat → κ → List (World → Prop)) (φ : Nat → κ → Prop) (bsX : κx → List Wk.Item) (fsX : κx → List (World → Prop)) (ψ : Code → κx → Prop) (k0 : κ)
    (S : St w0 M0 (dsOf Ds) a w l bs fs) [EntF P gf] [hg : Ev ⟨[], l⟩ g (.func (.func gf) #[] ⟨lb⟩)]
    (hit : ∀ (M : Nat → Prop) (w1 : World), (∀ k, M k → k < w1.heap.size) → (∀ Φ ∈ fs, Stable M w1 Φ) → (∀ it ∈ bs, it.own = false → Stable M w1 it.holds) → IterRetP P gf lb w1 M E xs)
    (hk0 : φ 0 k0 ∧ bsI 0 k0 = bs ∧ fsI 0 k0 = fs)
    (hround : ∀ (L D : Nat) (b : Loop) (M : Nat → Prop) (w1 : World) (i : Nat) (x : α) (vs : List Value) (k : κ) (W : World), xs[i]? = some x → φ i k → Wd w1 M W (lpI L D (lpR b .ready none) :: bsI i k) (fsI i k) → E x vs (ownF (lpI L D (lpR b .ready none) :: bsI i k)) W → ∃ lx, PutPs l ps vs lx ∧ ∀ a,
      St w1 M [] a W lx (lpI L D (lpR b .ready none) :: bsI i k) (fsI i k) →
      Wp P (some L) assign (Exit.then (fun a w => ∃ w2, (Instr.beginRound L).run P w = .ok () w2 ∧ Wp P (some L) body (RoundEnd P L w1 M (fun W => ∃ k', φ (i + 1) k' ∧ Wd w1 M W (lpI L D (lpR b .ready none) :: bsI (i + 1) k') (fsI (i + 1) k'))
        (fun c W => (c = .ret ∨ ∃ id, c = .exit id) ∧ ∃ k', ψ c k' ∧ Wd w1 M W (lpI L D (lpR b .done (some c)) :: bsX k') (fsX k'))) a w2) (fun _ _ _ => False)) a W)
    (hdone : ∀ (D : Nat) (k : κ) (a : Act) (W : World), φ xs.length k → St w0 M0 (dsOf ([D] ++ Ds)) a W l (marks [D] :: bsI xs.length k) (fsI xs.length k) → Q .normal a W)
    (hret : ∀ (D : Nat) (k : κx) (a : Act) (W : World), ψ .ret k → St w0 M0 (dsOf ([D] ++ Ds)) a W l (marks [D] :: bsX k) (fsX k) → Q .ret a W)
    (hexit : ∀ (id D : Nat) (k : κx) (a : Act) (W : World), ψ (.exit id) k → St w0 M0 (dsOf ([D] ++ Ds)) a W l (marks [D] :: bsX k) (fsX k) → Q (.exit id) a W) :
    Wp P none (.rangeFunc g ps.toArray assign body) Q a w := by
  refine wpIn_rangeFunc ?_
  intro fn _
  obtain ⟨b, hb⟩ : ∃ b : Loop, b = { state := .ready, pending := none, fn := fn, tmps := a.tmps, params := ps.toArray, assign := assign, body := body, defers := w.heap.size } := ⟨_, rfl⟩
  obtain ⟨w1, hw1⟩ : ∃ w1, (w.alloc (.deferred (some []))).alloc (.loop b) = w1 := ⟨_, rfl⟩
  have hL1 : w1.heap[w.heap.size + 1]? = some (.loop b) := by
    rw [← hw1]; have := World.alloc_heap_new (w.alloc (.deferred (some []))) (.loop b); rwa [World.size_alloc] at this
  have hD1 : w1.heap[w.heap.size]? = some (.deferred (some [])) := by
    rw [← hw1]; exact (RowKit.Below.heap_alloc _ _ _ (by simp)).trans (World.alloc_heap_new w _)
  have hsz : w1.heap.size = w.heap.size + 2 := by rw [← hw1]; simp
  have hgrow : Grow w w1 := by rw [← hw1]; exact (Agree.alloc _ w _).trans (Agree.alloc _ _ _)
  have hlpr : lpR b .ready none = b := by rw [hb]; rfl
  obtain ⟨M, hM⟩ : ∃ M : Nat → Prop, M = fun k => k = w.heap.size ∨ k = w.heap.size + 1 ∨ ∃ it ∈ bs, it.own = true ∧ it.foot k := ⟨_, rfl⟩
  have hwd1 : Wd w1 M w1 (lpI (w.heap.size + 1) w.heap.size (lpR b .ready none) :: bs) fs := by
    have hst := S.wd.step hgrow
    refine ⟨Agree.refl _ _, ?_, ?_, ?_, List.pairwise_cons.2 ⟨?_, hst.apart⟩, ?_, ?_⟩
    · intro it hi
      rcases List.mem_cons.1 hi with rfl | hi
      · exact ⟨by rw [hlpr]; exact hL1, hD1⟩
      · exact hst.held it hi
    · intro it hi k hk
      rcases List.mem_cons.1 hi with rfl | hi
      · simp only [lpI] at hk; omega
      · exact hst.lt it hi k hk
    · intro it hi ho k hk
      rw [hM]
      rcases List.mem_cons.1 hi with rfl | hi
      · exact .inl (hk.elim .inl (fun h => .inr (.inl h)))
      · exact .inl (.inr (.inr ⟨it, hi, ho, hk⟩))
    · intro it hi k hk hk'
      have := S.wd.lt it hi k hk'
      simp only [lpI] at hk; omega
    · intro Φ hΦ w'' hw''
      refine S.wd.facts Φ hΦ w'' ((hgrow.mono (fun _ _ h => h.elim)).trans' hw'' fun i hi ⟨it, hm, hk⟩ => ?_)
      rcases List.mem_cons.1 hm with rfl | hm
      · simp only [lpI] at hk; omega
      · exact ⟨it, hm, hk⟩
    · intro it hi
      rcases List.mem_cons.1 hi with rfl | hi
      · exact lpI_loc _ _ _
      · exact hst.loc it hi
  have hMlt : ∀ k, M k → k < w1.heap.size := fun k hk => by
    rw [hM] at hk
    rcases hk with rfl | rfl | ⟨it, hi, _, hk⟩
    · omega
    · omega
    · have := S.wd.lt it hi k hk; omega
  have hMf : ∀ Φ ∈ fs, Stable M w1 Φ := fun Φ hΦ => (hwd1.facts Φ hΦ).less fun k _ hk => by
    rw [hM] at hk
    rcases hk with rfl | rfl | ⟨it, hi, _, hk⟩
    · exact ⟨_, List.mem_cons_self .., .inl rfl⟩
    · exact ⟨_, List.mem_cons_self .., .inr rfl⟩
    · exact ⟨it, List.mem_cons_of_mem _ hi, hk⟩
  have hMr : ∀ it ∈ bs, it.own = false → Stable M w1 it.holds := fun it hi ho w2 hw2 => by
    have hst := S.wd.step hgrow
    refine hst.loc it hi w1 w2 (fun k hk => hw2.blk (hst.lt it hi k hk) fun hm => ?_) (hst.held it hi)
    rw [hM] at hm
    have hlt := S.wd.lt it hi k hk
    rcases hm with rfl | rfl | ⟨it', hi', ho', hk'⟩
    · omega
    · omega
    · exact apart_of S.wd.apart hi hi' (by rw [ho, ho']; simp) k hk hk'
  have hM0 : ∀ k, M k → M0 k ∨ w0.heap.size ≤ k := fun k hk => by
    have := S.wd.agree.size
    rw [hM] at hk
    rcases hk with rfl | rfl | ⟨it, hi, ho, hk⟩
    · exact .inr this
    · exact .inr (by omega)
    · exact S.wd.own it hi ho k hk
  have hag : Agree M0 w0 w1 := (S.wd.step hgrow).agree
  have hfin : ∀ (r : Loop) (bs2 : List Wk.Item) (fs2 : List (World → Prop)) (W : World), r.state ≠ .busy → Wd w1 M W (lpI (w.heap.size + 1) w.heap.size r :: bs2) fs2 →
      ∃ W', (Instr.endLoop (w.heap.size + 1)).run P W = .ok r.pending W' ∧ St w0 M0 (dsOf ([w.heap.size] ++ Ds)) { a with defers := [{ target := .collected w.heap.size, args := #[] }] ++ a.defers } W' l (marks [w.heap.size] :: bs2) fs2 := fun r bs2 fs2 W hr hwd => by
    have hl : W.heap[w.heap.size + 1]? = some (.loop r) ∧ W.heap[w.heap.size]? = some (.deferred (some [])) := hwd.held _ (List.mem_cons_self ..)
    have hlt : w.heap.size + 1 < W.heap.size := (Array.getElem?_eq_some_iff.1 hl.1).1
    refine ⟨_, run_endLoop (P := P) hl.1 hr, S.slots, by rw [S.defers]; rfl, ?_⟩
    refine (hwd.rebase hag hM0).swap (pre := []) (y := marks [w.heap.size]) rfl (Agree.putObj W _ _ (.inr rfl)) ⟨by simp, fun k hk => ?_⟩ (fun k hk => .inl ?_) (fun k hk => ?_) (marks_loc _)
    · obtain rfl := List.mem_singleton.1 hk
      exact (World.putObj_heap_other (by omega)).trans hl.2
    · obtain rfl := List.mem_singleton.1 hk; exact .inl rfl
    · obtain rfl := List.mem_singleton.1 hk; simp; omega
  have heg := hg.eq (by simp) a.defers
  have hae : a.eval g = .func (.func gf) #[] ⟨lb⟩ := S.fr.ev
  refine ⟨w.heap.size + 1, [{ target := .collected w.heap.size, args := #[] }], w1, { target := .fn (.func gf) ⟨lb⟩, args := #[.func (.yield (w.heap.size + 1)) #[] #[]] }, w1, gf,
    (.func (.yield (w.heap.size + 1)) #[] #[] :: lb).toArray, w1, ?_, ?_, fun _ _ => trivial, ?_, fun h => (by cases h), ?_⟩
  · rw [← hw1, hb]; exact run_enterLoop_outer _ _ _ _ _
  · simp only [resolve, hae]
    simp [go_sem]
  · have := EntF.run (P := P) (f := gf) (.func (.yield (w.heap.size + 1)) #[] #[] :: lb).toArray w1
    simpa [invoke, go_sem] using this
  · have hI := hit M w1 hMlt hMf hMr
    have hM0' : ∀ k, ownF (lpI (w.heap.size + 1) w.heap.size (lpR b .ready none) :: bs) k → M k := fun k ⟨it, hi, ho, hk⟩ => by
      rw [hM]
      rcases List.mem_cons.1 hi with rfl | hi
      · exact hk.elim (fun h => .inl h) (fun h => .inr (.inl h))
      · exact .inr (.inr ⟨it, hi, ho, hk⟩)
    refine CallsIn.mono (hI (w.heap.size + 1) (fun i C W => ∃ k, φ i k ∧ Wd w1 M W (lpI (w.heap.size + 1) w.heap.size (lpR b .ready none) :: bsI i k) (fsI i k) ∧ C = ownF (lpI (w.heap.size + 1) w.heap.size (lpR b .ready none) :: bsI i k))
      (fun W => ∃ c, (c = .ret ∨ ∃ id, c = .exit id) ∧ ∃ k, ψ c k ∧ Wd w1 M W (lpI (w.heap.size + 1) w.heap.size (lpR b .done (some c)) :: bsX k) (fsX k)) ?_ _ (fun k hk => ⟨hM0' k hk, hMlt k (hM0' k hk)⟩) ⟨k0, hk0.1, by rw [hk0.2.1, hk0.2.2]; exact hwd1, by rw [hk0.2.1]⟩) ?_
    · rintro i x vs C W0 W1 hx ⟨k, hφ, hwd, rfl⟩ hgr hE
      have hwdg := hwd.step hgr
      have hl : W1.heap[w.heap.size + 1]? = some (.loop (lpR b .ready none)) := (hwdg.held _ (List.mem_cons_self ..)).1
      have hnow := wd_now hwdg
      obtain ⟨lx, hps, hround'⟩ := hround (w.heap.size + 1) w.heap.size b _ W1 i x vs k W1 hx hφ hnow hE
      have hp := hps.eq
      have hy := run_yield (P := P) (args := vs.toArray) hl (by rw [hb]; simpa [lpR] using hp.2)
      refine ⟨_, _, _, _, hy, roundIn_of_wpIn trivial ?_⟩
      have e1 : (((lpR b .ready none).params.zip vs.toArray).foldl (fun tmps (t, a) => tmps.setIfInBounds t a) (lpR b .ready none).tmps) = lx.toArray := by
        rw [hb]
        simp only [lpR, S.slots, foldl_put, hp.1]
      rw [e1]
      have hC : ∀ k', ownF (lpI (w.heap.size + 1) w.heap.size (lpR b .ready none) :: bsI i k) k' → M k' ∨ w1.heap.size ≤ k' := fun k' ⟨it, hi, ho, hk'⟩ => hwdg.own it hi ho k' hk'
      have := hround' { tmps := lx.toArray, defers := [] } ⟨rfl, rfl, hnow⟩
      simp only [hb, lpR] at this hC ⊢
      refine wpIn_mono this ?_
      intro e a' w' he
      cases e with
      | normal =>
        obtain ⟨w2, h1, h2⟩ := he
        refine ⟨w2, h1, wpIn_mono h2 fun e2 a2 w3 h3 => roundPost_mono' (fun e W' hR => ?_) h3⟩
        obtain ⟨r1, ⟨r2, k', r3, r4⟩ | ⟨r2, c, r3, k', r4, r5⟩⟩ := hR
        · have r6 := r4.rebase hwdg.agree hC
          exact ⟨⟨r6.agree, r1⟩, .inl ⟨r2, _, fun q ⟨it, hi, ho, hq⟩ => ⟨r4.own it hi ho q hq, r4.lt it hi q hq⟩, k', r3, r6, rfl⟩⟩
        · have r6 := r5.rebase hwdg.agree hC
          exact ⟨⟨r6.agree, r1⟩, .inr ⟨r2, c, r3, k', r4, r6⟩⟩
      | _ => exact he.elim
    · rintro e W ⟨⟨v, rfl⟩, W0, hgr, ⟨C, k, hφ, hwd, -⟩ | ⟨c, hc, k, hψ, hwd⟩⟩
      · obtain ⟨W', h1, h2⟩ := hfin (lpR b .ready none) _ _ W (by simp [lpR]) (hwd.step hgr)
        exact ⟨none, W', h1, hdone _ k _ W' hφ h2⟩
      · obtain ⟨W', h1, h2⟩ := hfin (lpR b .done (some c)) _ _ W (by simp [lpR]) (hwd.step hgr)
        refine ⟨some c, W', h1, ?_⟩
        rcases hc with rfl | ⟨id, rfl⟩
        · exact wpIn_ret (hret _ k _ W' hψ h2)
        · exact wpIn_exit (hexit id _ k _ W' hψ h2)
end
section
variable {P : Program} {r : Option Nat} {ops : Array Oper} {Q : Exit → Act → World → Prop} {w0 : World} {M0 : Nat → Prop} {ds : List Deferred} {a : Act} {w : World} {l : List Value} {bs bs' : List Wk.Item} {fs fs0 : List (World → Prop)}
  {d : Option Nat} {op : Op} {ty : TypeId} {pos : String} {af : Array Edge} {rest : List Oper} {ts : Array TypeId}
/-- a call of yield by whoever has memory of their own: what that holds stays. -/
theorem syP {x : Operand} {xs : List Operand} {L : Nat} {vs : List Value} {l' : Bool → List Value} {wI : World} {M C : Nat → Prop} {J : (Nat → Prop) → World → Prop} {Jx : World → Prop} [hx : Ev ⟨[], l⟩ x (.func (.yield L) #[] #[])] [hv : EvL ⟨[], l⟩ xs vs] [hp : ∀ b : Bool, PutO l d (.bool b) (l' b)]
    (S : St w0 M0 ds a w l bs fs) (hF : ∀ Φ ∈ fs0, Stable C w Φ)
    (hy : YieldAt (FW none) 0 P L vs.toArray w fun e W' => (Agree M wI W' ∧ Agree C w W') ∧ ((e = .returned (.bool true) ∧ ∃ C', (∀ k, C' k → (C k ∨ w.heap.size ≤ k) ∧ k < W'.heap.size) ∧ J C' W') ∨ (e = .returned (.bool false) ∧ Jx W')))
    (K : ∀ (b : Bool) (C' : Nat → Prop) a W, Agree M wI W → (∀ k, C' k → k < W.heap.size) → (b = true → J C' W) → (b = false → Jx W) → St W (fun _ => False) ds a W (l' b) [ext C'] fs0 → WL P r ops Q rest a W) :
    WL P r ops Q (⟨d, .call { callee := .value x, args := xs.toArray, argTypes := ts }, ty, pos, af, none⟩ :: rest) a w := by
  refine wl_plain rfl ?_
  rw [semAt_nd rfl]
  obtain ⟨fn, tmps, assign, body, hrun, hround⟩ := hy
  have hf : a.eval x = .func (.yield L) #[] #[] := S.fr.ev
  have e := S.fr.evl (xs := xs) (vs := vs)
  have e1 : (xop a.eval (.call { callee := .value x, args := xs.toArray, argTypes := ts }) ty).run P w = .ok (.round L fn tmps assign body) w := by
    rw [← hrun]
    simp [xop, execOp, resolve, hf, Deferred.ofValue, invoke, e]
  simp only [e1, Oper.uponIn]
  refine ⟨fun h => (by cases h), RoundIn.mono hround ?_⟩
  have key : ∀ (b : Bool) (C' : Nat → Prop) (W : World), Agree M wI W → Agree C w W → (∀ k, C' k → (C k ∨ w.heap.size ≤ k) ∧ k < W.heap.size) → (b = true → J C' W) → (b = false → Jx W) → WL P r ops Q rest (a.put d (.bool b)) W := fun b C' W ha hag hC h1 h2 => by
    have := hp b
    have S' := S.put (d := d) (v := .bool b)
    refine K b C' _ W ha (fun k hk => (hC k hk).2) h1 h2 ⟨S'.slots, S'.defers, Wd.beginM (fun k hk => (hC k hk).2) fun Φ hΦ w'' hw'' => hF Φ hΦ w'' (hag.trans' hw'' fun i hi hk => ?_)⟩
    rcases (hC i hk).1 with h | h
    · exact h
    · omega
  rintro e W ⟨⟨ha, hag⟩, ⟨rfl, C', hC, hJ⟩ | ⟨rfl, hJ⟩⟩
  · exact key true C' W ha hag hC (fun _ => hJ) (fun h => by cases h)
  · exact key false (fun _ => False) W ha hag (fun k hk => hk.elim) (fun h => by cases h) (fun _ => hJ)
end
end Go.Proofs.YtlphkccfcodmcaaGreat

/- Loops over functions that write memory of their own between the rounds. -/
namespace Go.Proofs.YtlphkccfcodmcaaGreat
open Go Go.Wk
set_option maxRecDepth 100000

def IterRetI {α : Type} (P : Program) (g : Nat) (lb : List Value) (w : World) (M : Nat → Prop) (E : α → List Value → Prop) (xs : List α) : Prop :=
  ∀ (l : Nat) (J : Nat → (Nat → Prop) → World → Prop) (Jx : (Nat → Prop) → World → Prop),
    (∀ i x vs C W0 W1, xs[i]? = some x → J i C W0 → (∀ k, C k → W1.heap[k]? = W0.heap[k]?) → Agree M w W1 → E x vs → YieldAt (FW none) 0 P l vs.toArray W1 fun e W' =>
      (Agree M w W' ∧ Agree C W1 W') ∧ ∃ C', (∀ k, C' k → (C k ∨ W1.heap.size ≤ k) ∧ k < W'.heap.size) ∧ ((e = .returned (.bool true) ∧ J (i + 1) C' W') ∨ (e = .returned (.bool false) ∧ Jx C' W'))) →
    ∀ C0 : Nat → Prop, (∀ k, C0 k → M k ∧ k < w.heap.size) → J 0 C0 w →
    CallsIn (FW none) 0 P g (.func (.yield l) #[] #[] :: lb).toArray w fun e W' => (∃ v, e = .returned v) ∧ Agree M w W' ∧ ∃ C W0, (∀ k, C k → W'.heap[k]? = W0.heap[k]?) ∧ (J xs.length C W0 ∨ Jx C W0)
theorem wd_shift {w1 W0 W1 : World} {M F : Nat → Prop} {bs : List Wk.Item} {fs : List (World → Prop)} (h : Wd w1 M W0 bs fs) (hMF : ∀ k, M k → F k) (ho : ∀ it ∈ bs, it.own = true ∨ (Stable M w1 it.holds ∧ ∀ k, it.foot k → k < w1.heap.size ∧ F k)) (hf : ∀ Φ ∈ fs, Stable F w1 Φ) (hs : ∀ k, ownF bs k → W1.heap[k]? = W0.heap[k]?) (ha : Agree M w1 W1) : Wd w1 M W1 bs fs where
  agree := ha
  held := fun it hi => by
    rcases ho it hi with h1 | h1
    · exact h.loc it hi W0 W1 (fun k hk => hs k ⟨it, hi, h1, hk⟩) (h.held it hi)
    · exact h1.1 W1 ha
  lt := fun it hi k hk => by
    rcases ho it hi with h3 | h3
    · have h1 := hs k ⟨it, hi, h3, hk⟩
      have h2 := h.lt it hi k hk
      rw [Array.getElem?_eq_getElem h2] at h1
      exact (Array.getElem?_eq_some_iff.1 h1).1
    · exact Nat.lt_of_lt_of_le (h3.2 k hk).1 ha.size
  own := h.own
  apart := h.apart
  facts := fun Φ hΦ w2 hw2 => hf Φ hΦ w2 ((ha.mono fun i _ hm => hMF i hm).trans' hw2 fun i hi ⟨it, hm, hk⟩ => by
    rcases ho it hm with h3 | h3
    · exact (h.own it hm h3 i hk).elim (hMF i) (fun h => absurd h (by omega))
    · exact (h3.2 i hk).2)
  loc := h.loc
/-- what the consumer of an iterator has. -/
def jI (J : (Nat → Prop) → World → Prop) (C : Nat → Prop) : Wk.Item where
  foot := C
  holds := fun w => ∃ W0, J C W0 ∧ ∀ k, C k → w.heap[k]? = W0.heap[k]?
theorem jI_loc (J : (Nat → Prop) → World → Prop) (C : Nat → Prop) (w1 w2 : World) (h : ∀ k, (jI J C).foot k → w2.heap[k]? = w1.heap[k]?) (h1 : (jI J C).holds w1) : (jI J C).holds w2 := by
  obtain ⟨W0, hJ, hs⟩ := h1
  exact ⟨W0, hJ, fun k hk => (h k hk).trans (hs k hk)⟩
theorem Wd.startJ {w : World} {M : Nat → Prop} {J : (Nat → Prop) → World → Prop} {C : Nat → Prop} {fs : List (World → Prop)} (hC : ∀ k, C k → M k ∧ k < w.heap.size) (hJ : J C w) (hf : ∀ Φ ∈ fs, Stable M w Φ) : Wd w M w [jI J C] (Agree M w :: fs) where
  agree := Agree.refl _ _
  held := fun it hi => by obtain rfl := List.mem_singleton.1 hi; exact ⟨w, hJ, fun _ _ => rfl⟩
  lt := fun it hi k hk => by obtain rfl := List.mem_singleton.1 hi; exact (hC k hk).2
  own := fun it hi _ k hk => by obtain rfl := List.mem_singleton.1 hi; exact .inl (hC k hk).1
  apart := List.pairwise_singleton ..
  facts := fun Φ hΦ => by
    have hfo : ∀ k, foots [jI J C] k → M k := fun k ⟨it, hi, hk⟩ => by obtain rfl := List.mem_singleton.1 hi; exact (hC k hk).1
    rcases List.mem_cons.1 hΦ with rfl | hΦ
    · exact fun w' hw' => hw'.mono fun k _ hk => hfo k hk
    · exact (hf Φ hΦ).less fun k _ hk => hfo k hk
  loc := fun it hi => by obtain rfl := List.mem_singleton.1 hi; exact jI_loc _ _
section
variable {P : Program} {Q : Exit → Act → World → Prop} {w0 : World} {M0 : Nat → Prop} {ds : List Deferred} {a : Act} {w : World} {l : List Value} {bs bs' : List Wk.Item} {fs : List (World → Prop)}
/-- a loop over a function. -/
theorem c_rangeI {α : Type} {g : Operand} {ps : List Nat} {assign body : Code} {gf : Nat} {lb : List Value} {Ds : List Nat} {κ κx : Type} {E : α → List Value → Prop} (xs : List α)
    (bsI : Nat → κ → List Wk.Item) (φ : Nat → κ → Prop) (bsX : κx → List Wk.Item) (ψ : Code → κx → Prop) (k0 : κ)
    (S : St w0 M0 (dsOf Ds) a w l bs fs) [EntF P gf] [hg : Ev ⟨[], l⟩ g (.func (.func gf) #[] ⟨lb⟩)]
    (hit : ∀ (M : Nat → Prop) (w1 : World), (∀ k, M k → k < w1.heap.size) → (∀ Φ ∈ fs, Stable M w1 Φ) → (∀ it ∈ bs, it.own = false → Stable M w1 it.holds) → IterRetI P gf lb w1 M E xs)
    (hoI : ∀ i k, φ i k → ∀ it ∈ bsI i k, it.own = true ∨ (it.own = false ∧ it ∈ bs)) (hoX : ∀ c k, ψ c k → ∀ it ∈ bsX k, it.own = true ∨ (it.own = false ∧ it ∈ bs))
    (hk0 : φ 0 k0 ∧ bsI 0 k0 = bs)
    (hround : ∀ (L D : Nat) (b : Loop) (M : Nat → Prop) (w1 : World) (i : Nat) (x : α) (vs : List Value) (k : κ) (W : World), xs[i]? = some x → φ i k → Wd w1 M W (lpI L D (lpR b .ready none) :: bsI i k) fs → E x vs → ∃ lx, PutPs l ps vs lx ∧ ∀ a,
      St w1 M [] a W lx (lpI L D (lpR b .ready none) :: bsI i k) fs →
      Wp P (some L) assign (Exit.then (fun a w => ∃ w2, (Instr.beginRound L).run P w = .ok () w2 ∧ Wp P (some L) body (RoundEnd P L w1 M (fun W => ∃ k', φ (i + 1) k' ∧ Wd w1 M W (lpI L D (lpR b .ready none) :: bsI (i + 1) k') fs)
        (fun c W => (c = .ret ∨ ∃ id, c = .exit id) ∧ ∃ k', ψ c k' ∧ Wd w1 M W (lpI L D (lpR b .done (some c)) :: bsX k') fs)) a w2) (fun _ _ _ => False)) a W)
    (hdone : ∀ (D : Nat) (k : κ) (a : Act) (W : World), φ xs.length k → St w0 M0 (dsOf ([D] ++ Ds)) a W l (marks [D] :: bsI xs.length k) fs → Q .normal a W)
    (hret : ∀ (D : Nat) (k : κx) (a : Act) (W : World), ψ .ret k → St w0 M0 (dsOf ([D] ++ Ds)) a W l (marks [D] :: bsX k) fs → Q .ret a W)
    (hexit : ∀ (id D : Nat) (k : κx) (a : Act) (W : World), ψ (.exit id) k → St w0 M0 (dsOf ([D] ++ Ds)) a W l (marks [D] :: bsX k) fs → Q (.exit id) a W) :
    Wp P none (.rangeFunc g ps.toArray assign body) Q a w := by
  refine wpIn_rangeFunc ?_
  intro fn _
  obtain ⟨b, hb⟩ : ∃ b : Loop, b = { state := .ready, pending := none, fn := fn, tmps := a.tmps, params := ps.toArray, assign := assign, body := body, defers := w.heap.size } := ⟨_, rfl⟩
  obtain ⟨w1, hw1⟩ : ∃ w1, (w.alloc (.deferred (some []))).alloc (.loop b) = w1 := ⟨_, rfl⟩
  have hL1 : w1.heap[w.heap.size + 1]? = some (.loop b) := by
    rw [← hw1]; have := World.alloc_heap_new (w.alloc (.deferred (some []))) (.loop b); rwa [World.size_alloc] at this
  have hD1 : w1.heap[w.heap.size]? = some (.deferred (some [])) := by
    rw [← hw1]; exact (RowKit.Below.heap_alloc _ _ _ (by simp)).trans (World.alloc_heap_new w _)
  have hsz : w1.heap.size = w.heap.size + 2 := by rw [← hw1]; simp
  have hgrow : Grow w w1 := by rw [← hw1]; exact (Agree.alloc _ w _).trans (Agree.alloc _ _ _)
  have hlpr : lpR b .ready none = b := by rw [hb]; rfl
  obtain ⟨M, hM⟩ : ∃ M : Nat → Prop, M = fun k => k = w.heap.size ∨ k = w.heap.size + 1 ∨ ∃ it ∈ bs, it.own = true ∧ it.foot k := ⟨_, rfl⟩
  have hwd1 : Wd w1 M w1 (lpI (w.heap.size + 1) w.heap.size (lpR b .ready none) :: bs) fs := by
    have hst := S.wd.step hgrow
    refine ⟨Agree.refl _ _, ?_, ?_, ?_, List.pairwise_cons.2 ⟨?_, hst.apart⟩, ?_, ?_⟩
    · intro it hi
      rcases List.mem_cons.1 hi with rfl | hi
      · exact ⟨by rw [hlpr]; exact hL1, hD1⟩
      · exact hst.held it hi
    · intro it hi k hk
      rcases List.mem_cons.1 hi with rfl | hi
      · simp only [lpI] at hk; omega
      · exact hst.lt it hi k hk
    · intro it hi ho k hk
      rw [hM]
      rcases List.mem_cons.1 hi with rfl | hi
      · exact .inl (hk.elim .inl (fun h => .inr (.inl h)))
      · exact .inl (.inr (.inr ⟨it, hi, ho, hk⟩))
    · intro it hi k hk hk'
      have := S.wd.lt it hi k hk'
      simp only [lpI] at hk; omega
    · intro Φ hΦ w'' hw''
      refine S.wd.facts Φ hΦ w'' ((hgrow.mono (fun _ _ h => h.elim)).trans' hw'' fun i hi ⟨it, hm, hk⟩ => ?_)
      rcases List.mem_cons.1 hm with rfl | hm
      · simp only [lpI] at hk; omega
      · exact ⟨it, hm, hk⟩
    · intro it hi
      rcases List.mem_cons.1 hi with rfl | hi
      · exact lpI_loc _ _ _
      · exact hst.loc it hi
  have hMlt : ∀ k, M k → k < w1.heap.size := fun k hk => by
    rw [hM] at hk
    rcases hk with rfl | rfl | ⟨it, hi, _, hk⟩
    · omega
    · omega
    · have := S.wd.lt it hi k hk; omega
  have hMf : ∀ Φ ∈ fs, Stable M w1 Φ := fun Φ hΦ => (hwd1.facts Φ hΦ).less fun k _ hk => by
    rw [hM] at hk
    rcases hk with rfl | rfl | ⟨it, hi, _, hk⟩
    · exact ⟨_, List.mem_cons_self .., .inl rfl⟩
    · exact ⟨_, List.mem_cons_self .., .inr rfl⟩
    · exact ⟨it, List.mem_cons_of_mem _ hi, hk⟩
  have hMr : ∀ it ∈ bs, it.own = false → Stable M w1 it.holds := fun it hi ho w2 hw2 => by
    have hst := S.wd.step hgrow
    refine hst.loc it hi w1 w2 (fun k hk => hw2.blk (hst.lt it hi k hk) fun hm => ?_) (hst.held it hi)
    rw [hM] at hm
    have hlt := S.wd.lt it hi k hk
    rcases hm with rfl | rfl | ⟨it', hi', ho', hk'⟩
    · omega
    · omega
    · exact apart_of S.wd.apart hi hi' (by rw [ho, ho']; simp) k hk hk'
  have hM0 : ∀ k, M k → M0 k ∨ w0.heap.size ≤ k := fun k hk => by
    have := S.wd.agree.size
    rw [hM] at hk
    rcases hk with rfl | rfl | ⟨it, hi, ho, hk⟩
    · exact .inr this
    · exact .inr (by omega)
    · exact S.wd.own it hi ho k hk
  have hag : Agree M0 w0 w1 := (S.wd.step hgrow).agree
  have hfin : ∀ (r : Loop) (bs2 : List Wk.Item) (fs2 : List (World → Prop)) (W : World), r.state ≠ .busy → Wd w1 M W (lpI (w.heap.size + 1) w.heap.size r :: bs2) fs2 →
      ∃ W', (Instr.endLoop (w.heap.size + 1)).run P W = .ok r.pending W' ∧ St w0 M0 (dsOf ([w.heap.size] ++ Ds)) { a with defers := [{ target := .collected w.heap.size, args := #[] }] ++ a.defers } W' l (marks [w.heap.size] :: bs2) fs2 := fun r bs2 fs2 W hr hwd => by
    have hl : W.heap[w.heap.size + 1]? = some (.loop r) ∧ W.heap[w.heap.size]? = some (.deferred (some [])) := hwd.held _ (List.mem_cons_self ..)
    have hlt : w.heap.size + 1 < W.heap.size := (Array.getElem?_eq_some_iff.1 hl.1).1
    refine ⟨_, run_endLoop (P := P) hl.1 hr, S.slots, by rw [S.defers]; rfl, ?_⟩
    refine (hwd.rebase hag hM0).swap (pre := []) (y := marks [w.heap.size]) rfl (Agree.putObj W _ _ (.inr rfl)) ⟨by simp, fun k hk => ?_⟩ (fun k hk => .inl ?_) (fun k hk => ?_) (marks_loc _)
    · obtain rfl := List.mem_singleton.1 hk
      exact (World.putObj_heap_other (by omega)).trans hl.2
    · obtain rfl := List.mem_singleton.1 hk; exact .inl rfl
    · obtain rfl := List.mem_singleton.1 hk; simp; omega
  have heg := hg.eq (by simp) a.defers
  have hae : a.eval g = .func (.func gf) #[] ⟨lb⟩ := S.fr.ev
  refine ⟨w.heap.size + 1, [{ target := .collected w.heap.size, args := #[] }], w1, { target := .fn (.func gf) ⟨lb⟩, args := #[.func (.yield (w.heap.size + 1)) #[] #[]] }, w1, gf,
    (.func (.yield (w.heap.size + 1)) #[] #[] :: lb).toArray, w1, ?_, ?_, fun _ _ => trivial, ?_, fun h => (by cases h), ?_⟩
  · rw [← hw1, hb]; exact run_enterLoop_outer _ _ _ _ _
  · simp only [resolve, hae]
    simp [go_sem]
  · have := EntF.run (P := P) (f := gf) (.func (.yield (w.heap.size + 1)) #[] #[] :: lb).toArray w1
    simpa [invoke, go_sem] using this
  · have hI := hit M w1 hMlt hMf hMr
    have hM0' : ∀ k, ownF (lpI (w.heap.size + 1) w.heap.size (lpR b .ready none) :: bs) k → M k := fun k ⟨it, hi, ho, hk⟩ => by
      rw [hM]
      rcases List.mem_cons.1 hi with rfl | hi
      · exact hk.elim (fun h => .inl h) (fun h => .inr (.inl h))
      · exact .inr (.inr ⟨it, hi, ho, hk⟩)
    have hown : ∀ (r : Loop) (bs2 : List Wk.Item), (∀ it ∈ bs2, it.own = true ∨ (it.own = false ∧ it ∈ bs)) → ∀ it ∈ lpI (w.heap.size + 1) w.heap.size r :: bs2, it.own = true ∨ (Stable M w1 it.holds ∧ ∀ k, it.foot k → k < w1.heap.size ∧ foots (lpI (w.heap.size + 1) w.heap.size (lpR b .ready none) :: bs) k) := fun r bs2 h it hi => by
      rcases List.mem_cons.1 hi with rfl | hi
      · exact .inl rfl
      · rcases h it hi with h | ⟨h, hm⟩
        · exact .inl h
        · exact .inr ⟨hMr it hm h, fun k hk => ⟨hwd1.lt it (List.mem_cons_of_mem _ hm) k hk, it, List.mem_cons_of_mem _ hm, hk⟩⟩
    have hMF : ∀ k, M k → foots (lpI (w.heap.size + 1) w.heap.size (lpR b .ready none) :: bs) k := fun k hk => by
      rw [hM] at hk
      rcases hk with rfl | rfl | ⟨it, hi, _, hk⟩
      · exact ⟨_, List.mem_cons_self .., .inl rfl⟩
      · exact ⟨_, List.mem_cons_self .., .inr rfl⟩
      · exact ⟨it, List.mem_cons_of_mem _ hi, hk⟩
    refine CallsIn.mono (hI (w.heap.size + 1) (fun i C W => ∃ k, φ i k ∧ Wd w1 M W (lpI (w.heap.size + 1) w.heap.size (lpR b .ready none) :: bsI i k) fs ∧ C = ownF (lpI (w.heap.size + 1) w.heap.size (lpR b .ready none) :: bsI i k))
      (fun C W => ∃ c, (c = .ret ∨ ∃ id, c = .exit id) ∧ ∃ k, ψ c k ∧ Wd w1 M W (lpI (w.heap.size + 1) w.heap.size (lpR b .done (some c)) :: bsX k) fs ∧ C = ownF (lpI (w.heap.size + 1) w.heap.size (lpR b .done (some c)) :: bsX k)) ?_ _ (fun k hk => ⟨hM0' k hk, hMlt k (hM0' k hk)⟩) ⟨k0, hk0.1, by rw [hk0.2]; exact hwd1, by rw [hk0.2]⟩) ?_
    · rintro i x vs C W0 W1 hx ⟨k, hφ, hwd, rfl⟩ hsame hagr hE
      have hwdg := wd_shift hwd hMF (hown _ _ (hoI i k hφ)) hwd1.facts hsame hagr
      have hl : W1.heap[w.heap.size + 1]? = some (.loop (lpR b .ready none)) := (hwdg.held _ (List.mem_cons_self ..)).1
      have hnow := wd_now hwdg
      obtain ⟨lx, hps, hround'⟩ := hround (w.heap.size + 1) w.heap.size b _ W1 i x vs k W1 hx hφ hnow hE
      have hp := hps.eq
      have hy := run_yield (P := P) (args := vs.toArray) hl (by rw [hb]; simpa [lpR] using hp.2)
      refine ⟨_, _, _, _, hy, roundIn_of_wpIn trivial ?_⟩
      have e1 : (((lpR b .ready none).params.zip vs.toArray).foldl (fun tmps (t, a) => tmps.setIfInBounds t a) (lpR b .ready none).tmps) = lx.toArray := by
        rw [hb]
        simp only [lpR, S.slots, foldl_put, hp.1]
      rw [e1]
      have hC : ∀ k', ownF (lpI (w.heap.size + 1) w.heap.size (lpR b .ready none) :: bsI i k) k' → M k' ∨ w1.heap.size ≤ k' := fun k' ⟨it, hi, ho, hk'⟩ => hwdg.own it hi ho k' hk'
      have := hround' { tmps := lx.toArray, defers := [] } ⟨rfl, rfl, hnow⟩
      simp only [hb, lpR] at this hC ⊢
      refine wpIn_mono this ?_
      intro e a' w' he
      cases e with
      | normal =>
        obtain ⟨w2, h1, h2⟩ := he
        refine ⟨w2, h1, wpIn_mono h2 fun e2 a2 w3 h3 => roundPost_mono' (fun e W' hR => ?_) h3⟩
        obtain ⟨r1, ⟨r2, k', r3, r4⟩ | ⟨r2, c, r3, k', r4, r5⟩⟩ := hR
        · have r6 := r4.rebase hwdg.agree hC
          exact ⟨⟨r6.agree, r1⟩, _, fun q ⟨it, hi, ho, hq⟩ => ⟨r4.own it hi ho q hq, r4.lt it hi q hq⟩, .inl ⟨r2, k', r3, r6, rfl⟩⟩
        · have r6 := r5.rebase hwdg.agree hC
          exact ⟨⟨r6.agree, r1⟩, _, fun q ⟨it, hi, ho, hq⟩ => ⟨r5.own it hi ho q hq, r5.lt it hi q hq⟩, .inr ⟨r2, c, r3, k', r4, r6, rfl⟩⟩
      | _ => exact he.elim
    · rintro e W ⟨⟨v, rfl⟩, hagr, C, W0, hsame, ⟨k, hφ, hwd, rfl⟩ | ⟨c, hc, k, hψ, hwd, rfl⟩⟩
      · obtain ⟨W', h1, h2⟩ := hfin (lpR b .ready none) _ _ W (by simp [lpR]) (wd_shift hwd hMF (hown _ _ (hoI _ k hφ)) hwd1.facts hsame hagr)
        exact ⟨none, W', h1, hdone _ k _ W' hφ h2⟩
      · obtain ⟨W', h1, h2⟩ := hfin (lpR b .done (some c)) _ _ W (by simp [lpR]) (wd_shift hwd hMF (hown _ _ (hoX c k hψ)) hwd1.facts hsame hagr)
        refine ⟨some c, W', h1, ?_⟩
        rcases hc with rfl | ⟨id, rfl⟩
        · exact wpIn_ret (hret _ k _ W' hψ h2)
        · exact wpIn_exit (hexit id _ k _ W' hψ h2)
end
section
variable {P : Program} {r : Option Nat} {ops : Array Oper} {Q : Exit → Act → World → Prop} {w0 : World} {M0 : Nat → Prop} {ds : List Deferred} {a : Act} {w : World} {l : List Value} {bs : List Wk.Item} {fs fs0 : List (World → Prop)}
  {d : Option Nat} {op : Op} {ty : TypeId} {pos : String} {af : Array Edge} {rest : List Oper} {ts : Array TypeId}
/-- a call of yield, in a round of a loop over another function. -/
theorem syR {x : Operand} {xs : List Operand} {L : Nat} {vs : List Value} {l' : Bool → List Value} {wI : World} {M C : Nat → Prop} {J J1 Jx : (Nat → Prop) → World → Prop} {bs' : Bool → (Nat → Prop) → List Wk.Item} [hx : Ev ⟨[], l⟩ x (.func (.yield L) #[] #[])] [hv : EvL ⟨[], l⟩ xs vs] [hp : ∀ b : Bool, PutO l d (.bool b) (l' b)]
    [hr : ∀ (b : Bool) (C' : Nat → Prop), ReplI bs (jI J C) (jI (bif b then J1 else Jx) C') (bs' b C')]
    (S : St w0 M0 ds a w l bs fs)
    (hy : ∀ W0, J C W0 → (∀ k, C k → w.heap[k]? = W0.heap[k]?) → YieldAt (FW none) 0 P L vs.toArray w fun e W' => (Agree M wI W' ∧ Agree C w W') ∧ ∃ C', (∀ k, C' k → (C k ∨ w.heap.size ≤ k) ∧ k < W'.heap.size) ∧ ((e = .returned (.bool true) ∧ J1 C' W') ∨ (e = .returned (.bool false) ∧ Jx C' W')))
    (K : ∀ (b : Bool) (C' : Nat → Prop) a W, St w0 M0 ds a W (l' b) (bs' b C') fs → WL P r ops Q rest a W) :
    WL P r ops Q (⟨d, .call { callee := .value x, args := xs.toArray, argTypes := ts }, ty, pos, af, none⟩ :: rest) a w := by
  have hmem : jI J C ∈ bs := by
    obtain ⟨pre, post, h1, -⟩ := (hr true C).ex
    rw [h1]; simp
  obtain ⟨W0, hJ, hsame⟩ := S.wd.held _ hmem
  refine wl_plain rfl ?_
  rw [semAt_nd rfl]
  obtain ⟨fn, tmps, assign, body, hrun, hround⟩ := hy W0 hJ hsame
  have hf : a.eval x = .func (.yield L) #[] #[] := S.fr.ev
  have e := S.fr.evl (xs := xs) (vs := vs)
  have e1 : (xop a.eval (.call { callee := .value x, args := xs.toArray, argTypes := ts }) ty).run P w = .ok (.round L fn tmps assign body) w := by
    rw [← hrun]
    simp [xop, execOp, resolve, hf, Deferred.ofValue, invoke, e]
  simp only [e1, Oper.uponIn]
  refine ⟨fun h => (by cases h), RoundIn.mono hround ?_⟩
  have key : ∀ (b : Bool) (C' : Nat → Prop) (W : World), Agree C w W → (∀ k, C' k → (C k ∨ w.heap.size ≤ k) ∧ k < W.heap.size) → (bif b then J1 else Jx) C' W → WL P r ops Q rest (a.put d (.bool b)) W := fun b C' W hag hC h1 => by
    have := hp b
    have S' := S.put (d := d) (v := .bool b)
    refine K b C' _ W ⟨S'.slots, S'.defers, ?_⟩
    obtain ⟨pre, post, hb1, hb2⟩ := (hr b C').ex
    rw [hb2]
    have hwd := S'.wd
    rw [hb1] at hwd
    exact hwd.swap (y := jI (bif b then J1 else Jx) C') rfl hag ⟨W, h1, fun _ _ => rfl⟩ (fun k hk => (hC k hk).1) (fun k hk => (hC k hk).2) (jI_loc _ _)
  rintro e W ⟨⟨ha, hag⟩, C', hC, ⟨rfl, hJ⟩ | ⟨rfl, hJ⟩⟩
  · exact key true C' W hag hC hJ
  · exact key false C' W hag hC hJ
end
end Go.Proofs.YtlphkccfcodmcaaGreat

/- Package merkle: the rows of a seed's tree. -/
namespace Go.Proofs.YtlphkccfcodmcaaGreat
open Go Go.Wk
set_option synthInstance.maxSize 100000
set_option synthInstance.maxHeartbeats 400000
set_option maxRecDepth 100000

theorem upD_len : ∀ (n : Nat) (l : List Dg), l.length ≤ n → (upD l).length = l.length / 2
  | _, [], _ => rfl
  | _, [x], _ => by simp [upD]
  | 0, x :: y :: l, h => by simp at h
  | n + 1, x :: y :: l, h => by
    have := upD_len n l (by simp only [List.length_cons] at h; omega)
    simp only [upD, List.length_cons]; omega
def rowAt (seed : Dg) : Nat → List Dg
  | 0 => row0 seed
  | k + 1 => upD (rowAt seed k)
theorem rowAt_len (seed : Dg) : (rowAt seed 0).length = 8 ∧ (rowAt seed 1).length = 4 ∧ (rowAt seed 2).length = 2 ∧ (rowAt seed 3).length = 1 ∧ (rowAt seed 4).length = 0 := by
  have h : ∀ l : List Dg, (upD l).length = l.length / 2 := fun l => upD_len l.length l (Nat.le_refl _)
  have h0 : (rowAt seed 0).length = 8 := row0_len seed
  have h1 : (rowAt seed 1).length = 4 := by show (upD (rowAt seed 0)).length = _; rw [h, h0]
  have h2 : (rowAt seed 2).length = 2 := by show (upD (rowAt seed 1)).length = _; rw [h, h1]
  have h3 : (rowAt seed 3).length = 1 := by show (upD (rowAt seed 2)).length = _; rw [h, h2]
  exact ⟨h0, h1, h2, h3, by show (upD (rowAt seed 3)).length = _; rw [h, h3]⟩
theorem rowAt_le (seed : Dg) {k : Nat} (h : k ≤ 4) : (rowAt seed k).length ≤ 8 ∧ (k < 4 → 0 < (rowAt seed k).length) ∧ (k = 4 → (rowAt seed k).length = 0) := by
  obtain ⟨h0, h1, h2, h3, h4⟩ := rowAt_len seed
  rcases (show k = 0 ∨ k = 1 ∨ k = 2 ∨ k = 3 ∨ k = 4 by omega) with rfl | rfl | rfl | rfl | rfl <;> omega
def rowsL (seed : Dg) : List (List Dg) := (List.range 4).map (rowAt seed)
theorem rowsL_len (seed : Dg) : (rowsL seed).length = 4 := by simp [rowsL]
def rowsV (g0 : Nat) : Value := .func (.func 65) #[] ⟨[.pointer (some ⟨g0, 0, none⟩)]⟩
theorem rows_f (seed : Dg) (w0 : World) : Ret Tryz.prog 29 [vDg seed] w0 (fun _ => False) fun v w' => ∃ g0, v = rowsV g0 ∧ w0.heap.size ≤ g0 ∧ BoxF g0 23 (encL seed.l) w' := by
  refine enter Tryz.func29 rfl rfl (Wd.start w0) (fun a S => ?_)
  simp only [Tryz.ntmps29, List.length_cons, List.length_nil, Nat.reduceAdd, Nat.reduceSub, List.replicate_succ, List.replicate_zero, List.cons_append, List.nil_append] at S
  refine c_seq ?_
  refine c_region ?_
  refine sa S ?_; clear S; intro b1 a w S
  refine sq S ?_; clear S; intro a S
  refine wl_nil ?_
  refine xtn ?_
  refine c_seq ?_
  refine c_region ?_
  iterate 2 (refine sq S ?_; clear S; intro a S)
  refine wl_nil ?_
  refine xtn ?_
  refine c_ret ?_
  have h1 := (S.boxNew b1).elim (fun h => h.elim) id
  have e1 := S.boxF b1
  exact end1 S (fun _ => ⟨b1, rfl, h1, e1⟩)
theorem row0_take (seed : Dg) {i : Nat} (h : i < 8) : (row0 seed).take (i + 1) = (row0 seed).take i ++ [keyD (seedD seed i)] := by
  rw [List.take_add_one, row0, List.getElem?_map, List.getElem?_range h]; rfl
def RowE (r : List Dg) (vs : List Value) (C : Nat → Prop) (W : World) : Prop := ∃ p c, vs = [.slice p r.length c] ∧ Stable C W (GlF p r)
theorem rows_it (g0 : Nat) (seed : Dg) (w0 : World) (M : Nat → Prop) (f0 : Stable M w0 (BoxF g0 23 (encL seed.l))) :
    IterRetP Tryz.prog 65 [.pointer (some ⟨g0, 0, none⟩)] w0 M RowE (rowsL seed) := by
  intro L J Jx hy C0 hC0 hJ0
  have hr0 := row0_len seed
  have hF : ∀ Φ ∈ [BoxF g0 23 (encL seed.l)], Stable C0 w0 Φ := by
    intro Φ hΦ
    obtain rfl := List.mem_singleton.1 hΦ
    exact f0.less fun k _ hk => (hC0 k hk).1
  refine (callsIn_wide (n := 0)).2 ?_
  refine enter Tryz.func65 rfl rfl (Wd.beginM (M := C0) (fs := [BoxF g0 23 (encL seed.l)]) (fun k hk => (hC0 k hk).2) hF) (fun a S => ?_)
  simp only [Tryz.ntmps65, List.length_cons, List.length_nil, Nat.reduceAdd, Nat.reduceSub, List.replicate_succ, List.replicate_zero, List.cons_append, List.nil_append] at S
  refine c_seq ?_
  refine c_region ?_
  refine sq S ?_; clear S; intro a S
  refine wl_nil ?_
  refine xtn ?_
  iterate 2 (refine c_seq ?_)
  refine c_region ?_
  refine sq S ?_; clear S; intro a S
  refine wl_nil ?_
  refine xtn ?_
  refine c_block ?_
  replace S := S.addNil 23 32
  refine c_fore3 S (fun (i : Nat) (p : Option Addr) (c : Nat) uu => [(3, .slice p i c), (0, uu 4), (0, uu 5), (0, uu 6), (2, .int .i64 (i : Nat)), (0, uu 10), (0, uu 11), (0, uu 12), (0, uu 13), (0, uu 14), (0, uu 15), (0, uu 16), (0, uu 17), (0, uu 18), (0, uu 19), (0, uu 20), (0, uu 21), (0, uu 22), (0, uu 23)]) (fun (i : Nat) (p : Option Addr) (c : Nat) => [Wk.row 23 32 p i c (encL ((row0 seed).take i)), ext C0]) (fun (i : Nat) (p : Option Addr) (c : Nat) => [BoxF g0 23 (encL seed.l)]) (fun (i : Nat) (p : Option Addr) (c : Nat) => i ≤ 8) (fun (i : Nat) (p : Option Addr) (c : Nat) => 8 - i) (0) (none) (0) ?_ S.uu ?_ ?_
  · exact Nat.zero_le _
  · exact S.sub [Wk.row 23 32 none 0 0 [], ext C0] _
  · clear S; rintro i p c uu a w hi8 S
    refine c_seq ?_
    refine c_region ?_
    refine sq S ?_; clear S; intro a S
    refine wl_nil ?_
    refine xtn ?_
    refine c_seq ?_
    refine c_cond S (fun h2 => ?_) (fun h2 => ?_)
    · refine c_skip ?_
      refine xtn ?_
      refine c_seq ?_
      refine c_block ?_
      refine c_seq ?_
      have hi : i < 8 := by have := of_decide_eq_true h2; omega
      have hti := row0_take seed hi
      refine c_region ?_
      iterate 2 (refine sq S ?_; clear S; intro a S)
      refine wl_nil ?_
      refine xtn ?_
      refine c_seq ?_
      refine c_region ?_
      iterate 2 (refine sq S ?_; clear S; intro a S)
      refine sr S (mseed_c seed i hi _) ?_; clear S; rintro _ a w rfl S
      iterate 3 (refine sq S ?_; clear S; intro a S)
      refine sa S ?_; clear S; intro b5 a w S
      refine sw S ?_; clear S; intro a w S
      refine sq S ?_; clear S; intro a S
      refine wl_nil ?_
      refine xtn ?_
      refine c_region ?_
      iterate 2 (refine sq S ?_; clear S; intro a S)
      refine sr S (key_c (seedD seed i) _) ?_; clear S; rintro _ a w rfl S
      refine sn S ?_; clear S; intro b21 a w S
      refine sap S (by simp only [maxLen]; omega) (by omega) ?_; clear S; rintro p3 c3 a w - S
      rw [show encL ((row0 seed).take i) ++ encL (keyD (seedD seed i)).l = encL ((row0 seed).take (i + 1)) from by rw [hti, encL_append, ← encD1]] at S
      refine sq S ?_; clear S; intro a S
      refine wl_nil ?_
      refine xbn ?_
      refine xtn ?_
      refine c_region ?_
      iterate 2 (refine sq S ?_; clear S; intro a S)
      refine wl_nil ?_
      refine xtn ?_
      rw [show IntKind.i64.wrap ((i : Int) + 1) = ((i + 1 : Nat) : Int) from by rw [w64 _ (by omega) (by omega)]; rfl] at S
      exact ⟨i + 1, p3, c3, S.uu, hi, S.sub _ _, by omega⟩
    · refine c_exit ?_
      iterate 2 (refine xte ?_)
      refine xbe ?_
      refine xtn ?_
      refine c_block ?_
      have hi8 : i = 8 := by have := of_decide_eq_false h2; omega
      subst hi8
      rw [List.take_of_length_le (by omega)] at S
      have hcap := own_le (S.row p 8)
      replace S := S.rowToGl p (row0 seed) (e := 23) (sz := 32) (n := 8) (c := c) (fun _ _ _ _ => trivial)
      refine c_loop (ι := Nat) (fun k a w => k ≤ 4 ∧ ∃ C w1 q e, J k C w1 ∧ (rowAt seed k).length ≤ e ∧ (∀ x, C x → x < w1.heap.size) ∧ ∃ uu : Nat → Value,  St w1 (fun _ => False) [] a w ((.func (.yield L) #[] #[]) :: (.pointer (some ⟨g0, 0, none⟩)) :: uu 2 :: (.slice q (rowAt seed k).length e) :: uu 4 :: uu 5 :: uu 6 :: uu 7 :: uu 8 :: uu 9 :: uu 10 :: uu 11 :: uu 12 :: uu 13 :: uu 14 :: uu 15 :: uu 16 :: uu 17 :: uu 18 :: uu 19 :: uu 20 :: uu 21 :: uu 22 :: uu 23 :: uu 24 :: uu 25 :: uu 26 :: uu 27 :: uu 28 :: uu 29 :: uu 30 :: uu 31 :: uu 32 :: uu 33 :: uu 34 :: uu 35 :: uu 36 :: uu 37 :: uu 38 :: uu 39 :: uu 40 :: uu 41 :: uu 42 :: uu 43 :: uu 44 :: uu 45 :: uu 46 :: uu 47 :: uu 48 :: []) [ext C] [GlF q (rowAt seed k), BoxF g0 23 (encL seed.l)]) (fun k => 5 - k) 0 ?_ ?_
      · exact ⟨Nat.zero_le _, C0, w0, p, c, hJ0, by show (row0 seed).length ≤ c; omega, fun x hx => (hC0 x hx).2, S.uu, by rw [show (rowAt seed 0).length = 8 from hr0]; exact S⟩
      · clear S
        rintro k a w ⟨hk, C, w1, q, e, hJk, hce, hCl, uu, S⟩
        obtain ⟨hl8, hlp, hl0⟩ := rowAt_le seed hk
        iterate 2 (refine c_seq ?_)
        refine c_region ?_
        iterate 4 (refine sq S ?_; clear S; intro a S)
        refine gS S (fun hs S => ?_) (fun hs S => ?_)
        · refine gT S ?_
          refine sq S ?_; clear S; intro a S
          refine gT S ?_
          refine sq S ?_; clear S; intro a S
          refine gT S ?_
          have hk4 : k < 4 := by
            rcases Nat.lt_or_ge k 4 with h | h
            · exact h
            · have := hl0 (by omega); rw [this] at hs; simp at hs
          have hx : (rowsL seed)[k]? = some (rowAt seed k) := by rw [rowsL, List.getElem?_map, List.getElem?_range hk4]; rfl
          have hst : Stable C w (GlF q (rowAt seed k)) := (S.mem.fact (GlF q (rowAt seed k))).less fun k _ hk => ⟨ext C, by simp, hk⟩
          have hst2 : Stable C w (BoxF g0 23 (encL seed.l)) := (S.mem.fact (BoxF g0 23 (encL seed.l))).less fun k _ hk => ⟨ext C, by simp, hk⟩
          have hF2 : ∀ Φ ∈ [GlF q (rowAt seed k), BoxF g0 23 (encL seed.l)], Stable C w Φ := by
            simp only [List.mem_cons, List.not_mem_nil, or_false]; rintro Φ (rfl | rfl) <;> assumption
          refine syP S (M := M) (wI := w0) (fs0 := [GlF q (rowAt seed k), BoxF g0 23 (encL seed.l)]) hF2 (hy k (rowAt seed k) _ C w1 _ hx hJk S.wd.agree ⟨q, e, rfl, hst⟩) ?_; clear S; intro ok C' a w2 ha hCl' hT hX S
          refine sq S ?_; clear S; intro a S
          refine wl_nil ?_
          refine xtn ?_
          refine c_cond S (fun h7 => ?_) (fun h7 => ?_)
          · refine c_skip ?_
            refine xtn ?_
            refine c_block ?_
            refine c_seq ?_
            refine c_region ?_
            refine sq S ?_; clear S; intro a S
            refine wl_nil ?_
            refine xtn ?_
            iterate 2 (refine c_seq ?_)
            refine c_region ?_
            iterate 2 (refine sq S ?_; clear S; intro a S)
            refine wl_nil ?_
            refine xtn ?_
            refine c_block ?_
            have hok : ok = true := by simpa using h7
            replace S := S.addNil 23 32
            refine c_fore6 S (fun (ls : List Dg) (ql : Option Addr) (el : Nat) (nx : List Dg) (qn : Option Addr) (en : Nat) uu => [(7, .slice qn nx.length en), (0, .slice ql ls.length el), (24, uu 33), (0, uu 34), (0, uu 35), (0, uu 36), (0, uu 37), (0, uu 38), (0, uu 39), (0, uu 40), (0, uu 41), (0, uu 42), (0, uu 43), (0, uu 44), (0, uu 45), (0, uu 46), (0, uu 47)]) (fun (ls : List Dg) (ql : Option Addr) (el : Nat) (nx : List Dg) (qn : Option Addr) (en : Nat) => [Wk.row 23 32 qn nx.length en (encL nx), ext C']) (fun (ls : List Dg) (ql : Option Addr) (el : Nat) (nx : List Dg) (qn : Option Addr) (en : Nat) => [GlF ql ls, BoxF g0 23 (encL seed.l)]) (fun (ls : List Dg) (ql : Option Addr) (el : Nat) (nx : List Dg) (qn : Option Addr) (en : Nat) => ls.length ≤ el ∧ nx.length + ls.length ≤ 8 ∧ nx ++ upD ls = rowAt seed (k + 1)) (fun (ls : List Dg) (ql : Option Addr) (el : Nat) (nx : List Dg) (qn : Option Addr) (en : Nat) => ls.length) (rowAt seed k) (q) (e) ([]) (none) (0) ?_ S.uu ?_ ?_
            · exact ⟨hce, by simp only [List.length_nil]; omega, rfl⟩
            · exact S.sub [Wk.row 23 32 none 0 0 [], ext C'] _
            · clear S; rintro ls ql el nx qn en uu a w ⟨hle, hl9, hup⟩ S
              iterate 2 (refine c_seq ?_)
              refine c_region ?_
              iterate 3 (refine sq S ?_; clear S; intro a S)
              refine wl_nil ?_
              refine xtn ?_
              refine c_cond S (fun h10 => ?_) (fun h10 => ?_)
              · refine c_skip ?_
                refine xtn ?_
                refine c_seq ?_
                refine c_block ?_
                have h2l : 2 ≤ ls.length := by have := of_decide_eq_true h10; omega
                have hK0 : KLt 0 ls.length := ⟨by omega⟩
                have hK1 : KLt 1 ls.length := ⟨by omega⟩
                have hLe : LeC 2 ls.length := ⟨h2l⟩
                have hLe2 : LeC ls.length el := ⟨hle⟩
                have hLe3 : LeC 2 el := ⟨by omega⟩
                have hud : upD ls = joinD (nthG ls 0) (nthG ls 1) :: upD (ls.drop 2) := by
                  match ls, h2l with
                  | x :: y :: r, _ => rfl
                rw [hud] at hup
                refine c_drawE [(0, true), (1, true), (2, true), (3, true), (4, true), (5, true), (6, true), (7, false), (8, false), (9, false), (10, true)] [] S ?_; clear S; intro w S
                iterate 7 (refine dq S ?_; clear S; intro a S)
                refine dl ?_
                refine sr S (mjoin_c (nthG ls 0) (nthG ls 1) _) ?_; clear S; rintro _ a w rfl S
                refine de S ?_
                refine dl ?_
                refine sn S ?_; clear S; intro b46 a w S
                refine de S ?_
                refine dl ?_
                refine sap S (by simp only [maxLen]; omega) (by omega) ?_; clear S; rintro p3 c3 a w - S
                rw [show encL nx ++ encL (joinD (nthG ls 0) (nthG ls 1)).l = encL (nx ++ [joinD (nthG ls 0) (nthG ls 1)]) from by rw [encL_append, ← encD1], show nx.length + 1 = (nx ++ [joinD (nthG ls 0) (nthG ls 1)]).length from by simp] at S
                refine de S ?_
                refine dq S ?_; clear S; intro a S
                refine dn ?_
                refine xbn ?_
                refine xtn ?_
                refine c_region ?_
                iterate 3 (refine sq S ?_; clear S; intro a S)
                refine wl_nil ?_
                refine xtn ?_
                replace S := S.add (Φ := GlF (if el = 2 then ql else ql.map (·.add (2 * 32))) (ls.drop 2)) ((S.mem.fact (GlF ql ls)).imp fun _ h => h.drop 2 hle)
                rw [show ls.length - 2 = (ls.drop 2).length from List.length_drop.symm] at S
                refine ⟨ls.drop 2, (if el = 2 then ql else ql.map (·.add (2 * 32))), el - 2, nx ++ [joinD (nthG ls 0) (nthG ls 1)], p3, c3, S.uu, ⟨by rw [List.length_drop]; omega, by simp only [List.length_append, List.length_singleton, List.length_drop]; omega, ?_⟩, S.sub _ _, by rw [List.length_drop]; omega⟩
                rw [← hup, List.append_assoc]; rfl
              · refine c_exit ?_
                iterate 2 (refine xte ?_)
                refine xbe ?_
                refine xtn ?_
                refine c_region ?_
                iterate 2 (refine sq S ?_; clear S; intro a S)
                refine wl_nil ?_
                refine xbn ?_
                refine xtn ?_
                have hl1 : ls.length ≤ 1 := by have := of_decide_eq_false h10; omega
                have hun : upD ls = [] := by
                  match ls, hl1 with
                  | [], _ => rfl
                  | [x], _ => rfl
                rw [hun, List.append_nil] at hup
                have hk4 : k < 4 := by
                  rcases Nat.lt_or_ge k 4 with h | h
                  · exact h
                  · have := hl0 (by omega); rw [this] at hs; simp at hs
                subst hup
                have hcap := own_le (S.row qn (rowAt seed (k + 1)).length)
                replace S := S.rowToGl qn (rowAt seed (k + 1)) (e := 23) (sz := 32) (n := (rowAt seed (k + 1)).length) (c := en) (fun _ _ _ _ => trivial)
                exact ⟨k + 1, ⟨by omega, C', w2, qn, en, hT hok, hcap, hCl', S.uu, S.sub _ _⟩, by omega⟩
          · refine c_exit ?_
            iterate 2 (refine xte ?_)
            refine xbe ?_
            exact endI S ⟨w2, S.wd.agree, .inr (hX (by simpa using h7))⟩
        · refine gF S ?_; clear S; intro a S
          iterate 2 (refine gF S ?_; clear S; intro a S)
          refine sq S ?_; clear S; intro a S
          refine wl_nil ?_
          refine xtn ?_
          refine c_condF S ?_
          refine c_exit ?_
          iterate 2 (refine xte ?_)
          refine xbe ?_
          have hk4 : k = 4 := by
            rcases Nat.lt_or_ge k 4 with h | h
            · have h1 := hlp h; have h2 := of_decide_eq_false hs; omega
            · omega
          exact endI S ⟨w1, S.wd.agree, .inl ⟨C, by rw [rowsL_len, ← hk4]; exact hJk⟩⟩
end Go.Proofs.YtlphkccfcodmcaaGreat

/- Package merkle: a seed's root. -/
namespace Go.Proofs.YtlphkccfcodmcaaGreat
open Go Go.Wk
set_option synthInstance.maxSize 100000
set_option synthInstance.maxHeartbeats 400000
set_option maxRecDepth 100000

theorem nthD_G {l : List Dg} {i : Nat} (h : i < l.length) : nthD l i = nthG l i := by rw [nthD, nthG_get h]; rfl
theorem rowsL_get {seed : Dg} {i : Nat} {x : List Dg} (h : (rowsL seed)[i]? = some x) : i < 4 ∧ x = rowAt seed i := by
  have h1 := (List.getElem?_eq_some_iff.1 h).1
  rw [rowsL_len] at h1
  rw [rowsL, List.getElem?_map, List.getElem?_range h1] at h
  exact ⟨h1, (Option.some.inj h).symm⟩
def topAt (seed : Dg) : Nat → Dg
  | 0 => z32
  | i + 1 => nthG (rowAt seed i) 0
theorem root_top (seed : Dg) : topAt seed 4 = rootD seed := by
  obtain ⟨_, _, _, h3, _⟩ := rowAt_len seed
  exact (nthD_G (l := rowAt seed 3) (i := 0) (by omega)).symm
theorem mroot_c (seed : Dg) (w0 : World) : Ret Tryz.prog 9 [vDg seed] w0 (fun _ => False) fun v _ => v = vDg (rootD seed) := by
  refine enterM Tryz.func9 rfl rfl (Wd.start w0) (fun a S => ?_)
  simp only [Tryz.ntmps9, List.length_cons, List.length_nil, Nat.reduceAdd, Nat.reduceSub, List.replicate_succ, List.replicate_zero, List.cons_append, List.nil_append] at S
  refine c_seq ?_
  refine c_region ?_
  refine sa S ?_; clear S; intro b1 a w S
  refine sa S ?_; clear S; intro b2 a w S
  refine wl_nil ?_
  refine xtn ?_
  iterate 2 (refine c_seq ?_)
  refine c_region ?_
  refine sq S ?_; clear S; intro a S
  have hlt := foots_lt S
  refine sr S (rows_f seed _) ?_; clear S; rintro _ a w ⟨g0, rfl, n0, e0⟩ S
  replace S := S.add (Φ := BoxF g0 23 (encL seed.l)) (BoxF.stable e0 (fun hm => by have := hlt _ hm; omega))
  refine wl_nil ?_
  refine xtn ?_
  refine c_block ?_
  replace S := S.sub [Wk.box b2 23 (encL (List.replicate 32 (0 : UInt8))), marks []] [BoxF g0 23 (encL seed.l)]
  refine c_rangeP (κ := Unit) (κx := Empty) (Ds := []) (rowsL seed)
    (fun i _ => [Wk.box b2 23 (encL (topAt seed i).l), marks []])
    (fun _ _ => [BoxF g0 23 (encL seed.l)]) (fun _ _ => True) (fun k => k.elim) (fun k => k.elim) (fun _ k => k.elim) () S
    (fun M w1 hM hF _ => rows_it g0 seed w1 M (hF _ (by simp))) ⟨trivial, rfl, rfl⟩ ?_ ?_ ?_ ?_
  · clear S
    rintro L D bL M w1 i x vs _ W hx - hW ⟨p, c, rfl, hst⟩
    obtain ⟨hi, rfl⟩ := rowsL_get hx
    obtain ⟨hl8, hlp, -⟩ := rowAt_le seed (k := i) (by omega)
    have hK : KLt 0 (rowAt seed i).length := ⟨hlp hi⟩
    refine ⟨_, inferInstance, fun a S => ?_⟩
    replace S := S.add (Φ := GlF p (rowAt seed i)) (hst.less fun k _ ⟨it, hit, hk⟩ => ⟨it, hit, by
      simp only [List.mem_cons, List.not_mem_nil, or_false] at hit
      rcases hit with rfl | rfl | rfl <;> rfl, hk⟩)
    refine c_region ?_
    refine sq S ?_; clear S; intro a S
    refine wl_nil ?_
    refine xtn ?_
    refine rbegin (D := D) (b := bL) S ?_; clear S; intro a w S
    refine c_block ?_
    refine c_region ?_
    iterate 3 (refine sq S ?_; clear S; intro a S)
    refine sw S ?_; clear S; intro a w S
    refine wl_nil ?_
    refine xbn ?_
    exact rnext (D := D) (b := bL) (S.sub [lpI L D (lpR bL .busy none), Wk.box b2 23 (encL (nthG (rowAt seed i) 0).l), marks []] [BoxF g0 23 (encL seed.l)]) fun W hW => ⟨(), trivial, hW⟩
  · clear S
    rintro D _ a w - S
    rw [rowsL_len, root_top] at S
    replace S := S.join (Ds := [])
    refine xbn ?_
    refine xtn ?_
    refine c_seq ?_
    refine c_region ?_
    refine sq S ?_; clear S; intro a S
    refine sw S ?_; clear S; intro a w S
    refine wl_nil ?_
    refine xtn ?_
    refine c_ret ?_
    exact endM1 S (fun _ _ => rfl)
  · intro D k; exact k.elim
  · intro id D k; exact k.elim
end Go.Proofs.YtlphkccfcodmcaaGreat

/- Package merkle: a leaf's path. -/
namespace Go.Proofs.YtlphkccfcodmcaaGreat
open Go Go.Wk
set_option synthInstance.maxSize 100000
set_option synthInstance.maxHeartbeats 400000
set_option maxRecDepth 100000

theorem xor1 (n : Nat) (h : n < 8) : ixor .i64 (n : Int) 1 = ((sib n : Nat) : Int) := by
  have h1 : ∀ n : Nat, n < 8 → ixor .i64 (n : Int) 1 = ((sib n : Nat) : Int) := by decide +kernel
  exact h1 n h
theorem sib_lt {n m : Nat} (h : n < 2 * m) : sib n < 2 * m := by unfold sib; split <;> omega
def upLeaf (leaf : Nat) : Nat → Nat
  | 0 => leaf
  | i + 1 => upLeaf leaf i / 2
theorem path_len (seed : Dg) (leaf : Nat) : (pathD seed leaf).length = 3 := rfl
theorem sib_at (seed : Dg) {leaf i : Nat} (hl : leaf < 8) (hi : i < 3) : upLeaf leaf i < 8 ∧ sib (upLeaf leaf i) < (rowAt seed i).length := by
  obtain ⟨h0, h1, h2, _, _⟩ := rowAt_len seed
  rcases (show i = 0 ∨ i = 1 ∨ i = 2 by omega) with rfl | rfl | rfl
  · exact ⟨hl, by rw [h0]; exact sib_lt (m := 4) hl⟩
  · have : upLeaf leaf 1 = leaf / 2 := rfl
    exact ⟨by omega, by rw [h1]; exact sib_lt (m := 2) (by omega)⟩
  · have : upLeaf leaf 2 = leaf / 2 / 2 := rfl
    exact ⟨by omega, by rw [h2]; exact sib_lt (m := 1) (by omega)⟩
theorem path_take (seed : Dg) {leaf i : Nat} (hl : leaf < 8) (hi : i < 3) : (pathD seed leaf).take (i + 1) = (pathD seed leaf).take i ++ [nthG (rowAt seed i) (sib (upLeaf leaf i))] := by
  have hs := (sib_at seed hl hi).2
  rw [← nthD_G hs]
  rcases (show i = 0 ∨ i = 1 ∨ i = 2 by omega) with rfl | rfl | rfl
  · rfl
  · rfl
  · show _ = _ ++ [nthD (upD (upD (row0 seed))) (sib (leaf / 2 / 2))]
    rw [Nat.div_div_eq_div_mul]; rfl
theorem mpath_c (seed : Dg) (leaf : Nat) (hl : leaf < 8) (w0 : World) : Ret Tryz.prog 71 [vDg seed, .int .i64 (leaf : Int)] w0 (fun _ => False) fun v w' => ∃ p c, v = .tuple ⟨[.slice p 3 c, .int .i64 0]⟩ ∧ w'.ownsRow 0 23 32 (.slice p 3 c) 3 (encL (pathD seed leaf)) ∧ ∀ ad, p = some ad → w0.heap.size ≤ ad.block := by
  have hpl := path_len seed leaf
  refine enterM Tryz.func71 rfl rfl (Wd.start w0) (fun a S => ?_)
  simp only [Tryz.ntmps71, List.length_cons, List.length_nil, Nat.reduceAdd, Nat.reduceSub, List.replicate_succ, List.replicate_zero, List.cons_append, List.nil_append] at S
  refine c_seq ?_
  refine c_region ?_
  refine sa S ?_; clear S; intro b2 a w S
  refine sa S ?_; clear S; intro b3 a w S
  iterate 2 (refine sq S ?_; clear S; intro a S)
  refine wl_nil ?_
  refine xtn ?_
  refine c_scope ?_
  iterate 2 (refine c_seq ?_)
  refine c_region ?_
  refine sq S ?_; clear S; intro a S
  refine sr S (leafed_c leaf hl _) ?_; clear S; rintro _ a w rfl S
  refine sq S ?_; clear S; intro a S
  refine wl_nil ?_
  refine xtn ?_
  refine c_condF S ?_
  refine c_skip ?_
  refine xtn ?_
  refine c_seq ?_
  refine c_region ?_
  refine sa S ?_; clear S; intro b6 a w S
  refine wl_nil ?_
  refine xtn ?_
  refine c_seq ?_
  refine c_label ?_
  refine xtn ?_
  iterate 2 (refine c_seq ?_)
  refine c_region ?_
  refine sq S ?_; clear S; intro a S
  have hlt := foots_lt S
  refine sr S (rows_f seed _) ?_; clear S; rintro _ a w ⟨g0, rfl, n0, e0⟩ S
  replace S := S.add (Φ := BoxF g0 23 (encL seed.l)) (BoxF.stable e0 (fun hm => by have := hlt _ hm; omega))
  refine wl_nil ?_
  refine xtn ?_
  refine c_block ?_
  replace S := S.addNil 23 32
  replace S := S.sub [Wk.row 23 32 none 0 0 [], Wk.box b6 39 [.slice none 0 0], Wk.box b3 3 [.int .i64 (leaf : Int)], marks []] [BoxF g0 23 (encL seed.l)]
  refine c_rangeP (κ := Option Addr × Nat) (κx := Option Addr × Nat) (Ds := []) (rowsL seed)
    (fun i k => [Wk.row 23 32 k.1 i k.2 (encL ((pathD seed leaf).take i)), Wk.box b6 39 [.slice k.1 i k.2], Wk.box b3 3 [.int .i64 ((upLeaf leaf i : Nat) : Int)], marks []])
    (fun _ _ => [BoxF g0 23 (encL seed.l)]) (fun i _ => i ≤ 3)
    (fun k => [Wk.row 23 32 k.1 3 k.2 (encL (pathD seed leaf)), Wk.box b6 39 [.slice k.1 3 k.2], marks []]) (fun _ => [BoxF g0 23 (encL seed.l)]) (fun cd _ => cd = .exit 0) (none, 0) S
    (fun M w1 hM hF _ => rows_it g0 seed w1 M (hF _ (by simp))) ⟨Nat.zero_le _, rfl, rfl⟩ ?_ ?_ ?_ ?_
  · clear S
    rintro L D bL M w1 i x vs ⟨p, c⟩ W hx hi3 hW ⟨pr, cr, rfl, hst⟩
    obtain ⟨hi, rfl⟩ := rowsL_get hx
    have hti := path_take seed hl (i := i)
    have hsb := sib_at seed hl (i := i)
    have hel2 : ((pathD seed leaf).take i).length = i := by rw [List.length_take]; omega
    refine ⟨_, inferInstance, fun a S => ?_⟩
    replace S := S.add (Φ := GlF pr (rowAt seed i)) (hst.less fun k _ ⟨it, hit, hk⟩ => ⟨it, hit, by
      simp only [List.mem_cons, List.not_mem_nil, or_false] at hit
      rcases hit with rfl | rfl | rfl | rfl | rfl <;> rfl, hk⟩)
    replace S : St w1 M [] a W _ (lpI L D (lpR bL .ready none) :: Wk.row 23 32 p i c (encL ((pathD seed leaf).take i)) :: Wk.box b6 39 [.slice p i c] :: Wk.box b3 3 [.int .i64 ((upLeaf leaf i : Nat) : Int)] :: marks [] :: []) _ := S
    refine c_region ?_
    refine sq S ?_; clear S; intro a S
    refine wl_nil ?_
    refine xtn ?_
    refine rbegin (D := D) (b := bL) S ?_; clear S; intro a w S
    refine c_block ?_
    iterate 2 (refine c_seq ?_)
    refine c_region ?_
    iterate 3 (refine sq S ?_; clear S; intro a S)
    refine wl_nil ?_
    refine xtn ?_
    refine c_cond S (fun h6 => ?_) (fun h6 => ?_)
    · refine c_exit ?_
      refine xte ?_
      refine xbx ?_
      have hi3' : i = 3 := by have := of_decide_eq_true h6; omega
      subst hi3'
      rw [List.take_of_length_le (by omega)] at S
      exact rexit (D := D) (b := bL) (S.sub [lpI L D (lpR bL .busy none), Wk.row 23 32 p 3 c (encL (pathD seed leaf)), Wk.box b6 39 [.slice p 3 c], marks []] [BoxF g0 23 (encL seed.l)]) fun W hW => ⟨.inr ⟨0, rfl⟩, (p, c), rfl, hW⟩
    · refine c_skip ?_
      refine xtn ?_
      refine c_seq ?_
      have hi' : i < 3 := by have := of_decide_eq_false h6; omega
      obtain ⟨hu8, hsl⟩ := hsb hi'
      have hti := hti hi'
      have hK : KLt (sib (upLeaf leaf i)) (rowAt seed i).length := ⟨hsl⟩
      refine c_drawL 8 [(0, true), (1, true), (2, true), (3, true), (4, true), (5, true), (6, false), (7, false), (8, false)] [Wk.box b6 39 [.slice p i c], Wk.box b3 3 [.int .i64 ((upLeaf leaf i : Nat) : Int)]] S ?_; clear S; intro w S
      iterate 4 (refine dqL S ?_; clear S; intro a S)
      rw [xor1 _ hu8] at S
      iterate 2 (refine dqL S ?_; clear S; intro a S)
      refine dlL ?_
      refine sn S ?_; clear S; intro b23 a w S
      refine deL S ?_
      refine dlL ?_
      refine sap S (by simp only [maxLen]; omega) (by omega) ?_; clear S; rintro p3 c3 a w - S
      rw [show encL ((pathD seed leaf).take i) ++ encL (nthG (rowAt seed i) (sib (upLeaf leaf i))).l = encL ((pathD seed leaf).take (i + 1)) from by rw [hti, encL_append, ← encD1]] at S
      refine deL S ?_
      refine dlL ?_
      refine sw S ?_; clear S; intro a w S
      refine dzL ?_
      refine xtn ?_
      refine c_region ?_
      iterate 2 (refine sq S ?_; clear S; intro a S)
      rw [shr1 _ hu8] at S
      refine sw S ?_; clear S; intro a w S
      refine wl_nil ?_
      refine xbn ?_
      exact rnext (D := D) (b := bL) (S.sub [lpI L D (lpR bL .busy none), Wk.row 23 32 p3 (i + 1) c3 (encL ((pathD seed leaf).take (i + 1))), Wk.box b6 39 [.slice p3 (i + 1) c3], Wk.box b3 3 [.int .i64 ((upLeaf leaf i / 2 : Nat) : Int)], marks []] [BoxF g0 23 (encL seed.l)]) fun W hW => ⟨(p3, c3), hi', hW⟩
  · clear S
    rintro D ⟨p2, c2⟩ a w h
    rw [rowsL_len] at h; omega
  · rintro D k a w h; cases h
  · rintro id D ⟨p2, c2⟩ a w h S
    obtain rfl : id = 0 := by cases h; rfl
    replace S := S.join (Ds := [])
    refine xbe ?_
    refine xtn ?_
    refine c_seq ?_
    refine c_region ?_
    iterate 3 (refine sq S ?_; clear S; intro a S)
    refine wl_nil ?_
    refine xtn ?_
    refine c_ret ?_
    refine xsr ?_
    have hrow := S.row p2 3
    have hnew := S.rowNew p2 3
    refine endM2 S (fun w hw => ?_)
    have h1 := hw.held (Wk.row 23 32 p2 3 c2 (encL (pathD seed leaf))) (by simp)
    exact ⟨p2, c2, rfl, h1, fun ad h => (hnew ad h).elim (fun h => h.elim) id⟩
end Go.Proofs.YtlphkccfcodmcaaGreat

/- Package merkle: a signature. -/
namespace Go.Proofs.YtlphkccfcodmcaaGreat
open Go Go.Wk
set_option synthInstance.maxSize 100000
set_option synthInstance.maxHeartbeats 400000
set_option maxRecDepth 100000

/-- a signature's value. -/
def vSig (leaf : Nat) (pc : Option Addr) (cc : Nat) (pp : Option Addr) (cp : Nat) : Value := .agg ⟨[.int .i64 (leaf : Int), .slice pc 67 cc, .slice pp 3 cp]⟩
theorem msign_c (seed m : Dg) (leaf : Nat) (hl : leaf < 8) (M : Nat → Prop) (w0 : World) (hM : ∀ k, M k → k < w0.heap.size) : Ret Tryz.prog 32 [vDg seed, vDg m, .int .i64 (leaf : Int)] w0 (fun _ => False) fun v w' =>
    ∃ pc cc pp cp, v = .tuple ⟨[vSig leaf pc cc pp cp, .int .i64 0]⟩ ∧ Stable M w' (GlF pc (signD (seedD seed leaf) m)) ∧ Stable M w' (GlF pp (pathD seed leaf)) := by
  refine enter Tryz.func32 rfl rfl (Wd.beginM (M := M) (fs := []) hM (by simp)) (fun a S => ?_)
  simp only [Tryz.ntmps32, List.length_cons, List.length_nil, Nat.reduceAdd, Nat.reduceSub, List.replicate_succ, List.replicate_zero, List.cons_append, List.nil_append] at S
  refine c_seq ?_
  refine c_region ?_
  refine sa S ?_; clear S; intro b3 a w S
  refine sa S ?_; clear S; intro b4 a w S
  refine sa S ?_; clear S; intro b6 a w S
  refine sq S ?_; clear S; intro a S
  refine wl_nil ?_
  refine xtn ?_
  refine c_seq ?_
  refine c_region ?_
  iterate 2 (refine sq S ?_; clear S; intro a S)
  refine sr S (mseed_c seed leaf hl _) ?_; clear S; rintro _ a w rfl S
  iterate 3 (refine sq S ?_; clear S; intro a S)
  refine sa S ?_; clear S; intro b8 a w S
  refine sw S ?_; clear S; intro a w S
  refine sq S ?_; clear S; intro a S
  refine wl_nil ?_
  refine xtn ?_
  iterate 2 (refine c_seq ?_)
  refine c_region ?_
  iterate 2 (refine sq S ?_; clear S; intro a S)
  refine wl_nil ?_
  refine xtn ?_
  refine c_condF S ?_
  refine c_skip ?_
  refine xtn ?_
  refine c_seq ?_
  refine c_region ?_
  iterate 2 (refine sq S ?_; clear S; intro a S)
  refine srn S (mpath_c seed leaf hl _) ?_; clear S; rintro _ a w ⟨pp, cp, rfl, hown, hnew⟩ hS -
  have S := hS hown hnew
  clear hS
  replace S := S.rowToGl pp (pathD seed leaf) (e := 23) (sz := 32) (n := 3) (c := cp) (fun _ _ _ _ => trivial)
  iterate 5 (refine sq S ?_; clear S; intro a S)
  refine wl_nil ?_
  refine xtn ?_
  refine c_seq ?_
  refine c_region ?_
  iterate 3 (refine sq S ?_; clear S; intro a S)
  refine srn S (wsign_c (seedD seed leaf) m _) ?_; clear S; rintro _ a w ⟨pc, cc, rfl, hown, hnew⟩ hS -
  have S := hS hown hnew
  clear hS
  replace S := S.rowToGl pc (signD (seedD seed leaf) m) (e := 23) (sz := 32) (n := 67) (c := cc) (fun _ _ _ _ => trivial)
  iterate 2 (refine sq S ?_; clear S; intro a S)
  refine sw S ?_; clear S; intro a w S
  refine sq S ?_; clear S; intro a S
  refine wl_nil ?_
  refine xtn ?_
  refine c_ret ?_
  have h1 : Stable M w (GlF pc (signD (seedD seed leaf) m)) := (S.mem.fact (GlF pc (signD (seedD seed leaf) m))).less fun k _ hk => ⟨ext M, by simp, hk⟩
  have h2 : Stable M w (GlF pp (pathD seed leaf)) := (S.mem.fact (GlF pp (pathD seed leaf))).less fun k _ hk => ⟨ext M, by simp, hk⟩
  exact end2 S (fun _ => ⟨pc, cc, pp, cp, rfl, h1, h2⟩)
/-- what is signed is verified. -/
theorem verify_sign (seed m : Dg) {leaf : Nat} (hl : leaf < 8) : climbD (recD m (signD (seedD seed leaf) m)) leaf (pathD seed leaf) = rootD seed := by
  rw [rec_sign]; exact climb_path seed leaf hl
end Go.Proofs.YtlphkccfcodmcaaGreat

/- Package signer: a snapshot's bytes. -/
namespace Go.Proofs.YtlphkccfcodmcaaGreat
open Go Go.Wk
set_option synthInstance.maxSize 100000
set_option synthInstance.maxHeartbeats 400000
set_option maxRecDepth 100000

def laidD (seed : Dg) (n : Int) : List UInt8 := seed.l ++ [Wk.u8 n]
theorem laidD_len (seed : Dg) (n : Int) : (laidD seed n).length = 33 := by rw [laidD, List.length_append, seed.h]; rfl
theorem laid_c (seed : Dg) (n : Int) (w0 : World) : Ret Tryz.prog 28 [vDg seed, .int .i64 n] w0 (fun _ => False) fun v w' => ∃ g c, v = .slice (some ⟨g, 0, none⟩) 33 c ∧ w'.ownsRow 0 5 1 (.slice (some ⟨g, 0, none⟩) 33 c) 33 (encL (laidD seed n)) ∧ w0.heap.size ≤ g := by
  refine enter Tryz.func28 rfl rfl (Wd.start w0) (fun a S => ?_)
  simp only [Tryz.ntmps28, List.length_cons, List.length_nil, Nat.reduceAdd, Nat.reduceSub, List.replicate_succ, List.replicate_zero, List.cons_append, List.nil_append] at S
  refine c_seq ?_
  refine c_region ?_
  refine sa S ?_; clear S; intro b2 a w S
  refine sq S ?_; clear S; intro a S
  refine wl_nil ?_
  refine xtn ?_
  refine c_seq ?_
  refine c_region ?_
  refine sq S ?_; clear S; intro a S
  rw [sl32] at S
  iterate 2 (refine sq S ?_; clear S; intro a S)
  refine sn S ?_; clear S; intro b8 a w S
  have hb := S.box b2
  refine sapG ⟨b2, 0, none⟩ 32 (encL seed.l) S seed.len (fun j u hj => ?_) (by omega) (by simp only [maxLen]; omega) (by omega) ?_
  · rw [show (⟨b2, 0, none⟩ : Addr).add j = ⟨b2, j, none⟩ from by unfold Addr.add; split <;> simp_all, cell_of_row _ b2 _ _ _ _ hb]
    simpa using hj
  clear S; intro g c' a w S
  rw [show encL seed.l ++ [Value.int .u8 (IntKind.u8.wrap n)] = encL (laidD seed n) from by rw [laidD, encL_append, u8_wrap]; rfl] at S
  refine sq S ?_; clear S; intro a S
  refine wl_nil ?_
  refine xtn ?_
  refine c_ret ?_
  have hrow := S.row (some ⟨g, 0, none⟩) (32 + 1)
  have hnew := S.rowNew (some ⟨g, 0, none⟩) (32 + 1)
  exact end1 S (fun _ => ⟨g, c', rfl, hrow, (hnew _ rfl).elim (fun h => h.elim) id⟩)
end Go.Proofs.YtlphkccfcodmcaaGreat

/- Package signer: a signer's value; its root and its next leaf. -/
namespace Go.Proofs.YtlphkccfcodmcaaGreat
open Go Go.Wk
set_option synthInstance.maxSize 100000
set_option synthInstance.maxHeartbeats 400000
set_option maxRecDepth 100000

instance nthDg {d : Dg} {b : List Value} {n : Nat} {v : Value} [h : Nth b n v] : Nth (encL d.l ++ b) (n + 32) v := ⟨by
  rw [List.getElem?_append_right (by rw [d.len]; omega), d.len, Nat.add_sub_cancel]; exact h.eq⟩
instance segDg {d : Dg} {b : List Value} : Seg (encL d.l ++ b) 0 32 (encL d.l) := ⟨d.len, fun j hj => by
  rw [Nat.zero_add, List.getElem?_append_left (by rw [d.len]; exact hj)]⟩
instance setDg {d : Dg} {b b' vs : List Value} {n : Nat} [h : SetSeg b n vs b'] : SetSeg (encL d.l ++ b) (n + 32) vs (encL d.l ++ b') := ⟨by
  obtain ⟨h1, h2⟩ := h.eq
  refine ⟨by rw [List.length_append, d.len]; omega, ?_⟩
  rw [List.take_append, d.len, List.take_of_length_le (by rw [d.len]; omega), Nat.add_sub_cancel, List.drop_append, d.len, List.drop_of_length_le (by rw [d.len]; omega), List.nil_append, show n + 32 + vs.length - 32 = n + vs.length from by omega, ← h2]
  simp only [List.append_assoc]⟩
/-- a signer: its log, its seed, its next leaf. -/
abbrev cSg (g : Nat) (seed : Dg) (next : Int) : List Value := .pointer (some ⟨g, 0, none⟩) :: (encL seed.l ++ [.int .i64 next])
theorem snext_c (h g : Nat) (seed : Dg) (next : Int) (w0 : World) (hb : Stable (fun _ => False) w0 (BoxF h 79 (cSg g seed next))) : Ret Tryz.prog 18 [.pointer (some ⟨h, 0, none⟩)] w0 (fun _ => False) fun v _ => v = .int .i64 next := by
  refine enter Tryz.func18 rfl rfl (Wd.begin (fs := [BoxF h 79 (cSg g seed next)]) (by simpa using hb)) (fun a S => ?_)
  simp only [Tryz.ntmps18, List.length_cons, List.length_nil, Nat.reduceAdd, Nat.reduceSub, List.replicate_succ, List.replicate_zero, List.cons_append, List.nil_append] at S
  refine c_seq ?_
  refine c_region ?_
  refine sq S ?_; clear S; intro a S
  refine wl_nil ?_
  refine xtn ?_
  iterate 2 (refine c_seq ?_)
  refine c_region ?_
  iterate 2 (refine sq S ?_; clear S; intro a S)
  refine wl_nil ?_
  refine xtn ?_
  refine c_condF S ?_
  refine c_skip ?_
  refine xtn ?_
  refine c_seq ?_
  refine c_region ?_
  iterate 5 (refine sq S ?_; clear S; intro a S)
  refine wl_nil ?_
  refine xtn ?_
  refine c_ret ?_
  exact end1 S (fun _ => rfl)
theorem sroot_c (h g : Nat) (seed : Dg) (next : Int) (w0 : World) (hb : Stable (fun _ => False) w0 (BoxF h 79 (cSg g seed next))) : Ret Tryz.prog 17 [.pointer (some ⟨h, 0, none⟩)] w0 (fun _ => False) fun v _ => v = vDg (rootD seed) := by
  refine enter Tryz.func17 rfl rfl (Wd.begin (fs := [BoxF h 79 (cSg g seed next)]) (by simpa using hb)) (fun a S => ?_)
  simp only [Tryz.ntmps17, List.length_cons, List.length_nil, Nat.reduceAdd, Nat.reduceSub, List.replicate_succ, List.replicate_zero, List.cons_append, List.nil_append] at S
  refine c_seq ?_
  refine c_region ?_
  refine sa S ?_; clear S; intro b2 a w S
  refine wl_nil ?_
  refine xtn ?_
  iterate 2 (refine c_seq ?_)
  refine c_region ?_
  iterate 2 (refine sq S ?_; clear S; intro a S)
  refine wl_nil ?_
  refine xtn ?_
  refine c_condF S ?_
  refine c_skip ?_
  refine xtn ?_
  refine c_seq ?_
  refine c_region ?_
  iterate 4 (refine sq S ?_; clear S; intro a S)
  refine sr S (mroot_c seed _) ?_; clear S; rintro _ a w rfl S
  refine sw S ?_; clear S; intro a w S
  refine wl_nil ?_
  refine xtn ?_
  refine c_ret ?_
  exact end1 S (fun _ => rfl)
end Go.Proofs.YtlphkccfcodmcaaGreat

/- Package wal: Append. -/
namespace Go.Proofs.YtlphkccfcodmcaaGreat
open Go Go.Wk
set_option synthInstance.maxSize 100000
set_option synthInstance.maxHeartbeats 400000
set_option maxRecDepth 100000

theorem breaks_d (g r b : Nat) (q : Option Addr) (e : Nat) (x : WS) (v : Int) (u : FrameMode) (w0 : World) (hb : (Wk.box g 116 (cWal b q e x)).holds w0) (hr : Stable (fun k => k = g) w0 (BoxF r 28 [.int .i64 v])) :
    CallsDIn (FW none) 0 Tryz.prog 57 [.pointer (some ⟨g, 0, none⟩), .pointer (some ⟨r, 0, none⟩)].toArray u w0 fun e' u' w' => u' = u ∧ ∃ v', e' = .returned v' ∧ Agree (fun k => k = g) w0 w' ∧ (Wk.box g 116 (cWal b q e (brkF x v))).holds w' := by
  refine enterDI Tryz.func57 rfl rfl (Wd.itLent (x := Wk.box g 116 (cWal b q e x)) (fs := [BoxF r 28 [.int .i64 v]]) hb (by intro Φ hΦ; obtain rfl := List.mem_singleton.1 hΦ; exact hr)) (fun a S => ?_)
  simp only [Tryz.ntmps57, List.length_cons, List.length_nil, Nat.reduceAdd, Nat.reduceSub, List.replicate_succ, List.replicate_zero, List.cons_append, List.nil_append] at S
  refine c_seq ?_
  refine c_region ?_
  iterate 4 (refine sq S ?_; clear S; intro a S)
  refine wl_nil ?_
  refine xtn ?_
  refine c_cond S (fun h0 => ?_) (fun h0 => ?_)
  · refine c_region ?_
    iterate 3 (refine sq S ?_; clear S; intro a S)
    refine sw S ?_; clear S; intro a w S
    refine wl_nil ?_
    have h : v ≠ 0 := by simpa using h0
    have hh := S.box g
    refine end0 (R := fun _ w' => (Wk.box g 116 (cWal b q e (brkF x v))).holds w') S (fun _ => ?_)
    rw [show brkF x v = { x with broken := true } from by simp [brkF, h]]
    exact hh
  · refine c_skip ?_
    have h : v = 0 := by simpa using h0
    have hh := S.box g
    refine end0 (R := fun _ w' => (Wk.box g 116 (cWal b q e (brkF x v))).holds w') S (fun _ => ?_)
    rw [show brkF x v = x from by simp [brkF, h]]
    exact hh
section
variable {w0 : World} {M0 : Nat → Prop} {ds : List Deferred} {a : Act} {w : World} {l : List Value} {bs bs' : List Wk.Item} {fs : List (World → Prop)}
/-- an entry that is held is still there when other memory is written. -/
theorem St.entGl {x : Wk.Item} {ys : List LBy} (S : St w0 M0 ds a w l bs fs) (hap : ∀ k, (entI ys).foot k → ¬ x.foot k) [HasIt bs (entI ys)] {y : LBy} (hy : y ∈ ys) : Stable x.foot w (GlF y.p y.bs) := by
  have h := (S.it (entI ys)) y hy
  exact fun w' ha => gl_loc (fun ad hp => ha.blk (h.1 ad hp) (hap ad.block ⟨y, hy, ad, hp, rfl⟩)) h.2
theorem ent_row {y : LBy} {e : TypeId} (h : (Wk.row e 1 y.p y.bs.length y.c (encL y.bs)).holds w) : (entI [y]).holds w := fun x hx => by
  obtain rfl := List.mem_singleton.1 hx
  exact ⟨fun ad hp => row_foot_lt h ad.block ⟨ad, hp, rfl⟩, (gl_own (M := fun _ => False) h (fun _ _ _ _ => trivial) (fun _ _ h => h)).now⟩
theorem St.rowEnt (S : St w0 M0 ds a w l bs fs) (y : LBy) {e : TypeId} [hr : ReplI bs (Wk.row e 1 y.p y.bs.length y.c (encL y.bs)) (entI [y]) bs'] (h : (Wk.row e 1 y.p y.bs.length y.c (encL y.bs)).holds w) : St w0 M0 ds a w l bs' fs :=
  St.become S (Wk.row e 1 y.p y.bs.length y.c (encL y.bs)) (entI [y]) h ent_row (fun k ⟨x, hx, ad, hp, hk⟩ => by obtain rfl := List.mem_singleton.1 hx; exact ⟨ad, hp, hk.symm⟩)
theorem St.ofWd {w0 : World} {M0 : Nat → Prop} {w : World} {bs : List Wk.Item} {fs : List (World → Prop)} (h : Wd w0 M0 w bs fs) : St w0 M0 [] ⟨#[], []⟩ w [] bs fs := ⟨rfl, rfl, h⟩
end
/-- why bytes are not taken down, if they are not. -/
def roomF (x : WS) (bs : List UInt8) : Int := if refF x bs = 0 then (if x.n - x.fin < secN bs.length then 6 else 0) else refF x bs
theorem refF_zero {x : WS} {bs : List UInt8} (h : refF x bs = 0) : bs.length ≤ 40000 ∧ x.broken = false := by
  unfold refF at h
  split at h
  · cases h
  · split at h
    · cases h
    · exact ⟨by omega, by rename_i h2; simpa using h2⟩
/-- a log behind an appending. -/
def appS (x : WS) (y : LBy) (r : Int) : WS := if r = 0 then { x with said := x.said ++ [y], fin := x.fin + secN y.bs.length } else { x with broken := true }
theorem append_c (g b m : Nat) (p : Option Addr) (c : Nat) (s : DS) (q : Option Addr) (e : Nat) (x : WS) (y : LBy) (w0 : World) (hn : x.n ≤ 1000) (hfi : x.fin ≤ x.n) (hsl : x.said.length ≤ 1000000 ∧ x.said.length ≤ e) (hs0 : 0 < x.said.length) (ht : 0 ≤ x.turn ∧ x.turn ≤ 4294967295) (hyl : y.bs.length ≤ 1000000) (hl : s.loose.length ≤ 980000)
    (hd : (both (dkI b m p c s) (walI g b q e x)).holds w0) (f0 : Stable (both (dkI b m p c s) (walI g b q e x)).foot w0 (GlF y.p y.bs)) :
    Ret Tryz.prog 25 [.pointer (some ⟨g, 0, none⟩), .slice y.p y.bs.length y.c] w0 (both (dkI b m p c s) (walI g b q e x)).foot fun v w' =>
      (roomF x y.bs ≠ 0 ∧ v = .int .i64 (roomF x y.bs) ∧ (both (dkI b m p c s) (walI g b q e x)).holds w') ∨
      (roomF x y.bs = 0 ∧ v = .int .i64 (layF s ((fromN x.n x.turn + x.fin : Nat) : Int) (leavesF x.turn (x.said.length : Int) y.bs)).2 ∧ ∃ p' c' q' e', ∃ y' : LBy, y'.bs = y.bs ∧ (x.said.length ≤ e') ∧
        (both (dkI b m p' c' (layF s ((fromN x.n x.turn + x.fin : Nat) : Int) (leavesF x.turn (x.said.length : Int) y.bs)).1) (walI g b q' e' (appS x y' (layF s ((fromN x.n x.turn + x.fin : Nat) : Int) (leavesF x.turn (x.said.length : Int) y.bs)).2))).holds w' ∧
        ∀ k, (both (dkI b m p' c' (layF s ((fromN x.n x.turn + x.fin : Nat) : Int) (leavesF x.turn (x.said.length : Int) y.bs)).1) (walI g b q' e' (appS x y' (layF s ((fromN x.n x.turn + x.fin : Nat) : Int) (leavesF x.turn (x.said.length : Int) y.bs)).2))).foot k → (both (dkI b m p c s) (walI g b q e x)).foot k ∨ w0.heap.size ≤ k) := by
  have hfr : fromN x.n x.turn ≤ 1002 := by
    unfold fromN
    rcases (show (x.turn % 2).toNat = 0 ∨ (x.turn % 2).toNat = 1 by omega) with h | h <;> rw [h] <;> omega
  refine enterD Tryz.func25 rfl rfl (Wd.it2Lent (x := dkI b m p c s) (y := walI g b q e x) (fs := [GlF y.p y.bs]) hd rfl rfl (by intro Φ hΦ; obtain rfl := List.mem_singleton.1 hΦ; exact f0)) (fun a S => ?_)
  simp only [Tryz.ntmps25, List.length_cons, List.length_nil, Nat.reduceAdd, Nat.reduceSub, List.replicate_succ, List.replicate_zero, List.cons_append, List.nil_append] at S
  replace S := S.front (walI g b q e x)
  replace S := St.open3 S
  refine c_seq ?_
  refine c_region ?_
  refine sa S ?_; clear S; intro b4 a w S
  refine wl_nil ?_
  refine xtn ?_
  iterate 2 (refine c_seq ?_)
  refine c_region ?_
  iterate 2 (refine sq S ?_; clear S; intro a S)
  refine sr S (refuses_c g b q e x y _ (BoxF.stable (S.boxF g) (fun h => h))) ?_; clear S; rintro _ a w rfl S
  refine sq S ?_; clear S; intro a S
  refine wl_nil ?_
  refine xtn ?_
  refine c_seq ?_
  refine c_region ?_
  iterate 2 (refine sq S ?_; clear S; intro a S)
  refine wl_nil ?_
  refine xtn ?_
  refine c_cond S (fun h2 => ?_) (fun h2 => ?_)
  · refine c_seq ?_
    refine c_region ?_
    refine sq S ?_; clear S; intro a S
    refine sw S ?_; clear S; intro a w S
    refine wl_nil ?_
    refine xtn ?_
    refine c_ret ?_
    refine xtr ?_
    have he : refF x y.bs ≠ 0 := by simpa using h2
    have hR : roomF x y.bs = refF x y.bs := by rw [roomF, if_neg he]
    have hh := St.hold4 (S.sub [Wk.box g 116 (cWal b q e x), Wk.row 58 1 q x.said.length e (encL x.said), entI x.said, dkI b m p c s] []) rfl rfl rfl rfl
    refine endD1 S (.inl ?_)
    rw [hR]
    exact ⟨he, rfl, hh⟩
  · refine c_skip ?_
    refine xtn ?_
    refine c_seq ?_
    have he : refF x y.bs = 0 := by simpa using h2
    obtain ⟨hy4, hbk⟩ := refF_zero he
    refine c_region ?_
    iterate 2 (refine sq S ?_; clear S; intro a S)
    refine sr S (sectors_c (y.bs.length : Int) _) ?_; clear S; rintro _ a w rfl S
    rw [secF_nat _ hy4] at S
    refine sq S ?_; clear S; intro a S
    refine wl_nil ?_
    refine xtn ?_
    iterate 2 (refine c_seq ?_)
    refine c_drawD [(0, true), (1, true), (2, true), (3, true), (4, true), (5, true), (6, true), (7, true), (8, true), (9, true), (10, true), (11, true)] [] S ?_; clear S; intro w S
    iterate 12 (refine dq S ?_; clear S; intro a S)
    refine dn ?_
    refine xtn ?_
    refine c_cond S (fun h5 => ?_) (fun h5 => ?_)
    · refine c_seq ?_
      refine c_region ?_
      refine sw S ?_; clear S; intro a w S
      refine wl_nil ?_
      refine xtn ?_
      refine c_ret ?_
      refine xtr ?_
      have hro : x.n - x.fin < secN y.bs.length := by
        have := of_decide_eq_true h5
        rw [w64 _ (by omega) (by omega)] at this; omega
      have hR : roomF x y.bs = 6 := by rw [roomF, if_pos he, if_pos hro]
      have hh := St.hold4 (S.sub [Wk.box g 116 (cWal b q e x), Wk.row 58 1 q x.said.length e (encL x.said), entI x.said, dkI b m p c s] []) rfl rfl rfl rfl
      refine endD1 S (.inl ?_)
      rw [hR]
      exact ⟨by decide, rfl, hh⟩
    · refine c_skip ?_
      refine xtn ?_
      refine c_seq ?_
      have hro : ¬ x.n - x.fin < secN y.bs.length := by
        have := of_decide_eq_false h5
        rw [w64 _ (by omega) (by omega)] at this; omega
      refine c_region ?_
      refine sq S ?_; clear S; intro a S
      refine sdefc S ?_; clear S; intro a S
      refine wl_nil ?_
      refine xtn ?_
      refine c_seq ?_
      refine c_region ?_
      refine sq S ?_; clear S; intro a S
      replace S := S.addNil 5 1
      refine sap S (by simp only [maxLen]; omega) (by omega) ?_; clear S; rintro p8 c8 a w - S
      rw [show ([] : List Value) ++ encL y.bs = encL y.bs from rfl, Nat.zero_add] at S
      have hc8 := own_le (S.row p8 y.bs.length)
      replace S := St.rowEnt S ⟨p8, c8, y.bs⟩ (S.row p8 y.bs.length)
      obtain ⟨y', hy'⟩ : ∃ y' : LBy, y' = ⟨p8, c8, y.bs⟩ := ⟨_, rfl⟩
      rw [← hy'] at S
      obtain ⟨R, hR⟩ : ∃ R, R = layF s ((fromN x.n x.turn + x.fin : Nat) : Int) (leavesF x.turn (x.said.length : Int) y.bs) := ⟨_, rfl⟩
      have hro0 : roomF x y.bs = 0 := by rw [roomF, if_pos he, if_neg hro]
      have hll : (leavesF x.turn (x.said.length : Int) y.bs).length ≤ 834 := by rw [leavesF_len]; exact secN_le _ hy4
      refine sq S ?_; clear S; intro a S
      refine wl_nil ?_
      refine xtn ?_
      iterate 2 (refine c_seq ?_)
      refine c_drawL 29 [(0, true), (1, true), (2, true), (3, true), (4, true), (5, true), (6, true), (7, true), (8, true), (10, true), (11, true), (12, true), (13, true), (15, true), (16, true), (17, true), (18, true), (19, true), (20, true), (21, true), (22, true), (23, true), (24, true), (25, true), (26, true), (9, false), (14, true), (27, false), (28, false), (29, false)] [Wk.box g 116 (cWal b q e x)] S ?_; clear S; intro w S
      iterate 24 (refine dqL S ?_; clear S; intro a S)
      rw [wu32 (x.said.length : Int) (by omega) (by omega)] at S
      refine dqL S ?_; clear S; intro a S
      refine dlL ?_
      refine sr S (from_c b x.n x.turn hn ht _) ?_; clear S; rintro _ a w rfl S
      refine deL S ?_
      refine dqL S ?_; clear S; intro a S
      rw [show IntKind.i64.wrap ((fromN x.n x.turn : Int) + (x.fin : Int)) = ((fromN x.n x.turn + x.fin : Nat) : Int) from by rw [w64 _ (by omega) (by omega)]; rfl] at S
      refine dlL ?_
      have hlt := foots_lt S
      refine sr S (leaves_f x.turn (x.said.length : Int) p8 y.bs.length c8 _) ?_; clear S; rintro _ a w ⟨h0, h1, h2', rfl, ⟨n0, n1, n2⟩, e0, e1, e2⟩ S
      replace S := S.add (Φ := BoxF h0 58 [.slice p8 y.bs.length c8]) (BoxF.stable e0 (fun hm => by have := hlt _ hm; omega))
      replace S := S.add (Φ := BoxF h1 108 [.int .u32 x.turn]) (BoxF.stable e1 (fun hm => by have := hlt _ hm; omega))
      replace S := S.add (Φ := BoxF h2' 108 [.int .u32 (x.said.length : Int)]) (BoxF.stable e2 (fun hm => by have := hlt _ hm; omega))
      refine deL S ?_
      refine dlL ?_
      have hgl : Stable (dkI b m p c s).foot w (GlF y'.p y'.bs) := St.entGl S (fun k hk hk2 => St.apart2 S (entI [y']) (dkI b m p c s) k hk hk2) (by simp)
      rw [hy'] at hgl
      refine sit (dkI b m p c s) S (lay_c 94 [.pointer (some ⟨h0, 0, none⟩), .pointer (some ⟨h1, 0, none⟩), .pointer (some ⟨h2', 0, none⟩)] (leavesF x.turn (x.said.length : Int) y.bs) b m p c s (fromN x.n x.turn + x.fin) [GlF p8 y.bs, BoxF h2' 108 [.int .u32 (x.said.length : Int)], BoxF h1 108 [.int .u32 x.turn], BoxF h0 58 [.slice p8 y.bs.length c8]] _ (by omega) (by omega) (S.it (dkI b m p c s)) (fun Φ hΦ => by
        rcases List.mem_cons.1 hΦ with rfl | hΦ
        · exact hgl
        · exact S.lend (dkI b m p c s) (S.wd.facts Φ (List.mem_append_left _ hΦ))) (fun M w1 hM hF => leaves_it x.turn (x.said.length : Int) ht (by omega) h0 h1 h2' y.bs p8 c8 hy4 hc8 w1 M hM (hF _ (by simp)) (hF _ (by simp)) (hF _ (by simp)) (hF _ (by simp)))) rfl ?_; clear S hgl; rintro _ a w ⟨rfl, p2, c2, hh, hn2⟩ hS
      have S := hS (dkI b m p2 c2 (layF s ((fromN x.n x.turn + x.fin : Nat) : Int) (leavesF x.turn (x.said.length : Int) y.bs)).1) hh hn2
      clear hS
      rw [← hR] at S
      refine deL S ?_
      refine dlL ?_
      refine sw S ?_; clear S; intro a w S
      refine dzL ?_
      refine xtn ?_
      refine c_seq ?_
      refine c_region ?_
      iterate 2 (refine sq S ?_; clear S; intro a S)
      refine wl_nil ?_
      refine xtn ?_
      refine c_cond S (fun h10 => ?_) (fun h10 => ?_)
      · refine c_seq ?_
        have hR2 : R.2 = 0 := of_decide_eq_true h10
        obtain ⟨gq, cur, hq, -⟩ := own_cells (S.row q x.said.length) hs0
        have hLe : LeC x.said.length e := ⟨hsl.2⟩
        have hLl : LeC x.said.length x.said.length := ⟨Nat.le_refl _⟩
        have hL0 : LeC 0 x.said.length := ⟨Nat.zero_le _⟩
        subst hq
        refine c_drawL 21 [(0, true), (1, true), (2, true), (3, true), (4, true), (5, true), (6, true), (7, true), (8, true), (9, true), (10, true), (11, true), (12, true), (13, true), (14, true), (15, true), (16, true), (17, false), (18, false), (19, false), (20, true), (21, false)] [Wk.box g 116 (cWal b (some ⟨gq, 0, none⟩) e x)] S ?_; clear S; intro w S
        iterate 17 (refine dqL S ?_; clear S; intro a S)
        refine dlL ?_
        refine sn S ?_; clear S; intro b80 a w S
        refine deL S ?_
        refine dlL ?_
        have hrow := S.row (some ⟨gq, 0, none⟩) x.said.length
        refine sapG ⟨gq, 0, none⟩ x.said.length (encL x.said) S (by rw [encL_len]; rfl) (fun j u hj => (own_sl hrow).2 _ rfl j u hj) (by omega) (by simp only [maxLen]; omega) (by omega) ?_
        clear S; intro g2 c2' a w S
        rw [show encL x.said ++ [.slice p8 y.bs.length c8] = encL (x.said ++ [y']) from by rw [hy', encL_append]; rfl] at S
        refine deL S ?_
        refine dlL ?_
        refine sq S ?_; clear S; intro a S
        refine deL S ?_
        refine dqL S ?_; clear S; intro a S
        refine dlL ?_
        refine sw S ?_; clear S; intro a w S
        refine dzL ?_
        refine xtn ?_
        refine c_region ?_
        iterate 6 (refine sq S ?_; clear S; intro a S)
        rw [show IntKind.i64.wrap ((x.fin : Int) + (secN y.bs.length : Int)) = ((x.fin + secN y.bs.length : Nat) : Int) from by rw [w64 _ (by omega) (by omega)]; rfl] at S
        iterate 2 (refine sq S ?_; clear S; intro a S)
        refine sw S ?_; clear S; intro a w S
        refine wl_nil ?_
        refine xtn ?_
        refine c_seq ?_
        refine c_region ?_
        refine sq S ?_; clear S; intro a S
        refine sw S ?_; clear S; intro a w S
        refine wl_nil ?_
        refine xtn ?_
        refine c_ret ?_
        obtain ⟨x', hx'⟩ : ∃ x' : WS, x' = { x with said := x.said ++ [y'], fin := x.fin + secN y.bs.length } := ⟨_, rfl⟩
        have hya : y'.bs = y.bs := by rw [hy']
        have hap : appS x y' R.2 = x' := by rw [appS, if_pos hR2, hx', hya]
        have hbr : brkF x' R.2 = x' := by rw [brkF, hR2]; simp
        replace S := S.sub [Wk.row 58 1 (some ⟨g2, 0, none⟩) (x.said.length + 1) c2' (encL (x.said ++ [y'])), entI [y'], Wk.box b4 28 [.int .i64 R.2], Wk.box g 116 [.pointer (some ⟨b, 0, none⟩), .int .i64 (x.n : Int), .int .u32 x.turn, .slice (some ⟨g2, 0, none⟩) (x.said.length + 1) c2', .int .i64 ((x.fin + secN y.bs.length : Nat) : Int), .bool x.broken], entI x.said, dkI b m p2 c2 R.1] []
        replace S := S.front (entI x.said)
        replace S := S.front (entI [y'])
        replace S := St.entAdd S
        rw [show x.said.length + 1 = x'.said.length from by rw [hx']; simp] at S
        replace S := St.items S (bs' := [entI x'.said, Wk.row 58 1 (some ⟨g2, 0, none⟩) x'.said.length c2' (encL x'.said), Wk.box b4 28 [.int .i64 R.2], Wk.box g 116 (cWal b (some ⟨g2, 0, none⟩) c2' x'), dkI b m p2 c2 R.1]) (by rw [hx'])
        have hc2 := own_le (S.row (some ⟨g2, 0, none⟩) x'.said.length)
        have hne : ¬ b4 = g := St.apart2 S (Wk.box b4 28 [.int .i64 R.2]) (Wk.box g 116 (cWal b (some ⟨g2, 0, none⟩) c2' x')) b4 rfl
        refine endDef1 (Wk.box g 116 (cWal b (some ⟨g2, 0, none⟩) c2' x')) (Wk.box g 116 (cWal b (some ⟨g2, 0, none⟩) c2' (brkF x' R.2))) S rfl ((breaks_d g b4 b (some ⟨g2, 0, none⟩) c2' x' R.2 .returning w (S.box g) (BoxF.stable (S.boxF b4) hne)).mono fun _ _ _ h => h) (fun _ h => h) (fun w' hwd => ?_)
        rw [hbr] at hwd
        have S2 := (St.ofWd hwd).sub [entI x'.said, Wk.row 58 1 (some ⟨g2, 0, none⟩) x'.said.length c2' (encL x'.said), Wk.box g 116 (cWal b (some ⟨g2, 0, none⟩) c2' x'), dkI b m p2 c2 R.1] []
        have S3 := S2.perm [Wk.box g 116 (cWal b (some ⟨g2, 0, none⟩) c2' x'), Wk.row 58 1 (some ⟨g2, 0, none⟩) x'.said.length c2' (encL x'.said), entI x'.said, dkI b m p2 c2 R.1] (((List.Perm.swap _ _ _).trans ((List.Perm.cons _ (List.Perm.swap _ _ _)))).trans (List.Perm.swap _ _ _))
        have hh := St.hold4 S3 rfl rfl rfl rfl
        have h1 := St.new4 S3 rfl rfl rfl rfl
        refine .inr ⟨hro0, by rw [hR], p2, c2, some ⟨g2, 0, none⟩, c2', y', hya, by rw [hx'] at hc2; simp at hc2; omega, ?_⟩
        rw [← hR, hap]
        exact ⟨hh, h1⟩
      · refine c_skip ?_
        refine xtn ?_
        refine c_seq ?_
        refine c_region ?_
        refine sq S ?_; clear S; intro a S
        refine sw S ?_; clear S; intro a w S
        refine wl_nil ?_
        refine xtn ?_
        refine c_ret ?_
        have hR2 : R.2 ≠ 0 := of_decide_eq_false h10
        have hap : appS x y' R.2 = { x with broken := true } := by rw [appS, if_neg hR2]
        have hbr : brkF x R.2 = { x with broken := true } := by simp [brkF, hR2]
        have S := S.sub [Wk.box b4 28 [.int .i64 R.2], Wk.box g 116 (cWal b q e x), Wk.row 58 1 q x.said.length e (encL x.said), entI x.said, dkI b m p2 c2 R.1] []
        have hne : ¬ b4 = g := St.apart2 S (Wk.box b4 28 [.int .i64 R.2]) (Wk.box g 116 (cWal b q e x)) b4 rfl
        refine endDef1 (Wk.box g 116 (cWal b q e x)) (Wk.box g 116 (cWal b q e (brkF x R.2))) S rfl ((breaks_d g b4 b q e x R.2 .returning w (S.box g) (BoxF.stable (S.boxF b4) hne)).mono fun _ _ _ h => h) (fun _ h => h) (fun w' hwd => ?_)
        rw [hbr] at hwd
        have S3 := (St.ofWd hwd).sub [Wk.box g 116 (cWal b q e { x with broken := true }), Wk.row 58 1 q x.said.length e (encL x.said), entI x.said, dkI b m p2 c2 R.1] []
        have hh := St.hold4 S3 rfl rfl rfl rfl
        have h1 := St.new4 S3 rfl rfl rfl rfl
        refine .inr ⟨hro0, by rw [hR], p2, c2, q, e, y', by rw [hy'], hsl.2, ?_⟩
        rw [← hR, hap]
        exact ⟨hh, h1⟩
end Go.Proofs.YtlphkccfcodmcaaGreat

/- Package wal: Checkpoint. -/
namespace Go.Proofs.YtlphkccfcodmcaaGreat
open Go Go.Wk
set_option synthInstance.maxSize 100000
set_option synthInstance.maxHeartbeats 400000
set_option maxRecDepth 100000

theorem upT_range (t : Int) : 0 ≤ upT t ∧ upT t ≤ 4294967295 := by
  unfold upT IntKind.wrap
  simp only [IntKind.bits, IntKind.signed, Bool.false_and]
  simp; omega
/-- why bytes are not taken down as a checkpoint. -/
def roomC (x : WS) (bs : List UInt8) : Int := if refF x bs = 0 then (if x.n < secN bs.length ∨ upT x.turn = 0 then 6 else 0) else refF x bs
/-- a log behind a checkpoint. -/
def chkS (x : WS) (y : LBy) (r : Int) : WS := if r = 0 then { x with turn := upT x.turn, said := [y], fin := secN y.bs.length } else { x with broken := true }
theorem chk_c (g b m : Nat) (p : Option Addr) (c : Nat) (s : DS) (q : Option Addr) (e : Nat) (x : WS) (y : LBy) (w0 : World) (hn : x.n ≤ 1000) (_ht : 0 ≤ x.turn ∧ x.turn ≤ 4294967295) (hyl : y.bs.length ≤ 1000000) (hl : s.loose.length ≤ 980000)
    (hd : (both (dkI b m p c s) (walI g b q e x)).holds w0) (f0 : Stable (both (dkI b m p c s) (walI g b q e x)).foot w0 (GlF y.p y.bs)) :
    Ret Tryz.prog 24 [.pointer (some ⟨g, 0, none⟩), .slice y.p y.bs.length y.c] w0 (both (dkI b m p c s) (walI g b q e x)).foot fun v w' =>
      (roomC x y.bs ≠ 0 ∧ v = .int .i64 (roomC x y.bs) ∧ (both (dkI b m p c s) (walI g b q e x)).holds w') ∨
      (roomC x y.bs = 0 ∧ v = .int .i64 (begF x.n (upT x.turn) y.bs s).2 ∧ ∃ p' c' q' e', ∃ y' : LBy, y'.bs = y.bs ∧ ((begF x.n (upT x.turn) y.bs s).2 ≠ 0 → q' = q ∧ e' = e) ∧ ((begF x.n (upT x.turn) y.bs s).2 = 0 → 1 ≤ e') ∧
        (both (dkI b m p' c' (begF x.n (upT x.turn) y.bs s).1) (walI g b q' e' (chkS x y' (begF x.n (upT x.turn) y.bs s).2))).holds w' ∧
        ∀ k, (both (dkI b m p' c' (begF x.n (upT x.turn) y.bs s).1) (walI g b q' e' (chkS x y' (begF x.n (upT x.turn) y.bs s).2))).foot k → (both (dkI b m p c s) (walI g b q e x)).foot k ∨ w0.heap.size ≤ k) := by
  have hut := upT_range x.turn
  refine enterD Tryz.func24 rfl rfl (Wd.it2Lent (x := dkI b m p c s) (y := walI g b q e x) (fs := [GlF y.p y.bs]) hd rfl rfl (by intro Φ hΦ; obtain rfl := List.mem_singleton.1 hΦ; exact f0)) (fun a S => ?_)
  simp only [Tryz.ntmps24, List.length_cons, List.length_nil, Nat.reduceAdd, Nat.reduceSub, List.replicate_succ, List.replicate_zero, List.cons_append, List.nil_append] at S
  replace S := S.front (walI g b q e x)
  replace S := St.open3 S
  refine c_seq ?_
  refine c_region ?_
  refine sa S ?_; clear S; intro b4 a w S
  refine wl_nil ?_
  refine xtn ?_
  iterate 2 (refine c_seq ?_)
  refine c_region ?_
  iterate 2 (refine sq S ?_; clear S; intro a S)
  refine sr S (refuses_c g b q e x y _ (BoxF.stable (S.boxF g) (fun h => h))) ?_; clear S; rintro _ a w rfl S
  refine sq S ?_; clear S; intro a S
  refine wl_nil ?_
  refine xtn ?_
  refine c_seq ?_
  refine c_region ?_
  iterate 2 (refine sq S ?_; clear S; intro a S)
  refine wl_nil ?_
  refine xtn ?_
  refine c_cond S (fun h2 => ?_) (fun h2 => ?_)
  · refine c_seq ?_
    refine c_region ?_
    refine sq S ?_; clear S; intro a S
    refine sw S ?_; clear S; intro a w S
    refine wl_nil ?_
    refine xtn ?_
    refine c_ret ?_
    refine xtr ?_
    have he : refF x y.bs ≠ 0 := by simpa using h2
    have hR : roomC x y.bs = refF x y.bs := by rw [roomC, if_neg he]
    have hh := St.hold4 (S.sub [Wk.box g 116 (cWal b q e x), Wk.row 58 1 q x.said.length e (encL x.said), entI x.said, dkI b m p c s] []) rfl rfl rfl rfl
    refine endD1 S (.inl ?_)
    rw [hR]
    exact ⟨he, rfl, hh⟩
  · refine c_skip ?_
    refine xtn ?_
    refine c_seq ?_
    have he : refF x y.bs = 0 := by simpa using h2
    obtain ⟨hy4, hbk⟩ := refF_zero he
    refine c_region ?_
    iterate 2 (refine sq S ?_; clear S; intro a S)
    refine sr S (sectors_c (y.bs.length : Int) _) ?_; clear S; rintro _ a w rfl S
    rw [secF_nat _ hy4] at S
    refine sq S ?_; clear S; intro a S
    refine wl_nil ?_
    refine xtn ?_
    iterate 2 (refine c_seq ?_)
    refine c_region ?_
    iterate 8 (refine sq S ?_; clear S; intro a S)
    iterate 7 (refine gQ S ?_; clear S; intro a S)
    refine sq S ?_; clear S; intro a S
    refine wl_nil ?_
    refine xtn ?_
    refine c_cond S (fun h5 => ?_) (fun h5 => ?_)
    · refine c_seq ?_
      refine c_region ?_
      refine sw S ?_; clear S; intro a w S
      refine wl_nil ?_
      refine xtn ?_
      refine c_ret ?_
      refine xtr ?_
      have hro : x.n < secN y.bs.length ∨ upT x.turn = 0 := by
        rw [show IntKind.u32.wrap (x.turn + 1) = upT x.turn from rfl] at h5
        simp at h5; omega
      have hR : roomC x y.bs = 6 := by rw [roomC, if_pos he, if_pos hro]
      have hh := St.hold4 (S.sub [Wk.box g 116 (cWal b q e x), Wk.row 58 1 q x.said.length e (encL x.said), entI x.said, dkI b m p c s] []) rfl rfl rfl rfl
      refine endD1 S (.inl ?_)
      rw [hR]
      exact ⟨by decide, rfl, hh⟩
    · refine c_skip ?_
      refine xtn ?_
      refine c_seq ?_
      have hro : ¬ (x.n < secN y.bs.length ∨ upT x.turn = 0) := by
        rw [show IntKind.u32.wrap (x.turn + 1) = upT x.turn from rfl] at h5
        simp at h5; omega
      refine c_region ?_
      refine sq S ?_; clear S; intro a S
      refine sdefc S ?_; clear S; intro a S
      refine wl_nil ?_
      refine xtn ?_
      refine c_seq ?_
      refine c_region ?_
      refine sq S ?_; clear S; intro a S
      replace S := S.addNil 5 1
      refine sap S (by simp only [maxLen]; omega) (by omega) ?_; clear S; rintro p8 c8 a w - S
      rw [show ([] : List Value) ++ encL y.bs = encL y.bs from rfl, Nat.zero_add] at S
      have hc8 := own_le (S.row p8 y.bs.length)
      replace S := St.rowEnt S ⟨p8, c8, y.bs⟩ (S.row p8 y.bs.length)
      obtain ⟨y', hy'⟩ : ∃ y' : LBy, y' = ⟨p8, c8, y.bs⟩ := ⟨_, rfl⟩
      rw [← hy'] at S
      obtain ⟨R, hR⟩ : ∃ R, R = begF x.n (upT x.turn) y.bs s := ⟨_, rfl⟩
      have hro0 : roomC x y.bs = 0 := by rw [roomC, if_pos he, if_neg hro]
      refine sq S ?_; clear S; intro a S
      refine wl_nil ?_
      refine xtn ?_
      refine c_seq ?_
      refine c_region ?_
      iterate 4 (refine sq S ?_; clear S; intro a S)
      refine sr S (next_c b x.n x.turn _) ?_; clear S; rintro _ a w rfl S
      refine sa S ?_; clear S; intro b8 a w S
      refine sw S ?_; clear S; intro a w S
      refine wl_nil ?_
      refine xtn ?_
      iterate 2 (refine c_seq ?_)
      refine c_region ?_
      iterate 2 (refine sq S ?_; clear S; intro a S)
      have hgl : Stable (dkI b m p c s).foot w (GlF y'.p y'.bs) := St.entGl S (fun k hk hk2 => St.apart2 S (entI [y']) (dkI b m p c s) k hk hk2) (by simp)
      rw [hy'] at hgl
      refine sit (dkI b m p c s) S (begin_c b m x.n p c s (upT x.turn) y.bs p8 c8 _ hn hut hy4 hc8 (by omega) (S.it (dkI b m p c s)) hgl) rfl ?_; clear S hgl; rintro _ a w ⟨rfl, p2, c2, hh, hn2⟩ hS
      have S := hS (dkI b m p2 c2 (begF x.n (upT x.turn) y.bs s).1) hh hn2
      clear hS
      rw [← hR] at S
      refine sw S ?_; clear S; intro a w S
      refine wl_nil ?_
      refine xtn ?_
      refine c_seq ?_
      refine c_region ?_
      iterate 2 (refine sq S ?_; clear S; intro a S)
      refine wl_nil ?_
      refine xtn ?_
      refine c_cond S (fun h11 => ?_) (fun h11 => ?_)
      · refine c_region ?_
        iterate 5 (refine sq S ?_; clear S; intro a S)
        refine sn S ?_; clear S; intro b52 a w S
        iterate 3 (refine sq S ?_; clear S; intro a S)
        refine sw S ?_; clear S; intro a w S
        iterate 2 (refine sq S ?_; clear S; intro a S)
        refine sw S ?_; clear S; intro a w S
        iterate 2 (refine sq S ?_; clear S; intro a S)
        refine sw S ?_; clear S; intro a w S
        refine wl_nil ?_
        refine xtn ?_
        refine c_seq ?_
        refine c_region ?_
        refine sq S ?_; clear S; intro a S
        refine sw S ?_; clear S; intro a w S
        refine wl_nil ?_
        refine xtn ?_
        refine c_ret ?_
        have hR2 : R.2 = 0 := of_decide_eq_true h11
        obtain ⟨x', hx'⟩ : ∃ x' : WS, x' = { x with turn := upT x.turn, said := [y'], fin := secN y.bs.length } := ⟨_, rfl⟩
        have hya : y'.bs = y.bs := by rw [hy']
        have hap : chkS x y' R.2 = x' := by rw [chkS, if_pos hR2, hx', hya]
        have hbr : brkF x' R.2 = x' := by rw [brkF, hR2]; simp
        replace S := S.boxRow b52 1 1 rfl (by decide)
        replace S := S.sub [Wk.row 58 1 (some ⟨b52, 0, none⟩) 1 1 [.slice p8 y.bs.length c8], entI [y'], Wk.box b4 28 [.int .i64 R.2], Wk.box g 116 [.pointer (some ⟨b, 0, none⟩), .int .i64 (x.n : Int), .int .u32 (upT x.turn), .slice (some ⟨b52, 0, none⟩) 1 1, .int .i64 (secN y.bs.length : Int), .bool x.broken], dkI b m p2 c2 R.1] []
        replace S := St.items S (bs' := [Wk.row 58 1 (some ⟨b52, 0, none⟩) x'.said.length 1 (encL x'.said), entI x'.said, Wk.box b4 28 [.int .i64 R.2], Wk.box g 116 (cWal b (some ⟨b52, 0, none⟩) 1 x'), dkI b m p2 c2 R.1]) (by rw [hx', hy']; rfl)
        have hne : ¬ b4 = g := St.apart2 S (Wk.box b4 28 [.int .i64 R.2]) (Wk.box g 116 (cWal b (some ⟨b52, 0, none⟩) 1 x')) b4 rfl
        refine endDef1 (Wk.box g 116 (cWal b (some ⟨b52, 0, none⟩) 1 x')) (Wk.box g 116 (cWal b (some ⟨b52, 0, none⟩) 1 (brkF x' R.2))) S rfl ((breaks_d g b4 b (some ⟨b52, 0, none⟩) 1 x' R.2 .returning w (S.box g) (BoxF.stable (S.boxF b4) hne)).mono fun _ _ _ h => h) (fun _ h => h) (fun w' hwd => ?_)
        rw [hbr] at hwd
        have S2 := (St.ofWd hwd).sub [Wk.row 58 1 (some ⟨b52, 0, none⟩) x'.said.length 1 (encL x'.said), entI x'.said, Wk.box g 116 (cWal b (some ⟨b52, 0, none⟩) 1 x'), dkI b m p2 c2 R.1] []
        have S3 := S2.perm [Wk.box g 116 (cWal b (some ⟨b52, 0, none⟩) 1 x'), Wk.row 58 1 (some ⟨b52, 0, none⟩) x'.said.length 1 (encL x'.said), entI x'.said, dkI b m p2 c2 R.1] ((List.Perm.swap _ _ _).trans (List.Perm.cons _ (List.Perm.swap _ _ _)))
        have hh := St.hold4 S3 rfl rfl rfl rfl
        have h1 := St.new4 S3 rfl rfl rfl rfl
        refine .inr ⟨hro0, by rw [hR], p2, c2, some ⟨b52, 0, none⟩, 1, y', hya, fun h => absurd (hR ▸ hR2) h, fun _ => Nat.le_refl _, ?_⟩
        rw [← hR, hap]
        exact ⟨hh, h1⟩
      · refine c_skip ?_
        refine xtn ?_
        refine c_seq ?_
        refine c_region ?_
        refine sq S ?_; clear S; intro a S
        refine sw S ?_; clear S; intro a w S
        refine wl_nil ?_
        refine xtn ?_
        refine c_ret ?_
        have hR2 : R.2 ≠ 0 := of_decide_eq_false h11
        have hap : chkS x y' R.2 = { x with broken := true } := by rw [chkS, if_neg hR2]
        have hbr : brkF x R.2 = { x with broken := true } := by simp [brkF, hR2]
        have S := S.sub [Wk.box b4 28 [.int .i64 R.2], Wk.box g 116 (cWal b q e x), Wk.row 58 1 q x.said.length e (encL x.said), entI x.said, dkI b m p2 c2 R.1] []
        have hne : ¬ b4 = g := St.apart2 S (Wk.box b4 28 [.int .i64 R.2]) (Wk.box g 116 (cWal b q e x)) b4 rfl
        refine endDef1 (Wk.box g 116 (cWal b q e x)) (Wk.box g 116 (cWal b q e (brkF x R.2))) S rfl ((breaks_d g b4 b q e x R.2 .returning w (S.box g) (BoxF.stable (S.boxF b4) hne)).mono fun _ _ _ h => h) (fun _ h => h) (fun w' hwd => ?_)
        rw [hbr] at hwd
        have S3 := (St.ofWd hwd).sub [Wk.box g 116 (cWal b q e { x with broken := true }), Wk.row 58 1 q x.said.length e (encL x.said), entI x.said, dkI b m p2 c2 R.1] []
        have hh := St.hold4 S3 rfl rfl rfl rfl
        have h1 := St.new4 S3 rfl rfl rfl rfl
        refine .inr ⟨hro0, by rw [hR], p2, c2, q, e, y', by rw [hy'], fun _ => ⟨rfl, rfl⟩, fun h => absurd h (by rw [← hR]; exact hR2), ?_⟩
        rw [← hR, hap]
        exact ⟨hh, h1⟩
end Go.Proofs.YtlphkccfcodmcaaGreat

/- Disks in plain words: what they hold, behind writes, a sync, a crash. -/
namespace Go.Proofs.YtlphkccfcodmcaaGreat
open Go Go.Wk
set_option maxRecDepth 100000

theorem getB_put (k u : Int) (v : Blk) : ∀ f, getB k (putB u v f) = if k = u then some v else getB k f
  | [] => by simp [putB, getB]
  | (w, x) :: f => by
    rw [putB]
    split
    · rename_i h
      subst h
      rw [getB, getB]
      split <;> rfl
    · rename_i h
      rw [getB, getB, getB_put k u v f]
      by_cases hw : k = w
      · subst hw; rw [if_pos rfl, if_pos rfl, if_neg (fun e => h e.symm)]
      · rw [if_neg hw, if_neg hw]
theorem findB_snoc (k : Int) (x : LWr) : ∀ l, findB k (l ++ [x]) = (if x.at_ = k then some x.b else none).or (findB k l)
  | [] => by simp [findB]
  | y :: l => by rw [List.cons_append, findB, findB_snoc k x l, findB, Option.or_assoc]
theorem settle_all (j : Int) (l : List LWr) (f : List (Int × Blk)) : ∀ k, k ≤ l.length → getB j (settleK (fun _ => true) l f k) = (findB j (l.take k)).or (getB j f)
  | 0, _ => by rw [settleK, List.take_zero, findB, Option.none_or]
  | k + 1, h => by
    rw [settleK, if_pos rfl, getB_put, take_snocW (by omega), findB_snoc, settle_all j l f k (by omega)]
    by_cases e : j = (nthG l k).at_
    · rw [if_pos e, if_pos e.symm]; rfl
    · rw [if_neg e, if_neg (fun h => e h.symm)]; rfl
theorem settle_any (j : Int) (st : Nat → Bool) (l : List LWr) (f : List (Int × Blk)) : ∀ k, k ≤ l.length → getB j (settleK st l f k) = getB j f ∨ ∃ x ∈ l, x.at_ = j ∧ getB j (settleK st l f k) = some x.b
  | 0, _ => .inl rfl
  | k + 1, h => by
    rw [settleK]
    split
    · rw [getB_put]
      by_cases e : j = (nthG l k).at_
      · rw [if_pos e]; exact .inr ⟨nthG l k, nthG_mem (by omega), e.symm, rfl⟩
      · rw [if_neg e]; exact settle_any j st l f k (by omega)
    · exact settle_any j st l f k (by omega)
theorem holds_firm {s : DS} (h : s.loose = []) (k : Int) : holdsF s k = (getB k s.firm).getD zB := by rw [holdsF, h, findB, Option.none_or]
/-- a disk with power, where nothing is to fail. -/
structure Up (s : DS) : Prop where
  on : s.out = false
  fit : s.fails.on = false
/-- does the power go now? -/
def hit (s : DS) : Bool := (metF s.arms).1
theorem met_off {c : Cnt} (h : c.on = false) : metF c = (false, c) := by rw [metF, if_neg (by rw [h]; exact Bool.false_ne_true)]
theorem hit_off {s : DS} (h : s.arms.on = false) : hit s = false := by rw [hit, met_off h]
theorem ask_up {s : DS} (h : Up s) {k : Int} (hk : 0 ≤ k ∧ k < s.size) (b : Bool) : askE s k b = if b && hit s then 9 else 0 := by
  rw [askE, if_neg (by rw [h.on]; exact Bool.false_ne_true), if_neg (by omega), met_off h.fit, if_neg (by exact Bool.false_ne_true)]; rfl
theorem rd_up {s : DS} (h : Up s) {k : Int} (hk : 0 ≤ k ∧ k < s.size) : askE s k false = 0 ∧ rdB s k = holdsF s k ∧ rdD s k = opD s := by
  have h1 : askE s k false = 0 := by rw [ask_up h hk]; rfl
  refine ⟨h1, by rw [rdB, if_pos h1], ?_⟩
  rw [rdD, if_pos h1, askD, if_neg (by rw [h.on]; exact Bool.false_ne_true), if_neg (by omega), met_off h.fit, if_neg (by exact Bool.false_ne_true), if_neg (by exact Bool.false_ne_true)]
theorem askD_up {s : DS} (h : Up s) {k : Int} (hk : 0 ≤ k ∧ k < s.size) : askD s k true = if hit s then { s with arms := (metF s.arms).2, out := true } else { s with arms := (metF s.arms).2 } := by
  rw [askD, if_neg (by rw [h.on]; exact Bool.false_ne_true), if_neg (by omega), met_off h.fit, if_neg (by exact Bool.false_ne_true), if_pos rfl]
  rfl
theorem asked_up {s : DS} (h : Up s) {k : Int} (hk : 0 ≤ k ∧ k < s.size) (g : DS → DS) : (hit s = false ∧ askE s k true = 0 ∧ askedD g s k = opD (g { s with arms := (metF s.arms).2 })) ∨ (hit s = true ∧ askE s k true = 9 ∧ askedD g s k = { s with arms := (metF s.arms).2, out := true }) := by
  have h1 := ask_up h hk true
  have h2 := askD_up h hk
  cases hh : hit s with
  | false =>
    rw [hh] at h1 h2
    replace h1 : askE s k true = 0 := h1
    refine .inl ⟨rfl, h1, ?_⟩
    rw [askedD, if_pos h1, h2]; rfl
  | true =>
    rw [hh] at h1 h2
    replace h1 : askE s k true = 9 := h1
    refine .inr ⟨rfl, h1, ?_⟩
    rw [askedD, if_neg (by rw [h1]; decide), h2]; rfl
theorem met_stays {c : Cnt} (h : c.on = false) : (metF c).2.on = false := by rw [met_off h]; exact h
/-- what a disk holds, and how large it is. -/
structure Alike (s s' : DS) : Prop where
  size : s'.size = s.size
  fails : s'.fails = s.fails
  firm : s'.firm = s.firm
/-- writes, one behind the other. -/
def wrs : Nat → List Blk → List LWr
  | _, [] => []
  | k, x :: xs => ⟨(k : Int), x⟩ :: wrs (k + 1) xs
theorem wrs_mem : ∀ {xs : List Blk} {k : Nat} {y : LWr}, y ∈ wrs k xs → ∃ i, y.at_ = ((k + i : Nat) : Int) ∧ xs[i]? = some y.b
  | [], _, _, h => by cases h
  | x :: xs, k, y, h => by
    rw [wrs] at h
    rcases List.mem_cons.1 h with rfl | h
    · exact ⟨0, rfl, rfl⟩
    · obtain ⟨i, h1, h2⟩ := wrs_mem h
      exact ⟨i + 1, by rw [h1]; congr 1; omega, by simpa using h2⟩
theorem wrs_find : ∀ (xs : List Blk) (k : Nat) (j : Int), findB j (wrs k xs) = if (k : Int) ≤ j ∧ j < ((k + xs.length : Nat) : Int) then xs[(j - k).toNat]? else none
  | [], k, j => by rw [wrs, findB, if_neg (by simp only [List.length_nil]; omega)]
  | x :: xs, k, j => by
    rw [wrs, findB, wrs_find xs (k + 1) j]
    by_cases h1 : j = (k : Int)
    · subst h1
      rw [if_neg (by omega), if_pos rfl, if_pos (by simp only [List.length_cons]; omega), Int.sub_self]; rfl
    · rw [if_neg (show ¬ ((⟨(k : Int), x⟩ : LWr).at_ = j) from fun e => h1 e.symm), Option.or_none]
      by_cases h2 : (k : Int) ≤ j ∧ j < ((k + (x :: xs).length : Nat) : Int)
      · rw [if_pos h2, if_pos (by simp only [List.length_cons] at h2; omega)]
        have : (j - (k : Int)).toNat = (j - ((k + 1 : Nat) : Int)).toNat + 1 := by omega
        rw [this, List.getElem?_cons_succ]
      · rw [if_neg h2, if_neg (by simp only [List.length_cons] at h2; omega)]
/-- blocks are laid: all of them, or the power goes behind some. -/
theorem lay_w : ∀ (xs : List Blk) (s : DS) (k : Nat), Up s → ((k + xs.length : Nat) : Int) ≤ s.size →
    Alike s (layW s k xs).1 ∧ (((layW s k xs).2 = 0 ∧ (layW s k xs).1.out = false ∧ (layW s k xs).1.loose = s.loose ++ wrs k xs ∧ (s.arms.on = false → (layW s k xs).1.arms.on = false)) ∨
      (s.arms.on = true ∧ (layW s k xs).2 = 9 ∧ (layW s k xs).1.out = true ∧ ∃ i, (layW s k xs).1.loose = s.loose ++ wrs k (xs.take i)))
  | [], s, k, hu, _ => by
    rw [layW]
    exact ⟨⟨rfl, rfl, rfl⟩, .inl ⟨rfl, hu.on, by rw [wrs, List.append_nil], id⟩⟩
  | x :: xs, s, k, hu, hk => by
    simp only [List.length_cons] at hk
    rcases asked_up hu (k := (k : Int)) (by omega) (fun s => writeD s k x) with ⟨h1, h2, h3⟩ | ⟨h1, h2, h3⟩
    · rw [layW, if_pos h2, show ((k : Int) + 1) = ((k + 1 : Nat) : Int) from rfl]
      have e : wrD s k x = opD (writeD { s with arms := (metF s.arms).2 } k x) := h3
      have hu1 : Up (wrD s k x) := by rw [e]; exact ⟨hu.on, hu.fit⟩
      have hs1 : (wrD s k x).size = s.size := by rw [e]; rfl
      obtain ⟨ha, hc⟩ := lay_w xs (wrD s k x) (k + 1) hu1 (by rw [hs1]; omega)
      refine ⟨⟨ha.size.trans hs1, ha.fails.trans (by rw [e]; rfl), ha.firm.trans (by rw [e]; rfl)⟩, ?_⟩
      have hl : (wrD s k x).loose = s.loose ++ [⟨(k : Int), x⟩] := by rw [e]; rfl
      have harm : s.arms.on = false → (wrD s k x).arms.on = false := fun h => by rw [e]; exact met_stays h
      rcases hc with ⟨c1, c2, c3, c4⟩ | ⟨c0, c1, c2, i, c3⟩
      · exact .inl ⟨c1, c2, by rw [c3, hl, wrs, List.append_assoc]; rfl, fun h => c4 (harm h)⟩
      · refine .inr ⟨?_, c1, c2, i + 1, by rw [c3, hl, List.take_succ_cons, wrs, List.append_assoc]; rfl⟩
        cases hx : s.arms.on with
        | true => rfl
        | false => rw [harm hx] at c0; cases c0
    · rw [layW, if_neg (by rw [h2]; decide)]
      have e : wrD s k x = { s with arms := (metF s.arms).2, out := true } := h3
      refine ⟨by rw [e]; exact ⟨rfl, rfl, rfl⟩, .inr ⟨?_, h2, by rw [e], 0, by rw [e, List.take_zero, wrs, List.append_nil]⟩⟩
      cases hx : s.arms.on with
      | true => rfl
      | false => rw [hit_off hx] at h1; cases h1
/-- behind a sync. -/
theorem sy_up {s : DS} (hu : Up s) (h0 : 0 < s.size) : ((askE s 0 true = 0 ∧ (syD s).out = false ∧ (syD s).loose = [] ∧ (∀ j, holdsF (syD s) j = holdsF s j) ∧ (syD s).size = s.size ∧ (syD s).fails = s.fails ∧ (s.arms.on = false → (syD s).arms.on = false)) ∨
    (s.arms.on = true ∧ askE s 0 true = 9 ∧ (syD s).out = true ∧ (syD s).loose = s.loose ∧ Alike s (syD s))) := by
  rcases asked_up hu (k := 0) (by omega) (settleD fun _ => true) with ⟨h1, h2, h3⟩ | ⟨h1, h2, h3⟩
  · have e : syD s = opD (settleD (fun _ => true) { s with arms := (metF s.arms).2 }) := h3
    refine .inl ⟨h2, by rw [e]; exact hu.on, by rw [e]; rfl, fun j => ?_, by rw [e]; rfl, by rw [e]; rfl, fun h => by rw [e]; exact met_stays h⟩
    rw [holds_firm (by rw [e]; rfl), holdsF, e]
    show (getB j (settleK (fun _ => true) s.loose s.firm s.loose.length)).getD zB = _
    rw [settle_all j s.loose s.firm s.loose.length (Nat.le_refl _), List.take_length]
  · have e : syD s = { s with arms := (metF s.arms).2, out := true } := h3
    refine .inr ⟨?_, h2, by rw [e], by rw [e], by rw [e]; exact ⟨rfl, rfl, rfl⟩⟩
    cases hx : s.arms.on with
    | true => rfl
    | false => rw [hit_off hx] at h1; cases h1
/-- blocks are laid and made firm, or the power goes. -/
theorem lay_f (xs : List Blk) (s : DS) (k : Nat) (hu : Up s) (hl : s.loose = []) (h0 : 0 < s.size) (hk : ((k + xs.length : Nat) : Int) ≤ s.size) :
    ((layF s k xs).2 = 0 ∧ Up (layF s k xs).1 ∧ (layF s k xs).1.loose = [] ∧ (layF s k xs).1.size = s.size ∧ (s.arms.on = false → (layF s k xs).1.arms.on = false) ∧ ∀ j, holdsF (layF s k xs).1 j = (findB j (wrs k xs)).getD (holdsF s j)) ∨
    (s.arms.on = true ∧ (layF s k xs).2 = 9 ∧ (layF s k xs).1.out = true ∧ Alike s (layF s k xs).1 ∧ ∃ i, (layF s k xs).1.loose = wrs k (xs.take i)) := by
  obtain ⟨ha, hc⟩ := lay_w xs s k hu hk
  rw [hl] at hc
  simp only [List.nil_append] at hc
  rcases hc with ⟨c1, c2, c3, c4⟩ | ⟨c0, c1, c2, i, c3⟩
  · have e : layF s k xs = (syD (layW s k xs).1, askE (layW s k xs).1 0 true) := by rw [layF, if_pos c1]
    have hu1 : Up (layW s k xs).1 := ⟨c2, by rw [ha.fails]; exact hu.fit⟩
    rw [e]
    rcases sy_up hu1 (by rw [ha.size]; exact h0) with ⟨d1, d2, d3, d4, d5, d6, d7⟩ | ⟨d0, d1, d2, d3, d4⟩
    · refine .inl ⟨d1, ⟨d2, by rw [d6]; exact hu1.fit⟩, d3, d5.trans ha.size, fun h => d7 (c4 h), fun j => ?_⟩
      show holdsF (syD (layW s k xs).1) j = _
      rw [d4, holdsF, c3, ha.firm, holds_firm hl]
      cases findB j (wrs k xs) <;> rfl
    · refine .inr ⟨?_, d1, d2, ⟨d4.size.trans ha.size, d4.fails.trans ha.fails, d4.firm.trans ha.firm⟩, xs.length, by rw [List.take_length]; exact d3.trans c3⟩
      cases hx : s.arms.on with
      | true => rfl
      | false => rw [c4 hx] at d0; cases d0
  · have e : layF s k xs = layW s k xs := by rw [layF, if_neg (by rw [c1]; decide)]
    rw [e]
    exact .inr ⟨c0, c1, c2, ha, i, c3⟩
/-- behind a crash each sector holds what was firm, or what was written to it. -/
theorem crash_any (l : List Bool) (s : DS) : Up (crashD l s) ∧ (crashD l s).loose = [] ∧ (crashD l s).size = s.size ∧ (crashD l s).arms.on = false ∧ ∀ j, holdsF (crashD l s) j = (getB j s.firm).getD zB ∨ ∃ x ∈ s.loose, x.at_ = j ∧ holdsF (crashD l s) j = x.b := by
  refine ⟨⟨rfl, rfl⟩, rfl, rfl, rfl, fun j => ?_⟩
  rw [holds_firm (s := crashD l s) rfl]
  show (getB j (settleK (keepF l) s.loose s.firm s.loose.length)).getD zB = _ ∨ _
  rcases settle_any j (keepF l) s.loose s.firm s.loose.length (Nat.le_refl _) with h | ⟨x, h1, h2, h3⟩
  · rw [h]; exact .inl rfl
  · exact .inr ⟨x, h1, h2, by show (getB j (settleK (keepF l) s.loose s.firm s.loose.length)).getD zB = _; rw [h3]; rfl⟩
/-- behind a laying that the power cut: what was there, or what was to come. -/
theorem crash_lay (l : List Bool) {s : DS} {xs : List Blk} {k : Nat} (hl : s.loose = []) {r : DS} (ha : Alike s r) {i : Nat} (hr : r.loose = wrs k (xs.take i)) (j : Int) :
    holdsF (crashD l r) j = holdsF s j ∨ ∃ m, j = ((k + m : Nat) : Int) ∧ xs[m]? = some (holdsF (crashD l r) j) := by
  obtain ⟨_, _, _, _, h1⟩ := crash_any l r
  rcases h1 j with e | ⟨x, hx, h2, h3⟩
  · rw [e, ha.firm, holds_firm hl]; exact .inl rfl
  · rw [hr] at hx
    obtain ⟨m, e1, e2⟩ := wrs_mem hx
    rw [List.getElem?_take] at e2
    split at e2
    · exact .inr ⟨m, h2.symm.trans e1, by rw [h3]; exact e2⟩
    · cases e2
end Go.Proofs.YtlphkccfcodmcaaGreat

/- Package wal in plain words: logs on disks, taken down, cut, found. -/
namespace Go.Proofs.YtlphkccfcodmcaaGreat
open Go Go.Wk
set_option maxRecDepth 100000

/-- a field of blocks. -/
def fieldOf (s : DS) (fr n : Nat) : List Blk := (List.range n).map fun i => holdsF s ((fr + i : Nat) : Int)
theorem fieldOf_len (s : DS) (fr n : Nat) : (fieldOf s fr n).length = n := by simp [fieldOf]
theorem fieldOf_get (s : DS) (fr n i : Nat) (h : i < n) : (fieldOf s fr n)[i]? = some (holdsF s ((fr + i : Nat) : Int)) := by
  rw [fieldOf, List.getElem?_map, List.getElem?_range h]; rfl
theorem fieldOf_eq {s s' : DS} {fr n : Nat} (h : ∀ i, i < n → holdsF s' ((fr + i : Nat) : Int) = holdsF s ((fr + i : Nat) : Int)) : fieldOf s' fr n = fieldOf s fr n :=
  List.map_congr_left fun i hi => h i (List.mem_range.1 hi)
/-- the other title tells no later book. -/
def Below (s : DS) (t : Int) (i : Nat) (y : Blk) : Prop := (mayF s (tellN y) && decide (tellT y % 2 = (i : Int)) && decide (y.l = (titleF (tellT y) (tellN y)).l)) = true → tellT y < t
/-- a log's disk, but for what lies behind the log's end. -/
structure LogOn (s : DS) (n : Nat) (t : Int) (said : List (List UInt8)) (tail : List Blk) : Prop where
  up : Up s
  loose : s.loose = []
  hn : 4 ≤ n ∧ n ≤ 1000
  size : ((2 * n + 2 : Nat) : Int) ≤ s.size
  ht : 0 ≤ t ∧ t ≤ 4294967295
  title : holdsF s ((t % 2).toNat : Int) = titleF t n
  other : Below s t (1 - (t % 2).toNat) (holdsF s ((1 - (t % 2).toNat : Nat) : Int))
  some_ : said ≠ []
  short : ∀ b ∈ said, b.length ≤ 40000
  cur : fieldOf s (fromN n t) n = laidF t said 0 ++ tail
  oth : ∀ i, i < n → Fresh (t + 1) (holdsF s ((fromN n (t + 1) + i : Nat) : Int))
def Live (s : DS) (n : Nat) (t : Int) (said : List (List UInt8)) : Prop := ∃ tail, LogOn s n t said tail ∧ ∀ x ∈ tail, Fresh t x
def Able (s : DS) (n : Nat) (t : Int) (said : List (List UInt8)) : Prop := ∃ tail, LogOn s n t said tail ∧ NoEntry t (said.length : Nat) tail ∧ ∀ x ∈ tail, Fresh (t + 1) x
def Clean (s : DS) (n : Nat) (t : Int) (said : List (List UInt8)) : Prop := ∃ k, LogOn s n t said (List.replicate k zB)
def endF (t : Int) (said : List (List UInt8)) : Nat := (laidF t said 0).length
theorem LogOn.len {s : DS} {n : Nat} {t : Int} {said : List (List UInt8)} {tail : List Blk} (h : LogOn s n t said tail) : endF t said + tail.length = n := by
  have := congrArg List.length h.cur
  rw [fieldOf_len, List.length_append] at this
  exact this.symm
theorem laid_len (t : Int) : ∀ (said : List (List UInt8)) (j : Nat), said.length ≤ (laidF t said j).length
  | [], _ => Nat.le_refl _
  | b :: l, j => by
    have := laid_len t l (j + 1)
    have := secN_pos b.length
    rw [laidF, List.length_append, leavesF_len, List.length_cons]; omega
theorem LogOn.few {s : DS} {n : Nat} {t : Int} {said : List (List UInt8)} {tail : List Blk} (h : LogOn s n t said tail) : said.length ≤ n ∧ 0 < said.length :=
  ⟨by have := laid_len t said 0; have := h.len; unfold endF at this; omega, List.length_pos_iff.2 h.some_⟩
theorem Live.able {s : DS} {n : Nat} {t : Int} {said : List (List UInt8)} (h : Live s n t said) : Able s n t said := by
  obtain ⟨tail, h, hf⟩ := h
  have h1 := h.few
  have h2 := h.hn
  exact ⟨tail, h, noEntry_fresh h.ht.2 (by omega) hf, fun x hx => (hf x hx).mono (by omega)⟩
theorem from_bound {n : Nat} (t : Int) (hn : n ≤ 1000) : 2 ≤ fromN n t ∧ fromN n t ≤ 2 + n := by
  unfold fromN
  rcases (show (t % 2).toNat = 0 ∨ (t % 2).toNat = 1 by omega) with h | h <;> rw [h] <;> omega
/-- two fields lie apart. -/
theorem from_apart {n : Nat} (t : Int) {i j : Nat} (hi : i < n) (hj : j < n) : fromN n t + i ≠ fromN n (t + 1) + j := by
  unfold fromN
  rcases (show t % 2 = 0 ∨ t % 2 = 1 by omega) with h | h
  · rw [show (t + 1) % 2 = 1 from by omega, h]; simp; omega
  · rw [show (t + 1) % 2 = 0 from by omega, h]; simp; omega
theorem from_two {n : Nat} (t : Int) : fromN n (t + 1 + 1) = fromN n t := by
  unfold fromN
  rw [show (t + 1 + 1) % 2 = t % 2 from by omega]
/-- what holds the same as a log's disk. -/
theorem LogOn.same {s s' : DS} {n : Nat} {t : Int} {said : List (List UInt8)} {tail : List Blk} (h : LogOn s n t said tail) (hu : Up s') (hl : s'.loose = []) (hz : s'.size = s.size) (hh : ∀ j, holdsF s' j = holdsF s j) : LogOn s' n t said tail where
  up := hu
  loose := hl
  hn := h.hn
  size := by rw [hz]; exact h.size
  ht := h.ht
  title := by rw [hh]; exact h.title
  other := by
    have := h.other
    unfold Below mayF at this ⊢
    rw [hz, hh]; exact this
  some_ := h.some_
  short := h.short
  cur := by rw [fieldOf_eq fun i _ => hh _]; exact h.cur
  oth := fun i hi => by rw [hh]; exact h.oth i hi
theorem over_in {xs : List Blk} {k i : Nat} (hi : i < xs.length) (u : Blk) : (findB ((k + i : Nat) : Int) (wrs k xs)).getD u = (xs[i]?).getD u := by
  rw [wrs_find, if_pos (by omega)]
  congr 2; omega
theorem over_out {xs : List Blk} {k : Nat} {j : Int} (h : j < (k : Int) ∨ ((k + xs.length : Nat) : Int) ≤ j) (u : Blk) : (findB j (wrs k xs)).getD u = u := by
  rw [wrs_find, if_neg (by omega)]; rfl
/-- a field with something laid into it. -/
theorem field_over {s s' : DS} {fr n k : Nat} {xs : List Blk} (hk : k + xs.length ≤ n) (h : ∀ j, holdsF s' j = (findB j (wrs (fr + k) xs)).getD (holdsF s j)) : fieldOf s' fr n = (fieldOf s fr n).take k ++ xs ++ (fieldOf s fr n).drop (k + xs.length) := by
  have hl : ((fieldOf s fr n).take k).length = k := by rw [List.length_take, fieldOf_len]; omega
  apply List.ext_getElem?
  intro i
  by_cases hi : i < n
  · rw [fieldOf_get s' fr n i hi, h]
    by_cases h1 : i < k
    · rw [over_out (.inl (by omega)), List.append_assoc, List.getElem?_append_left (by omega), List.getElem?_take, if_pos h1, fieldOf_get s fr n i hi]
    · by_cases h2 : i < k + xs.length
      · rw [show (fr + i : Nat) = fr + k + (i - k) from by omega, over_in (by omega), List.append_assoc, List.getElem?_append_right (by omega), hl, List.getElem?_append_left (by omega), List.getElem?_eq_getElem (by omega)]; rfl
      · rw [over_out (.inr (by omega)), List.getElem?_append_right (by rw [List.length_append, hl]; omega), List.length_append, hl, List.getElem?_drop, show k + xs.length + (i - (k + xs.length)) = i from by omega, fieldOf_get s fr n i hi]
  · rw [List.getElem?_eq_none (by rw [fieldOf_len]; omega), List.getElem?_eq_none (by rw [List.length_append, List.length_append, hl, List.length_drop, fieldOf_len]; omega)]
/-- each is what it was, or what was to come. -/
def Mix (tail xs tail' : List Blk) : Prop := tail'.length = tail.length ∧ ∀ (i : Nat) (x : Blk), tail'[i]? = some x → tail[i]? = some x ∨ xs[i]? = some x
theorem mix_entry {t j : Int} {bs : List UInt8} {tail tail' : List Blk} (ht : t ≤ 4294967295) (hj : 1 ≤ j ∧ j ≤ 4294967295) (hb : bs.length ≤ 40000) (hf : ∀ x ∈ tail, Fresh t x) (hm : Mix tail (leavesF t j bs) tail') (_hn : (leavesF t j bs).length ≤ tail.length) :
    (∃ rest, tail' = leavesF t j bs ++ rest ∧ ∀ x ∈ rest, Fresh t x) ∨ NoEntry t j tail' := by
  by_cases hp : leavesF t j bs <+: tail'
  · obtain ⟨rest, hr⟩ := hp
    refine .inl ⟨rest, hr.symm, fun x hx => ?_⟩
    obtain ⟨i, hi⟩ := List.getElem?_of_mem hx
    have h1 : tail'[(leavesF t j bs).length + i]? = some x := by rw [← hr, List.getElem?_append_right (by omega), show (leavesF t j bs).length + i - (leavesF t j bs).length = i from by omega]; exact hi
    rcases hm.2 _ _ h1 with h2 | h2
    · exact hf x (List.mem_of_getElem? h2)
    · rw [List.getElem?_eq_none (by omega)] at h2; cases h2
  · refine .inr fun bs' hb' ⟨rest, hr⟩ => hp ?_
    have key : ∀ i, i < secN bs'.length → (leavesF t j bs)[i]? = some (leafF t j bs' i) := fun i hi => by
      have h1 : tail'[i]? = some (leafF t j bs' i) := by rw [← hr, List.getElem?_append_left (by rw [leavesF_len]; exact hi)]; exact leaves_get t j bs' i hi
      rcases hm.2 _ _ h1 with h2 | h2
      · exact absurd rfl (hf _ (List.mem_of_getElem? h2) t j bs' i (Int.le_refl _) ht hj.1 hj.2)
      · exact h2
    have h0 := key 0 (secN_pos _)
    rw [leaves_get t j bs 0 (secN_pos _)] at h0
    have hlen : (bs.length : Int) = (bs'.length : Int) := be2_inj (by omega) (by omega) (leaf_parts (Option.some.inj h0)).2.2.1
    have hll : bs.length = bs'.length := by omega
    have he : leavesF t j bs = leavesF t j bs' := by
      apply List.ext_getElem?
      intro i
      by_cases hi : i < secN bs'.length
      · rw [key i hi, leaves_get t j bs' i hi]
      · rw [List.getElem?_eq_none (by rw [leavesF_len, hll]; omega), List.getElem?_eq_none (by rw [leavesF_len]; omega)]
    rw [he]; exact ⟨rest, hr⟩
theorem zero_entry {t j : Int} {tail tail' : List Blk} (ht : t ≤ 4294967295) (hj : 1 ≤ j ∧ j ≤ 4294967295) (hn : NoEntry t j tail) (hm : ∀ (i : Nat) (x : Blk), tail'[i]? = some x → tail[i]? = some x ∨ x = zB) : NoEntry t j tail' := by
  refine fun bs hb ⟨rest, hr⟩ => hn bs hb ?_
  have key : ∀ i, i < secN bs.length → tail[i]? = some (leafF t j bs i) := fun i hi => by
    have h1 : tail'[i]? = some (leafF t j bs i) := by rw [← hr, List.getElem?_append_left (by rw [leavesF_len]; exact hi)]; exact leaves_get t j bs i hi
    rcases hm _ _ h1 with h2 | h2
    · exact h2
    · exact absurd h2.symm (fresh_zero t t j bs i (Int.le_refl _) ht hj.1 hj.2)
  refine ⟨tail.drop (secN bs.length), ?_⟩
  have e : leavesF t j bs = tail.take (secN bs.length) := by
    apply List.ext_getElem?
    intro i
    rw [List.getElem?_take]
    by_cases hi : i < secN bs.length
    · rw [if_pos hi, key i hi, leaves_get t j bs i hi]
    · rw [if_neg hi, List.getElem?_eq_none (by rw [leavesF_len]; omega)]
  rw [e, List.take_append_drop]
/-- titles tell what they were made of. -/
theorem title_tells (t : Int) (n : Nat) (ht : 0 ≤ t ∧ t ≤ 4294967295) (hn : n ≤ 1000) : tellN (titleF t n) = n ∧ tellT (titleF t n) = t := by
  have h1 : (titleF t n).l.drop 4 = be 4 n ++ (be 4 t ++ (safeS ++ List.replicate 43 0)) := by
    rw [titleF, seal_drop (titleB_len _ _), titleB]; simp only [List.append_assoc]
  refine ⟨by rw [tellN, h1, u32B_be _ (by omega)], ?_⟩
  rw [tellT, h1, List.drop_left' (be_len _ _), u32B_be _ ht]
theorem title_cand {s : DS} {t : Int} {n : Nat} (ht : 0 ≤ t ∧ t ≤ 4294967295) (hn : 4 ≤ n ∧ n ≤ 1000) (hs : ((2 * n + 2 : Nat) : Int) ≤ s.size) {B : Bst} (hB : B.has = true → B.t < t) : candF s (t % 2).toNat (titleF t n) B = true := by
  obtain ⟨h1, h2⟩ := title_tells t n ht hn.2
  rw [candF, h1, h2, mayF]
  have h3 : (B.has = true → B.t < t) := hB
  cases hb : B.has with
  | false => simp; omega
  | true => have := h3 hb; simp [this]; omega
/-! counting -/
theorem cntR_up (s : DS) (hu : Up s) (h2 : 1 < s.size) : cntF s = (if (cntStep s 1 (holdsF s 1) (cntStep s 0 (holdsF s 0) ⟨false, 0, 0⟩)).has then (opD (opD s), 0, cntStep s 1 (holdsF s 1) (cntStep s 0 (holdsF s 0) ⟨false, 0, 0⟩)) else (opD (opD s), 140, ⟨false, 0, 0⟩)) := by
  have hu1 : Up (opD s) := ⟨hu.on, hu.fit⟩
  obtain ⟨a1, a2, a3⟩ := rd_up hu (k := ((0 : Nat) : Int)) (by omega)
  obtain ⟨b1, b2, b3⟩ := rd_up hu1 (k := ((1 : Nat) : Int)) (by show (0 : Int) ≤ 1 ∧ (1 : Int) < s.size; omega)
  rw [cntF, cntR, if_pos a1, a2, a3, cntR, if_pos b1, b2, b3, cntR]
  rfl
theorem cnt_able {s : DS} {n : Nat} {t : Int} {said : List (List UInt8)} {tail : List Blk} (h : LogOn s n t said tail) : cntF s = (opD (opD s), 0, ⟨true, n, t⟩) := by
  have hn := h.hn
  have hs := h.size
  obtain ⟨h1, h2⟩ := title_tells t n h.ht hn.2
  rw [cntR_up s h.up (by omega)]
  have hti := h.title
  have hot := h.other
  rcases (show (t % 2).toNat = 0 ∨ (t % 2).toNat = 1 by omega) with h0 | h0
  · rw [h0] at hti hot
    have e0 : cntStep s 0 (holdsF s 0) ⟨false, 0, 0⟩ = ⟨true, n, t⟩ := by
      have := title_cand (s := s) h.ht hn hs (B := ⟨false, 0, 0⟩) (fun h => by cases h)
      rw [h0] at this
      rw [cntStep, show holdsF s 0 = titleF t n from hti, if_pos this, h1, h2]
    have e1 : cntStep s 1 (holdsF s 1) ⟨true, n, t⟩ = ⟨true, n, t⟩ := by
      rw [cntStep, if_neg]
      intro hc
      rw [candF, Bool.and_eq_true] at hc
      have h3 := hot hc.1
      have h4 : t < tellT (holdsF s 1) := by simpa using hc.2
      have h5 : tellT (holdsF s ((1 - 0 : Nat) : Int)) = tellT (holdsF s 1) := rfl
      omega
    rw [e0, e1]; rfl
  · rw [h0] at hti hot
    obtain ⟨B, hB⟩ : ∃ B, B = cntStep s 0 (holdsF s 0) ⟨false, 0, 0⟩ := ⟨_, rfl⟩
    rw [← hB]
    have hBt : B.has = true → B.t < t := by
      rw [hB, cntStep]
      split
      · rename_i hc
        intro _
        rw [candF, Bool.and_eq_true] at hc
        exact hot hc.1
      · intro h; cases h
    have e1 : cntStep s 1 (holdsF s 1) B = ⟨true, n, t⟩ := by
      have := title_cand (s := s) h.ht hn hs (B := B) hBt
      rw [h0] at this
      rw [cntStep, show holdsF s 1 = titleF t n from hti, if_pos this, h1, h2]
    rw [e1]; rfl
/-! a field is read -/
theorem field_up (fr : Nat) : ∀ (k i : Nat) (s : DS), Up s → ((fr + i + k : Nat) : Int) ≤ s.size → (fieldW fr k i s).2.1 = 0 ∧ (fieldW fr k i s).2.2 = (List.range k).map (fun a => holdsF s ((fr + (i + a) : Nat) : Int)) ∧ Up (fieldW fr k i s).1 ∧ (fieldW fr k i s).1.loose = s.loose ∧ (fieldW fr k i s).1.size = s.size ∧ (fieldW fr k i s).1.arms = s.arms ∧ ∀ j, holdsF (fieldW fr k i s).1 j = holdsF s j
  | 0, i, s, hu, _ => ⟨rfl, rfl, hu, rfl, rfl, rfl, fun _ => rfl⟩
  | k + 1, i, s, hu, hs => by
    obtain ⟨a1, a2, a3⟩ := rd_up hu (k := ((fr + i : Nat) : Int)) (by omega)
    obtain ⟨b1, b2, b3, b4, b5, b6, b7⟩ := field_up fr k (i + 1) (opD s) ⟨hu.on, hu.fit⟩ (by show ((fr + (i + 1) + k : Nat) : Int) ≤ s.size; omega)
    rw [fieldW, if_pos a1, a2, a3]
    refine ⟨b1, ?_, b3, b4, b5, b6, b7⟩
    show holdsF s _ :: _ = _
    rw [b2, List.range_succ_eq_map, List.map_cons, List.map_map]
    congr 1
    apply List.map_congr_left
    intro a _
    show holdsF s _ = holdsF s _
    congr 2; omega
end Go.Proofs.YtlphkccfcodmcaaGreat

/- Package wal in plain words: appending, checkpoints, openings, wherever the power goes. -/
namespace Go.Proofs.YtlphkccfcodmcaaGreat
open Go Go.Wk
set_option maxRecDepth 100000

theorem over_ne {xs : List Blk} {k : Nat} {j : Int} (h : ∀ i, i < xs.length → j ≠ ((k + i : Nat) : Int)) (u : Blk) : (findB j (wrs k xs)).getD u = u := by
  refine over_out ?_ u
  by_cases h1 : j < (k : Int)
  · exact .inl h1
  · refine .inr ?_
    by_cases h2 : ((k + xs.length : Nat) : Int) ≤ j
    · exact h2
    · exact absurd (show j = ((k + (j - k).toNat : Nat) : Int) by omega) (h _ (by omega))
/-- what changes behind a log's end alone. -/
theorem LogOn.inner {s s' : DS} {n : Nat} {t : Int} {said : List (List UInt8)} {tail : List Blk} (h : LogOn s n t said tail) (hu : Up s') (hl : s'.loose = []) (hz : s'.size = s.size)
    (hh : ∀ j : Int, (∀ i, i < n → endF t said ≤ i → j ≠ ((fromN n t + i : Nat) : Int)) → holdsF s' j = holdsF s j) : LogOn s' n t said ((fieldOf s' (fromN n t) n).drop (endF t said)) := by
  have hb := from_bound t h.hn.2
  have hm := Int.emod_lt_of_pos t (show (0 : Int) < 2 by decide)
  have hm0 := Int.emod_nonneg t (show (2 : Int) ≠ 0 by decide)
  have hlen := h.len
  refine ⟨hu, hl, h.hn, by rw [hz]; exact h.size, h.ht, ?_, ?_, h.some_, h.short, ?_, ?_⟩
  · rw [hh _ (fun i _ _ => by omega)]; exact h.title
  · have := h.other
    unfold Below mayF at this ⊢
    rw [hz, hh _ (fun i _ _ => by omega)]; exact this
  · have e : (fieldOf s' (fromN n t) n).take (endF t said) = laidF t said 0 := by
      have h2 : (fieldOf s (fromN n t) n).take (endF t said) = laidF t said 0 := by rw [h.cur]; exact List.take_left' rfl
      rw [← h2]
      apply List.ext_getElem?
      intro i
      rw [List.getElem?_take, List.getElem?_take]
      by_cases hi : i < endF t said
      · rw [if_pos hi, if_pos hi, fieldOf_get _ _ _ _ (by omega), fieldOf_get _ _ _ _ (by omega), hh _ (fun a _ ha => by omega)]
      · rw [if_neg hi, if_neg hi]
    rw [← e, List.take_append_drop]
  · intro i hi
    rw [hh _ (fun a ha _ => by have := from_apart t ha hi; omega)]; exact h.oth i hi
theorem LogOn.snoc {s : DS} {n : Nat} {t : Int} {said : List (List UInt8)} {rest : List Blk} {bs : List UInt8} (h : LogOn s n t said (leavesF t (said.length : Nat) bs ++ rest)) (hb : bs.length ≤ 40000) : LogOn s n t (said ++ [bs]) rest where
  up := h.up
  loose := h.loose
  hn := h.hn
  size := h.size
  ht := h.ht
  title := h.title
  other := h.other
  some_ := by simp
  short := fun b hm => by
    rcases List.mem_append.1 hm with hm | hm
    · exact h.short b hm
    · obtain rfl := List.mem_singleton.1 hm; exact hb
  cur := by rw [laidF_snoc, List.append_assoc, Nat.zero_add]; exact h.cur
  oth := h.oth
/-- something is taken down. -/
theorem append_live {s : DS} {n : Nat} {t : Int} {said : List (List UInt8)} (h : Live s n t said) (bs : List UInt8) (hb : bs.length ≤ 40000) (hr : endF t said + secN bs.length ≤ n) :
    ((layF s ((fromN n t + endF t said : Nat) : Int) (leavesF t (said.length : Nat) bs)).2 = 0 ∧ Live (layF s ((fromN n t + endF t said : Nat) : Int) (leavesF t (said.length : Nat) bs)).1 n t (said ++ [bs]) ∧ (s.arms.on = false → (layF s ((fromN n t + endF t said : Nat) : Int) (leavesF t (said.length : Nat) bs)).1.arms.on = false)) ∨
    (s.arms.on = true ∧ (layF s ((fromN n t + endF t said : Nat) : Int) (leavesF t (said.length : Nat) bs)).2 = 9 ∧ (layF s ((fromN n t + endF t said : Nat) : Int) (leavesF t (said.length : Nat) bs)).1.out = true ∧ ∀ keep, Able (crashD keep (layF s ((fromN n t + endF t said : Nat) : Int) (leavesF t (said.length : Nat) bs)).1) n t said ∨ Able (crashD keep (layF s ((fromN n t + endF t said : Nat) : Int) (leavesF t (said.length : Nat) bs)).1) n t (said ++ [bs])) := by
  obtain ⟨tail, hL, hf⟩ := h
  have hfb := from_bound t hL.hn.2
  have hlen := hL.len
  have hsz := hL.size
  have hn := hL.hn
  have hfew := hL.few
  obtain ⟨xs, hxs⟩ : ∃ xs, xs = leavesF t (said.length : Nat) bs := ⟨_, rfl⟩
  have hxl : xs.length = secN bs.length := by rw [hxs, leavesF_len]
  rw [← hxs]
  have htl : ∀ i, i < tail.length → tail[i]? = some (holdsF s ((fromN n t + endF t said + i : Nat) : Int)) := fun i hi => by
    have h1 := fieldOf_get s (fromN n t) n (endF t said + i) (by omega)
    rw [hL.cur, List.getElem?_append_right (by unfold endF; omega), show endF t said + i - (laidF t said 0).length = i from by unfold endF; omega] at h1
    rw [h1]; congr 3; omega
  rcases lay_f xs s (fromN n t + endF t said) hL.up hL.loose (by omega) (by omega) with ⟨c1, c2, c3, c4, c5, c6⟩ | ⟨c0, c1, c2, c3, i, c4⟩
  · refine .inl ⟨c1, ?_, c5⟩
    have h1 := hL.inner c2 c3 c4 (fun j hj => by rw [c6, over_ne (fun i hi => by have := hj (endF t said + i) (by omega) (by omega); omega)])
    have h2 := field_over (n := n) (xs := xs) (k := endF t said) (by omega) c6
    have hk : ((fieldOf s (fromN n t) n).take (endF t said)).length = endF t said := by rw [List.length_take, fieldOf_len]; omega
    rw [h2, List.append_assoc, List.drop_left' hk, hL.cur] at h1
    subst hxs
    refine ⟨_, h1.snoc hb, fun x hx => hf x ?_⟩
    rw [List.drop_append, List.drop_of_length_le (by unfold endF; omega), List.nil_append] at hx
    exact List.mem_of_mem_drop hx
  · refine .inr ⟨c0, c1, c2, fun keep => ?_⟩
    obtain ⟨d1, d2, d3, d4, _⟩ := crash_any keep (layF s ((fromN n t + endF t said : Nat) : Int) xs).1
    have hcl := fun j => crash_lay keep hL.loose c3 c4 j
    have h1 := hL.inner d1 d2 (d3.trans c3.size) (fun j hj => by
      rcases hcl j with e | ⟨m, e1, e2⟩
      · exact e
      · have hm := (List.getElem?_eq_some_iff.1 e2).1
        exact absurd (e1.trans (by congr 1; omega)) (hj (endF t said + m) (by omega) (by omega)))
    obtain ⟨tail', ht'⟩ : ∃ tail', tail' = (fieldOf (crashD keep (layF s ((fromN n t + endF t said : Nat) : Int) xs).1) (fromN n t) n).drop (endF t said) := ⟨_, rfl⟩
    rw [← ht'] at h1
    have hlen' := h1.len
    have hmix : Mix tail xs tail' := by
      refine ⟨by omega, fun a x hx => ?_⟩
      have ha : a < tail'.length := (List.getElem?_eq_some_iff.1 hx).1
      rw [ht', List.getElem?_drop, fieldOf_get _ _ _ _ (by omega)] at hx
      obtain rfl := Option.some.inj hx
      rcases hcl ((fromN n t + (endF t said + a) : Nat) : Int) with e | ⟨m, e1, e2⟩
      · rw [e, htl a (by omega)]; left; congr 3; omega
      · right; rw [← e2]; congr 1; omega
    rw [hxs] at hmix
    rcases mix_entry hL.ht.2 (by omega) hb hf hmix (by rw [← hxs]; omega) with ⟨rest, e, hr'⟩ | hne
    · rw [e] at h1
      exact .inr (Live.able ⟨rest, h1.snoc hb, hr'⟩)
    · refine .inl ⟨tail', h1, hne, fun x hx => ?_⟩
      obtain ⟨a, ha⟩ := List.getElem?_of_mem hx
      rcases hmix.2 a x ha with h2 | h2
      · exact (hf x (List.mem_of_getElem? h2)).mono (by omega)
      · have hm : a < secN bs.length := by have := (List.getElem?_eq_some_iff.1 h2).1; rw [leavesF_len] at this; exact this
        rw [leaves_get t _ bs a hm] at h2
        rw [← Option.some.inj h2]
        exact fresh_old _ t _ bs a hL.ht (by omega)
/-- what changes in the other field alone. -/
theorem LogOn.outer {s s' : DS} {n : Nat} {t : Int} {said : List (List UInt8)} {tail : List Blk} (h : LogOn s n t said tail) (hu : Up s') (hl : s'.loose = []) (hz : s'.size = s.size)
    (hh : ∀ j : Int, (∀ i, i < n → j ≠ ((fromN n (t + 1) + i : Nat) : Int)) → holdsF s' j = holdsF s j) (ho : ∀ i, i < n → Fresh (t + 1) (holdsF s' ((fromN n (t + 1) + i : Nat) : Int))) : LogOn s' n t said tail := by
  have hb := from_bound (t + 1) h.hn.2
  have hm := Int.emod_lt_of_pos t (show (0 : Int) < 2 by decide)
  have hm0 := Int.emod_nonneg t (show (2 : Int) ≠ 0 by decide)
  refine ⟨hu, hl, h.hn, by rw [hz]; exact h.size, h.ht, ?_, ?_, h.some_, h.short, ?_, ho⟩
  · rw [hh _ (fun i _ => by omega)]; exact h.title
  · have := h.other
    unfold Below mayF at this ⊢
    rw [hz, hh _ (fun i _ => by omega)]; exact this
  · rw [fieldOf_eq fun i hi => hh _ (fun a ha => by have := from_apart t hi ha; omega)]; exact h.cur
theorem laid_mem {t : Int} {x : Blk} : ∀ {said : List (List UInt8)} {j : Nat}, x ∈ laidF t said j → ∃ j' b k, x = leafF t j' b k
  | [], _, h => by cases h
  | b :: l, j, h => by
    rw [laidF] at h
    rcases List.mem_append.1 h with h | h
    · rw [leavesF] at h
      obtain ⟨k, _, hk⟩ := List.mem_map.1 h
      exact ⟨_, b, k, hk.symm⟩
    · exact laid_mem h
/-- the next book's title stands. -/
theorem LogOn.turned {s s' : DS} {n : Nat} {t : Int} {said : List (List UInt8)} {tail rest : List Blk} {bs : List UInt8} (h : LogOn s n t said tail) (hf : ∀ x ∈ tail, Fresh (t + 2) x) (hb : bs.length ≤ 40000) (ht : t + 1 ≤ 4294967295)
    (hcur : fieldOf s (fromN n (t + 1)) n = leavesF (t + 1) 0 bs ++ rest) (hu : Up s') (hl : s'.loose = []) (hz : s'.size = s.size) (hti : holdsF s' (((t + 1) % 2).toNat : Int) = titleF (t + 1) n) (hh : ∀ j : Int, j ≠ (((t + 1) % 2).toNat : Int) → holdsF s' j = holdsF s j) : LogOn s' n (t + 1) [bs] rest := by
  have hfb := from_bound (t + 1) h.hn.2
  have hfa := from_bound t h.hn.2
  have h0 := h.ht
  have hm : ((t + 1) % 2).toNat = 1 - (t % 2).toNat ∧ 1 - ((t + 1) % 2).toNat = (t % 2).toNat := by omega
  refine ⟨hu, hl, h.hn, by rw [hz]; exact h.size, by omega, hti, ?_, by simp, fun b hm => by obtain rfl := List.mem_singleton.1 hm; exact hb, ?_, fun i hi => ?_⟩
  · rw [hm.2, hh _ (by omega), h.title]
    intro _
    rw [(title_tells t n h.ht h.hn.2).2]; omega
  · rw [fieldOf_eq fun i hi => hh _ (by omega), hcur, laidF, laidF, List.append_nil]; rfl
  · rw [from_two, hh _ (by omega)]
    have hmem : holdsF s ((fromN n t + i : Nat) : Int) ∈ laidF t said 0 ++ tail := by rw [← h.cur]; exact List.mem_of_getElem? (fieldOf_get s (fromN n t) n i hi)
    rw [show t + 1 + 1 = t + 2 from by omega]
    rcases List.mem_append.1 hmem with hm | hm
    · obtain ⟨j', b, k, e⟩ := laid_mem hm
      rw [e]; exact fresh_old _ t _ b k h.ht (by omega)
    · exact hf _ hm
/-- a checkpoint. -/
theorem chk_live {s : DS} {n : Nat} {t : Int} {said : List (List UInt8)} (h : Live s n t said) (bs : List UInt8) (hb : bs.length ≤ 40000) (hr : secN bs.length ≤ n) (ht : t + 1 ≤ 4294967295) :
    ((begF n (t + 1) bs s).2 = 0 ∧ Live (begF n (t + 1) bs s).1 n (t + 1) [bs] ∧ (s.arms.on = false → (begF n (t + 1) bs s).1.arms.on = false)) ∨
    (s.arms.on = true ∧ (begF n (t + 1) bs s).2 = 9 ∧ (begF n (t + 1) bs s).1.out = true ∧ ∀ keep, Able (crashD keep (begF n (t + 1) bs s).1) n t said ∨ Able (crashD keep (begF n (t + 1) bs s).1) n (t + 1) [bs]) := by
  obtain ⟨tail, hL, hf⟩ := h
  have hfb := from_bound (t + 1) hL.hn.2
  have hsz := hL.size
  have hn := hL.hn
  obtain ⟨xs, hxs⟩ : ∃ xs, xs = leavesF (t + 1) 0 bs := ⟨_, rfl⟩
  have hxl : xs.length = secN bs.length := by rw [hxs, leavesF_len]
  have hfx : ∀ m x, xs[m]? = some x → Fresh (t + 1) x := fun m x hx => by
    have hm : m < secN bs.length := by have := (List.getElem?_eq_some_iff.1 hx).1; omega
    rw [hxs, leaves_get _ _ bs m hm] at hx
    rw [← Option.some.inj hx]; exact fresh_zeroth _ _ bs m
  have hft : ∀ x ∈ tail, Fresh (t + 2) x := fun x hx => (hf x hx).mono (by omega)
  have hbeg : begF n (t + 1) bs s = if (layF s (fromN n (t + 1) : Nat) xs).2 = 0 then layF (layF s (fromN n (t + 1) : Nat) xs).1 (((t + 1) % 2).toNat : Nat) [titleF (t + 1) n] else layF s (fromN n (t + 1) : Nat) xs := by rw [hxs]; rfl
  rcases lay_f xs s (fromN n (t + 1)) hL.up hL.loose (by omega) (by omega) with ⟨c1, c2, c3, c4, c5, c6⟩ | ⟨c0, c1, c2, c3, i, c4⟩
  · rw [hbeg, if_pos c1]
    obtain ⟨s1, hs1⟩ : ∃ s1, s1 = (layF s (fromN n (t + 1) : Nat) xs).1 := ⟨_, rfl⟩
    rw [← hs1] at c2 c3 c4 c5 c6 ⊢
    have hL1 : LogOn s1 n t said tail := hL.outer c2 c3 c4 (fun j hj => by rw [c6, over_ne (fun i hi => hj i (by omega))]) (fun i hi => by
      rw [c6]
      by_cases h1 : i < xs.length
      · rw [over_in h1, List.getElem?_eq_getElem h1]; exact hfx i _ (List.getElem?_eq_getElem h1)
      · rw [over_out (.inr (by omega))]; exact hL.oth i hi)
    have hcur : fieldOf s1 (fromN n (t + 1)) n = xs ++ (fieldOf s (fromN n (t + 1)) n).drop xs.length := by
      have := field_over (s := s) (s' := s1) (fr := fromN n (t + 1)) (n := n) (k := 0) (xs := xs) (by omega) (fun j => by rw [c6]; rfl)
      rw [this, List.take_zero, List.nil_append, Nat.zero_add]
    have hrest : ∀ x ∈ (fieldOf s (fromN n (t + 1)) n).drop xs.length, Fresh (t + 1) x := fun x hx => by
      obtain ⟨i, hi⟩ := List.getElem?_of_mem (List.mem_of_mem_drop hx)
      have hi2 : i < n := by have := (List.getElem?_eq_some_iff.1 hi).1; rw [fieldOf_len] at this; exact this
      rw [fieldOf_get _ _ _ _ hi2] at hi
      rw [← Option.some.inj hi]; exact hL.oth i hi2
    have hm2 : ((t + 1) % 2).toNat < 2 := by omega
    rcases lay_f [titleF (t + 1) n] s1 ((t + 1) % 2).toNat c2 c3 (by omega) (by simp only [List.length_singleton]; omega) with ⟨e1, e2, e3, e4, e5, e6⟩ | ⟨e0, e1, e2, e3, i, e4⟩
    · refine .inl ⟨e1, ⟨_, hL1.turned hft hb ht (by rw [← hxs]; exact hcur) e2 e3 e4 ?_ ?_, hrest⟩, fun h => e5 (c5 h)⟩
      · have := over_in (xs := [titleF (t + 1) n]) (k := ((t + 1) % 2).toNat) (i := 0) (by simp) (holdsF s1 ((((t + 1) % 2).toNat : Nat) : Int))
        rw [e6]; exact this
      · intro j hj
        rw [e6, over_ne (fun i hi => by have : i = 0 := by simpa using hi
                                        subst this; exact hj)]
    · refine .inr ⟨?_, e1, e2, fun keep => ?_⟩
      · cases hx : s.arms.on with
        | true => rfl
        | false => rw [c5 hx] at e0; cases e0
      · obtain ⟨d1, d2, d3, d4, _⟩ := crash_any keep (layF s1 (((t + 1) % 2).toNat : Nat) [titleF (t + 1) n]).1
        have hcl := fun j => crash_lay keep c3 e3 e4 j
        have hne : ∀ j : Int, j ≠ (((t + 1) % 2).toNat : Int) → holdsF (crashD keep (layF s1 (((t + 1) % 2).toNat : Nat) [titleF (t + 1) n]).1) j = holdsF s1 j := fun j hj => by
          rcases hcl j with e | ⟨m, q1, q2⟩
          · exact e
          · have hm : m = 0 := by have := (List.getElem?_eq_some_iff.1 q2).1; simpa using this
            subst hm; exact absurd q1 hj
        rcases hcl (((t + 1) % 2).toNat : Int) with e | ⟨m, q1, q2⟩
        · refine .inl (Live.able ⟨tail, hL1.same d1 d2 (d3.trans e3.size) (fun j => ?_), hf⟩)
          by_cases hj : j = (((t + 1) % 2).toNat : Int)
          · rw [hj]; exact e
          · exact hne j hj
        · have hm : m = 0 := by have := (List.getElem?_eq_some_iff.1 q2).1; simpa using this
          subst hm
          exact .inr (Live.able ⟨_, hL1.turned hft hb ht (by rw [← hxs]; exact hcur) d1 d2 (d3.trans e3.size) (Option.some.inj q2).symm hne, hrest⟩)
  · rw [hbeg, if_neg (by rw [c1]; decide)]
    refine .inr ⟨c0, c1, c2, fun keep => .inl ?_⟩
    obtain ⟨d1, d2, d3, d4, _⟩ := crash_any keep (layF s (fromN n (t + 1) : Nat) xs).1
    have hcl := fun j => crash_lay keep hL.loose c3 c4 j
    refine Live.able ⟨tail, hL.outer d1 d2 (d3.trans c3.size) (fun j hj => ?_) (fun i hi => ?_), hf⟩
    · rcases hcl j with e | ⟨m, q1, q2⟩
      · exact e
      · have hm := (List.getElem?_eq_some_iff.1 q2).1
        exact absurd q1 (hj m (by omega))
    · rcases hcl ((fromN n (t + 1) + i : Nat) : Int) with e | ⟨m, q1, q2⟩
      · rw [e]; exact hL.oth i hi
      · exact hfx m _ q2
end Go.Proofs.YtlphkccfcodmcaaGreat

/- Package wal in plain words: openings, a new log. -/
namespace Go.Proofs.YtlphkccfcodmcaaGreat
open Go Go.Wk
set_option maxRecDepth 100000

theorem find_zero {j : Int} : ∀ {ws : List LWr}, (∀ y ∈ ws, y.b = zB) → (findB j ws).getD zB = zB ∧ ((∃ y ∈ ws, y.at_ = j) → findB j ws = some zB) ∧ ((∀ y ∈ ws, y.at_ ≠ j) → findB j ws = none)
  | [], _ => ⟨rfl, fun ⟨_, h, _⟩ => by (cases h), fun _ => rfl⟩
  | x :: l, h => by
    obtain ⟨h1, h2, h3⟩ := find_zero (j := j) (ws := l) (fun y hy => h y (by simp [hy]))
    have hx := h x (by simp)
    rw [findB]
    by_cases e : x.at_ = j
    · rw [if_pos e, hx]
      refine ⟨?_, fun _ => ?_, fun hn => absurd e (hn x (by simp))⟩
      · cases hf : findB j l with
        | none => rfl
        | some u => rw [hf] at h1; exact h1
      · cases hf : findB j l with
        | none => rfl
        | some u => rw [hf] at h1; show some u = some zB; rw [show u = zB from h1]
    · rw [if_neg e, Option.or_none]
      refine ⟨h1, fun ⟨y, hy, he⟩ => ?_, fun hn => h3 fun y hy => hn y (by simp [hy])⟩
      rcases List.mem_cons.1 hy with rfl | hy
      · exact absurd he e
      · exact h2 ⟨y, hy, he⟩
theorem blk_zero {x : Blk} (h : x.l = zB.l) : x = zB := Blk.ext' h
/-- noughts are laid, or the power goes. -/
theorem clr_w (fr : Nat) : ∀ (xs : List Blk) (i : Nat) (sy : Bool) (s : DS), Up s → ((fr + i + xs.length : Nat) : Int) ≤ s.size →
    Alike s (clrW fr xs i sy s).1 ∧ ∃ ws : List LWr, (clrW fr xs i sy s).1.loose = s.loose ++ ws ∧ (∀ y ∈ ws, y.b = zB ∧ ∃ m, m < xs.length ∧ y.at_ = ((fr + i + m : Nat) : Int)) ∧
      (((clrW fr xs i sy s).2.1 = 0 ∧ (clrW fr xs i sy s).1.out = false ∧ (s.arms.on = false → (clrW fr xs i sy s).1.arms.on = false) ∧ (∀ (m : Nat) (x : Blk), xs[m]? = some x → x = zB ∨ ∃ y ∈ ws, y.at_ = ((fr + i + m : Nat) : Int)) ∧ (clrW fr xs i sy s).2.2 = (sy || !ws.isEmpty)) ∨
       (s.arms.on = true ∧ (clrW fr xs i sy s).2.1 = 9 ∧ (clrW fr xs i sy s).1.out = true))
  | [], i, sy, s, hu, _ => by
    rw [clrW]
    exact ⟨⟨rfl, rfl, rfl⟩, [], by simp, fun y hy => by (cases hy), .inl ⟨rfl, hu.on, id, fun m x h => by (simp at h), by simp⟩⟩
  | x :: xs, i, sy, s, hu, hs => by
    simp only [List.length_cons] at hs
    rw [clrW]
    by_cases hz : x.l = zB.l
    · rw [if_pos hz]
      obtain ⟨ha, ws, hw, hy, hc⟩ := clr_w fr xs (i + 1) sy s hu (by omega)
      refine ⟨ha, ws, hw, fun y h => ⟨(hy y h).1, ?_⟩, ?_⟩
      · obtain ⟨m, h1, h2⟩ := (hy y h).2
        exact ⟨m + 1, by simp only [List.length_cons]; omega, by rw [h2]; congr 1; omega⟩
      · rcases hc with ⟨c1, c2, c3, c4, c5⟩ | hc
        · refine .inl ⟨c1, c2, c3, fun m u h => ?_, c5⟩
          cases m with
          | zero => obtain rfl : x = u := by simpa using h
                    exact .inl (blk_zero hz)
          | succ m =>
            rcases c4 m u (by simpa using h) with h1 | ⟨y, h1, h2⟩
            · exact .inl h1
            · exact .inr ⟨y, h1, by rw [h2]; congr 1; omega⟩
        · exact .inr hc
    · rw [if_neg hz]
      rcases asked_up hu (k := ((fr + i : Nat) : Int)) (by omega) (fun s => writeD s ((fr + i : Nat) : Int) zB) with ⟨h1, h2, h3⟩ | ⟨h1, h2, h3⟩
      · rw [if_pos h2]
        have e : wrD s ((fr + i : Nat) : Int) zB = opD (writeD { s with arms := (metF s.arms).2 } ((fr + i : Nat) : Int) zB) := h3
        have hu1 : Up (wrD s ((fr + i : Nat) : Int) zB) := by rw [e]; exact ⟨hu.on, hu.fit⟩
        have hs1 : (wrD s ((fr + i : Nat) : Int) zB).size = s.size := by rw [e]; rfl
        have hl : (wrD s ((fr + i : Nat) : Int) zB).loose = s.loose ++ [⟨((fr + i : Nat) : Int), zB⟩] := by rw [e]; rfl
        have harm : s.arms.on = false → (wrD s ((fr + i : Nat) : Int) zB).arms.on = false := fun h => by rw [e]; exact met_stays h
        obtain ⟨ha, ws, hw, hy, hc⟩ := clr_w fr xs (i + 1) true (wrD s ((fr + i : Nat) : Int) zB) hu1 (by rw [hs1]; omega)
        refine ⟨⟨ha.size.trans hs1, ha.fails.trans (by rw [e]; rfl), ha.firm.trans (by rw [e]; rfl)⟩, ⟨((fr + i : Nat) : Int), zB⟩ :: ws, by rw [hw, hl, List.append_assoc]; rfl, fun y h => ?_, ?_⟩
        · rcases List.mem_cons.1 h with rfl | h
          · exact ⟨rfl, 0, by simp, rfl⟩
          · obtain ⟨m, q1, q2⟩ := (hy y h).2
            exact ⟨(hy y h).1, m + 1, by simp only [List.length_cons]; omega, by rw [q2]; congr 1; omega⟩
        · rcases hc with ⟨c1, c2, c3, c4, c5⟩ | ⟨c0, c1, c2⟩
          · refine .inl ⟨c1, c2, fun h => c3 (harm h), fun m u h => ?_, by rw [c5]; simp⟩
            cases m with
            | zero => exact .inr ⟨_, List.mem_cons_self .., rfl⟩
            | succ m =>
              rcases c4 m u (by simpa using h) with h1 | ⟨y, h1, h2⟩
              · exact .inl h1
              · exact .inr ⟨y, List.mem_cons_of_mem _ h1, by rw [h2]; congr 1; omega⟩
          · refine .inr ⟨?_, c1, c2⟩
            cases hx : s.arms.on with
            | true => rfl
            | false => rw [harm hx] at c0; cases c0
      · rw [if_neg (by rw [h2]; decide)]
        have e : wrD s ((fr + i : Nat) : Int) zB = { s with arms := (metF s.arms).2, out := true } := h3
        refine ⟨by rw [e]; exact ⟨rfl, rfl, rfl⟩, [], by rw [e]; simp, fun y hy => by (cases hy), .inr ⟨?_, h2, by rw [e]⟩⟩
        cases hx : s.arms.on with
        | true => rfl
        | false => rw [hit_off hx] at h1; cases h1
/-- what an opening comes to. -/
theorem open_reads {s : DS} {n : Nat} {t : Int} {said : List (List UInt8)} {tail : List Blk} (h : LogOn s n t said tail) (hn : NoEntry t (said.length : Nat) tail) :
    ∃ s3, Up s3 ∧ s3.loose = [] ∧ s3.size = s.size ∧ s3.arms = s.arms ∧ (∀ j, holdsF s3 j = holdsF s j) ∧ LogOn s3 n t said tail ∧ openF s = if (clrR (clrW (fromN n t) tail (endF t said) false s3)).2 = 0 then ((clrR (clrW (fromN n t) tail (endF t said) false s3)).1, 0, ⟨n, t, said, endF t said⟩) else ((clrR (clrW (fromN n t) tail (endF t said) false s3)).1, (clrR (clrW (fromN n t) tail (endF t said) false s3)).2, noOW) := by
  have hb := from_bound t h.hn.2
  have hsz := h.size
  obtain ⟨b1, b2, b3, b4, b5, b6, b7⟩ := field_up (fromN n t) n 0 (opD (opD s)) ⟨h.up.on, h.up.fit⟩ (by show ((fromN n t + 0 + n : Nat) : Int) ≤ s.size; omega)
  have hf : (fieldW (fromN n t) n 0 (opD (opD s))).2.2 = laidF t said 0 ++ tail := by
    rw [b2, ← h.cur, fieldOf]
    apply List.map_congr_left
    intro a _
    show holdsF s _ = _
    rw [Nat.zero_add]
  have hrd : readF t (laidF t said 0 ++ tail) (laidF t said 0 ++ tail).length 0 0 = (said, endF t said) := by
    have := readF_laid tail said [] 0 (laidF t said 0 ++ tail).length h.short (by rw [List.length_append]; exact Nat.le_refl _) (by rw [Nat.zero_add]; exact hn)
    simpa [endF] using this
  refine ⟨(fieldW (fromN n t) n 0 (opD (opD s))).1, b3, b4.trans h.loose, b5, b6, b7, h.same b3 (b4.trans h.loose) b5 b7, ?_⟩
  have hl0 : (fieldW (fromN n t) n 0 (opD (opD s))).1.loose = [] := b4.trans h.loose
  rw [openF, cnt_able h]
  show (if (0 : Int) = 0 then openB ((n : Int).toNat) t (opD (opD s)) else _) = _
  rw [if_pos rfl, Int.toNat_natCast, openB, if_pos b1, hf, openC, hrd]
  simp only []
  rw [if_neg h.some_, clrF, hl0, show (laidF t said 0 ++ tail).drop (endF t said) = tail from List.drop_left' rfl]
  rfl
theorem open_able {s : DS} {n : Nat} {t : Int} {said : List (List UInt8)} (h : Able s n t said) :
    ((openF s).2.1 = 0 ∧ Clean (openF s).1 n t said ∧ (openF s).2.2 = ⟨n, t, said, endF t said⟩ ∧ (s.arms.on = false → (openF s).1.arms.on = false)) ∨
    (s.arms.on = true ∧ (openF s).2.1 = 9 ∧ (openF s).1.out = true ∧ ∀ keep, Able (crashD keep (openF s).1) n t said) := by
  obtain ⟨tail, hL, hno, hfr⟩ := h
  obtain ⟨s3, u3, l3, z3, a3, h3, hL3, ho⟩ := open_reads hL hno
  have hb := from_bound t hL.hn.2
  have hsz := hL3.size
  have hlen := hL.len
  have hfew := hL.few
  have hn := hL.hn
  have htl : ∀ i, i < tail.length → tail[i]? = some (holdsF s3 ((fromN n t + endF t said + i : Nat) : Int)) := fun i hi => by
    have h1 := fieldOf_get s3 (fromN n t) n (endF t said + i) (by omega)
    rw [hL3.cur, List.getElem?_append_right (by unfold endF; omega), show endF t said + i - (laidF t said 0).length = i from by unfold endF; omega] at h1
    rw [h1]; congr 3; omega
  obtain ⟨ha, ws, hw, hy, hc⟩ := clr_w (fromN n t) tail (endF t said) false s3 u3 (by omega)
  rw [l3, List.nil_append] at hw
  -- what is cut on the way
  have cut : ∀ (r : DS) (keep : List Bool), Alike s3 r → r.loose = ws → Able (crashD keep r) n t said := fun r keep har hrl => by
    obtain ⟨d1, d2, d3, d4, d5⟩ := crash_any keep r
    have hj : ∀ j, holdsF (crashD keep r) j = holdsF s3 j ∨ ∃ m, m < tail.length ∧ j = ((fromN n t + endF t said + m : Nat) : Int) ∧ holdsF (crashD keep r) j = zB := fun j => by
      rcases d5 j with e | ⟨y, q1, q2, q3⟩
      · rw [e, har.firm, holds_firm l3]; exact .inl rfl
      · rw [hrl] at q1
        obtain ⟨p1, m, p2, p3⟩ := hy y q1
        exact .inr ⟨m, p2, q2.symm.trans p3, by rw [q3, p1]⟩
    have h1 := hL3.inner d1 d2 (d3.trans har.size) (fun j hj2 => by
      rcases hj j with e | ⟨m, q1, q2, _⟩
      · exact e
      · exact absurd (q2.trans (by congr 1; omega)) (hj2 (endF t said + m) (by omega) (by omega)))
    have hmix : ∀ (i : Nat) (x : Blk), ((fieldOf (crashD keep r) (fromN n t) n).drop (endF t said))[i]? = some x → tail[i]? = some x ∨ x = zB := fun i x hx => by
      have hi : i < tail.length := by
        have := (List.getElem?_eq_some_iff.1 hx).1
        rw [List.length_drop, fieldOf_len] at this; omega
      rw [List.getElem?_drop, fieldOf_get _ _ _ _ (by omega)] at hx
      obtain rfl := Option.some.inj hx
      rcases hj ((fromN n t + (endF t said + i) : Nat) : Int) with e | ⟨_, _, _, e⟩
      · rw [e, htl i hi]; left; congr 3; omega
      · exact .inr e
    refine ⟨_, h1, zero_entry hL.ht.2 (by omega) hno hmix, fun x hx => ?_⟩
    obtain ⟨i, hi⟩ := List.getElem?_of_mem hx
    rcases hmix i x hi with h2 | h2
    · exact hfr x (List.mem_of_getElem? h2)
    · rw [h2]; exact fresh_zero _
  -- what an opening that is not cut leaves
  have done : ∀ (r : DS), Up r → r.loose = [] → r.size = s3.size → (∀ j, holdsF r j = (findB j ws).getD (holdsF s3 j)) → (∀ (m : Nat) (x : Blk), tail[m]? = some x → x = zB ∨ ∃ y ∈ ws, y.at_ = ((fromN n t + endF t said + m : Nat) : Int)) → Clean r n t said := fun r hur hlr hzr hhr hall => by
    have h1 := hL3.inner hur hlr hzr (fun j hj2 => by
      rw [hhr, (find_zero (j := j) fun y hyy => (hy y hyy).1).2.2 (fun y hyy e => by
        obtain ⟨_, m, p2, p3⟩ := hy y hyy
        exact hj2 (endF t said + m) (by omega) (by omega) (e.symm.trans (p3.trans (by congr 1; omega))))]; rfl)
    refine ⟨tail.length, ?_⟩
    have e : (fieldOf r (fromN n t) n).drop (endF t said) = List.replicate tail.length zB := by
      apply List.ext_getElem?
      intro i
      rw [List.getElem?_drop, List.getElem?_replicate]
      by_cases hi : i < tail.length
      · rw [if_pos hi, fieldOf_get _ _ _ _ (by omega), hhr]
        rcases hall i _ (htl i hi) with q | ⟨y, q1, q2⟩
        · congr 1
          have hz := find_zero (j := ((fromN n t + (endF t said + i) : Nat) : Int)) fun y hyy => (hy y hyy).1
          rw [show (fromN n t + (endF t said + i) : Nat) = fromN n t + endF t said + i from by omega, q, ← show (fromN n t + (endF t said + i) : Nat) = fromN n t + endF t said + i from by omega]
          exact hz.1
        · congr 1
          rw [(find_zero fun y hyy => (hy y hyy).1).2.1 ⟨y, q1, q2.trans (by congr 1; omega)⟩]; rfl
      · rw [if_neg hi, List.getElem?_eq_none (by rw [fieldOf_len]; omega)]
    rw [e] at h1
    exact h1
  rcases hc with ⟨c1, c2, c3, c4, c5⟩ | ⟨c0, c1, c2⟩
  · have hur : Up (clrW (fromN n t) tail (endF t said) false s3).1 := ⟨c2, by rw [ha.fails]; exact u3.fit⟩
    cases hws : ws.isEmpty with
    | true =>
      have hw0 : ws = [] := List.isEmpty_iff.1 hws
      have hr : clrR (clrW (fromN n t) tail (endF t said) false s3) = ((clrW (fromN n t) tail (endF t said) false s3).1, 0) := by
        rw [clrR, if_pos c1, c5, hws, if_neg (by simp)]
      rw [ho, hr, if_pos rfl]
      refine .inl ⟨rfl, done _ hur (by rw [hw, hw0]) ha.size (fun j => ?_) c4, rfl, fun h => c3 (by rw [a3]; exact h)⟩
      rw [hw0, holds_firm (by rw [hw, hw0]), ha.firm, holds_firm l3]; rfl
    | false =>
      have hr : clrR (clrW (fromN n t) tail (endF t said) false s3) = (syD (clrW (fromN n t) tail (endF t said) false s3).1, askE (clrW (fromN n t) tail (endF t said) false s3).1 0 true) := by
        rw [clrR, if_pos c1, c5, hws, if_pos (by simp)]
      rcases sy_up hur (by rw [ha.size, z3]; have := hL.size; omega) with ⟨d1, d2, d3, d4, d5, d6, d7⟩ | ⟨d0, d1, d2, d3, d4⟩
      · rw [ho, hr, if_pos d1]
        refine .inl ⟨rfl, done _ ⟨d2, by rw [d6]; exact hur.fit⟩ d3 (d5.trans ha.size) (fun j => ?_) c4, rfl, fun h => d7 (c3 (by rw [a3]; exact h))⟩
        show holdsF (syD _) j = _
        rw [d4, holdsF, hw, ha.firm, holds_firm l3]
        cases findB j ws <;> rfl
      · rw [ho, hr, if_neg (by rw [d1]; show ¬ (9 : Int) = 0; decide)]
        refine .inr ⟨?_, d1, d2, fun keep => cut _ keep ⟨d4.size.trans ha.size, d4.fails.trans ha.fails, d4.firm.trans ha.firm⟩ (d3.trans hw)⟩
        cases hx : s.arms.on with
        | true => rfl
        | false => rw [c3 (by rw [a3]; exact hx)] at d0; cases d0
  · have hr : clrR (clrW (fromN n t) tail (endF t said) false s3) = ((clrW (fromN n t) tail (endF t said) false s3).1, 9) := by
      rw [clrR, if_neg (by rw [c1]; decide), c1]
    rw [ho, hr, if_neg (by show ¬ (9 : Int) = 0; decide)]
    exact .inr ⟨by rw [← a3]; exact c0, rfl, c2, fun keep => cut _ keep ha hw⟩
/-- a new log. -/
theorem format_live (n : Nat) (hn : 4 ≤ n ∧ n ≤ 1000) : (fmtF n (newD ((2 * n + 2 : Nat) : Int))).2 = 0 ∧ Live (fmtF n (newD ((2 * n + 2 : Nat) : Int))).1 n 0 [[]] ∧ (fmtF n (newD ((2 * n + 2 : Nat) : Int))).1.arms.on = false := by
  obtain ⟨s0, hs0⟩ : ∃ s0, s0 = newD ((2 * n + 2 : Nat) : Int) := ⟨_, rfl⟩
  rw [← hs0]
  have hu0 : Up s0 := by rw [hs0]; exact ⟨rfl, rfl⟩
  have hz0 : s0.size = ((2 * n + 2 : Nat) : Int) := by rw [hs0]; rfl
  have ha0 : s0.arms.on = false := by rw [hs0]; rfl
  have hh0 : ∀ j, holdsF s0 j = zB := fun j => by rw [hs0]; rfl
  have off : ∀ {s : DS}, s.arms.on = false → ¬ s.arms.on = true := fun h h2 => by rw [h] at h2; cases h2
  rcases lay_f (List.replicate (2 * n + 2) zB) s0 0 hu0 (by rw [hs0]; rfl) (by omega) (by rw [List.length_replicate]; omega) with ⟨c1, c2, c3, c4, c5, c6⟩ | ⟨c0, _⟩
  · replace c1 : (layF s0 0 (List.replicate (2 * n + 2) zB)).2 = 0 := c1
    have hfm : fmtF n s0 = begF n 0 [] (layF s0 0 (List.replicate (2 * n + 2) zB)).1 := by rw [fmtF, if_pos c1]
    rw [hfm]
    obtain ⟨s1, hs1⟩ : ∃ s1, s1 = (layF s0 0 (List.replicate (2 * n + 2) zB)).1 := ⟨_, rfl⟩
    replace c2 : Up s1 := by rw [hs1]; exact c2
    replace c3 : s1.loose = [] := by rw [hs1]; exact c3
    replace c4 : s1.size = s0.size := by rw [hs1]; exact c4
    replace c5 : s1.arms.on = false := by rw [hs1]; exact c5 ha0
    have hh1 : ∀ j, holdsF s1 j = zB := fun j => by
      rw [hs1]
      have := c6 j
      rw [hh0, wrs_find] at this
      refine Eq.trans this ?_
      split
      · rw [List.getElem?_replicate]; split <;> rfl
      · rfl
    rw [← hs1]
    have hxl : (leavesF 0 0 []).length = 1 := rfl
    rcases lay_f (leavesF 0 0 []) s1 2 c2 c3 (by omega) (by rw [hxl]; omega) with ⟨d1, d2, d3, d4, d5, d6⟩ | ⟨d0, _⟩
    · have h2n : fromN n 0 = 2 := by simp [fromN]
      replace d1 : (layF s1 ((2 : Nat) : Int) (leavesF 0 0 [])).2 = 0 := d1
      have hbg : begF n 0 [] s1 = layF (layF s1 ((2 : Nat) : Int) (leavesF 0 0 [])).1 (((0 : Int) % 2).toNat : Nat) [titleF 0 n] := by
        show (if (layF s1 (fromN n 0 : Nat) (leavesF 0 0 [])).2 = 0 then layF (layF s1 (fromN n 0 : Nat) (leavesF 0 0 [])).1 (((0 : Int) % 2).toNat : Nat) [titleF 0 n] else layF s1 (fromN n 0 : Nat) (leavesF 0 0 [])) = _
        rw [h2n]; exact if_pos d1
      rw [hbg]
      obtain ⟨s2, hs2⟩ : ∃ s2, s2 = (layF s1 ((2 : Nat) : Int) (leavesF 0 0 [])).1 := ⟨_, rfl⟩
      replace d2 : Up s2 := by rw [hs2]; exact d2
      replace d3 : s2.loose = [] := by rw [hs2]; exact d3
      replace d4 : s2.size = s1.size := by rw [hs2]; exact d4
      replace d5 : s2.arms.on = false := by rw [hs2]; exact d5 c5
      replace d6 : ∀ j, holdsF s2 j = (findB j (wrs 2 (leavesF 0 0 []))).getD (holdsF s1 j) := fun j => by rw [hs2]; exact d6 j
      rw [← hs2]
      rcases lay_f [titleF 0 n] s2 0 d2 d3 (by omega) (by simp only [List.length_singleton]; omega) with ⟨e1, e2, e3, e4, e5, e6⟩ | ⟨e0, _⟩
      · have h0 : holdsF (layF s2 (((0 : Int) % 2).toNat : Nat) [titleF 0 n]).1 0 = titleF 0 n := by
          have := e6 0
          exact this
        have hj : ∀ j : Int, j ≠ 0 → holdsF (layF s2 (((0 : Int) % 2).toNat : Nat) [titleF 0 n]).1 j = holdsF s2 j := fun j hj => by
          have := e6 j
          rw [over_ne (fun i hi => by have : i = 0 := by simpa using hi
                                      subst this; exact hj)] at this
          exact this
        refine ⟨e1, ⟨List.replicate (n - 1) zB, ⟨e2, e3, hn, ?_, by omega, h0, ?_, by simp, fun b hb => ?_, ?_, fun i hi => ?_⟩, fun x hx => ?_⟩, e5 d5⟩
        · have : (layF s2 (((0 : Int) % 2).toNat : Nat) [titleF 0 n]).1.size = s2.size := e4
          rw [this]; omega
        · rw [hj _ (by decide), d6, over_ne (fun i hi => by rw [hxl] at hi; omega), hh1]
          intro hb
          rw [show tellN zB = 0 from by decide] at hb
          simp [mayF] at hb
        · obtain rfl := List.mem_singleton.1 hb; simp
        · have h1 := field_over (s := s1) (s' := s2) (fr := 2) (n := n) (k := 0) (xs := leavesF 0 0 []) (by rw [hxl]; omega) (fun j => d6 j)
          rw [h2n, fieldOf_eq fun i hi => hj _ (by omega), h1, List.take_zero, List.nil_append, laidF, laidF, List.append_nil]
          congr 1
          rw [hxl, fieldOf, show (fun i => holdsF s1 ((2 + i : Nat) : Int)) = fun _ => zB from funext fun i => hh1 _]
          rw [List.map_const', List.length_range, List.drop_replicate]
        · rw [hj _ (by have := from_bound (0 + 1) (n := n) hn.2; omega), d6, over_ne (fun a ha => by rw [hxl] at ha; have := from_apart 0 (n := n) (i := a) (j := i) (by omega) hi; rw [h2n] at this; omega), hh1]
          exact fresh_zero _
        · rw [(List.mem_replicate.1 hx).2]; exact fresh_zero _
      · exact absurd e0 (off d5)
    · exact absurd d0 (off c5)
  · exact absurd c0 (off ha0)
end Go.Proofs.YtlphkccfcodmcaaGreat

/- The laws of layer 4: accounts of logs, and whether two are one. -/
namespace Go.Proofs.YtlphkccfcodmcaaGreat
open Go Go.Wk
set_option synthInstance.maxSize 100000
set_option synthInstance.maxHeartbeats 400000
set_option maxRecDepth 100000

/-- rows of entries. -/
abbrev bsL (ys : List LBy) : List (List UInt8) := ys.map LBy.bs
/-- an account. -/
abbrev accI (p : Option Addr) (c : Nat) (ys : List LBy) : Wk.Item := both (Wk.row 58 1 p ys.length c (encL ys)) (entI ys)
theorem told_get {came : List LBy} {i : Nat} {z : Nat × LBy} (h : (toldL came)[i]? = some z) : i < came.length ∧ z = (i + 1, nthG came i) := by
  rw [toldL, List.getElem?_map] at h
  have hi : i < came.length := by
    cases hr : (List.range came.length)[i]? with
    | none => rw [hr] at h; cases h
    | some a => have := (List.getElem?_eq_some_iff.1 hr).1; simpa using this
  rw [List.getElem?_range hi] at h
  exact ⟨hi, (Option.some.inj h).symm⟩
end Go.Proofs.YtlphkccfcodmcaaGreat

/- The laws of layer 4: logs as the laws hold them: told, taken down, opened. -/
namespace Go.Proofs.YtlphkccfcodmcaaGreat
open Go Go.Wk
set_option synthInstance.maxSize 100000
set_option synthInstance.maxHeartbeats 400000
set_option maxRecDepth 100000

/-- a log and its disk. -/
structure LG where
  m : Nat
  p : Option Addr
  c : Nat
  s : DS
  q : Option Addr
  e : Nat
  x : WS
abbrev lgI (b g : Nat) (L : LG) : Wk.Item := both (dkI b L.m L.p L.c L.s) (walI g b L.q L.e L.x)
/-- what a log tells. -/
structure LgSays (L : LG) (said : List (List UInt8)) : Prop where
  says : bsL L.x.said = said
  some_ : said ≠ []
  few : said.length ≤ 1000
  short : ∀ b ∈ said, b.length ≤ 40000
/-- a log that is as it should be. -/
structure LgOk (L : LG) (n : Nat) (t : Int) (said : List (List UInt8)) : Prop where
  num : L.x.n = n
  turn : L.x.turn = t
  says : bsL L.x.said = said
  fin : L.x.fin = endF t said
  broken : L.x.broken = false
  live : Live L.s n t said
theorem lg_cap {b g : Nat} {L : LG} {w : World} (h : (lgI b g L).holds w) : L.x.said.length ≤ L.e := own_le h.2.1.2.1.1
theorem allBy_ent {ys : List LBy} {w : World} (h : (entI ys).holds w) : Stable (fun _ => False) w (AllBy ys) := fun _w' ha y hy => gl_loc (fun ad hp => ha.blk ((h y hy).1 ad hp) (fun h => h)) (h y hy).2
/-! what is taken down -/
def wantF (n : Nat) (t : Int) (said : List (List UInt8)) (ck : Bool) (bs : List UInt8) : Int := if 40000 < bs.length then 3 else if (if ck then n else n - endF t said) < secN bs.length then 6 else 0
def nextT (ck : Bool) (t : Int) : Int := if ck then t + 1 else t
def nextS (ck : Bool) (said : List (List UInt8)) (bs : List UInt8) : List (List UInt8) := if ck then [bs] else said ++ [bs]
def TakeR (L L' : LG) (n : Nat) (t : Int) (said : List (List UInt8)) (ck : Bool) (bs : List UInt8) (e : Int) : Prop :=
  (wantF n t said ck bs ≠ 0 ∧ e = wantF n t said ck bs ∧ L' = L) ∨
  (wantF n t said ck bs = 0 ∧ e = 0 ∧ L'.m = L.m ∧ LgOk L' n (nextT ck t) (nextS ck said bs) ∧ (L.s.arms.on = false → L'.s.arms.on = false)) ∨
  (wantF n t said ck bs = 0 ∧ L.s.arms.on = true ∧ e = 9 ∧ L'.m = L.m ∧ L'.s.out = true ∧ L'.s.loose.length ≤ 2000 ∧ LgSays L' said ∧ ∀ keep, Able (crashD keep L'.s) n t said ∨ Able (crashD keep L'.s) n (nextT ck t) (nextS ck said bs))
theorem begF_loose (n : Nat) (t : Int) (bs : List UInt8) (hb : bs.length ≤ 40000) (s : DS) : (begF n t bs s).1.loose.length ≤ s.loose.length + 840 := by
  have h1 := layF_loose s (fromN n t : Nat) (leavesF t 0 bs)
  have h2 := layF_loose (layF s (fromN n t : Nat) (leavesF t 0 bs)).1 ((t % 2).toNat : Nat) [titleF t n]
  have h3 := secN_le _ hb
  rw [leavesF_len] at h1
  simp only [List.length_singleton] at h2
  have e : begF n t bs s = if (layF s (fromN n t : Nat) (leavesF t 0 bs)).2 = 0 then layF (layF s (fromN n t : Nat) (leavesF t 0 bs)).1 ((t % 2).toNat : Nat) [titleF t n] else layF s (fromN n t : Nat) (leavesF t 0 bs) := rfl
  rw [e]
  split <;> omega
/-! openings -/
theorem clrW_loose (fr : Nat) : ∀ (xs : List Blk) (i : Nat) (sy : Bool) (s : DS), (clrW fr xs i sy s).1.loose.length ≤ s.loose.length + xs.length
  | [], _, _, _ => Nat.le_refl _
  | x :: xs, i, sy, s => by
    rw [clrW, List.length_cons]
    split
    · have := clrW_loose fr xs (i + 1) sy s; omega
    · split
      · have h1 := clrW_loose fr xs (i + 1) true (wrD s ((fr + i : Nat) : Int) zB)
        have h2 := wrD_loose s ((fr + i : Nat) : Int) zB
        omega
      · have h2 := wrD_loose s ((fr + i : Nat) : Int) zB
        show (wrD s ((fr + i : Nat) : Int) zB).loose.length ≤ _; omega
theorem fieldW_same (fr : Nat) : ∀ (k i : Nat) (s : DS), (fieldW fr k i s).1.loose = s.loose ∧ (fieldW fr k i s).2.2.length ≤ k
  | 0, _, _ => ⟨rfl, Nat.le_refl _⟩
  | k + 1, i, s => by
    rw [fieldW]
    split
    · obtain ⟨h1, h2⟩ := fieldW_same fr k (i + 1) (rdD s ((fr + i : Nat) : Int))
      exact ⟨h1.trans (rdD_loose _ _), by simp only [List.length_cons]; omega⟩
    · exact ⟨rdD_loose _ _, Nat.zero_le _⟩
theorem clrF_loose (fr fin : Nat) (f : List Blk) (s : DS) : (clrF fr fin f s).1.loose.length ≤ s.loose.length + f.length := by
  have a1 := clrW_loose fr (f.drop fin) fin (decide (0 < s.loose.length)) s
  rw [List.length_drop] at a1
  have a2 := syD_loose (clrW fr (f.drop fin) fin (decide (0 < s.loose.length)) s).1
  rw [clrF, clrR]
  split
  · split
    · show (syD _).loose.length ≤ _; omega
    · show (clrW _ _ _ _ _).1.loose.length ≤ _; omega
  · show (clrW _ _ _ _ _).1.loose.length ≤ _; omega
theorem openC_loose (n : Nat) (t : Int) (f : List Blk) (s : DS) : (openC n t f s).1.loose.length ≤ s.loose.length + f.length := by
  have h := clrF_loose (fromN n t) (readF t f f.length 0 0).2 f s
  rw [openC]
  split
  · show s.loose.length ≤ _; omega
  · split
    · exact h
    · exact h
theorem openF_loose (s : DS) : (openF s).1.loose.length ≤ s.loose.length + 1000 := by
  obtain ⟨h1, h2⟩ := cntF_ok s
  rw [openF]
  split
  · rename_i h0
    have hn := (h2 h0).2.1
    obtain ⟨g1, g2⟩ := fieldW_same (fromN (cntF s).2.2.n.toNat (cntF s).2.2.t) (cntF s).2.2.n.toNat 0 (cntF s).1
    rw [openB]
    split
    · have := openC_loose (cntF s).2.2.n.toNat (cntF s).2.2.t (fieldW (fromN (cntF s).2.2.n.toNat (cntF s).2.2.t) (cntF s).2.2.n.toNat 0 (cntF s).1).2.2 (fieldW (fromN (cntF s).2.2.n.toNat (cntF s).2.2.t) (cntF s).2.2.n.toNat 0 (cntF s).1).1
      rw [g1, h1] at this
      omega
    · show (fieldW _ _ _ _).1.loose.length ≤ _
      rw [g1, h1]; omega
  · show (cntF s).1.loose.length ≤ _
    rw [h1]; omega
end Go.Proofs.YtlphkccfcodmcaaGreat

/- The laws of layer 4: what takes something down, what is told behind it. -/
namespace Go.Proofs.YtlphkccfcodmcaaGreat
open Go Go.Wk
set_option synthInstance.maxSize 100000
set_option synthInstance.maxHeartbeats 400000
set_option maxRecDepth 100000

def ckF (x : LAct) : Bool := decide (kindF x.kind = 3)
end Go.Proofs.YtlphkccfcodmcaaGreat

/- The laws of layer 4: what was lived through. -/
namespace Go.Proofs.YtlphkccfcodmcaaGreat
open Go Go.Wk
set_option synthInstance.maxSize 100000
set_option synthInstance.maxHeartbeats 400000
set_option maxRecDepth 100000

instance encAct : Enc LAct := ⟨4, cAct, fun _ => rfl, fun x u hu => by simp only [List.mem_cons, List.not_mem_nil, or_false] at hu; rcases hu with rfl | rfl | rfl | rfl <;> rfl⟩
instance layAct : Lay LAct := { encAct with
  dflt := ⟨0, 0, 0, none, 0, []⟩
  inn := fun w x => x.keep.length ≤ x.c ∧ x.c ≤ maxLen ∧ GlF x.p x.keep w
  mono := fun _w _w' _x h hx => ⟨hx.1, hx.2.1, hx.2.2.mono h⟩ }
instance : SzE LAct 4 := ⟨rfl, by decide⟩
instance {x : LAct} : CellsOf x [.int .i64 x.kind, .int .i64 x.n, .int .u8 (x.fill.toNat : Int), .slice x.p x.keep.length x.c] := ⟨rfl⟩
theorem St.lendM {w0 : World} {M0 : Nat → Prop} {ds : List Deferred} {a : Act} {w : World} {l : List Value} {bs : List Wk.Item} {fs : List (World → Prop)} (_ : St w0 M0 ds a w l bs fs) (x : Wk.Item) (Mr : Nat → Prop) [h1 : HasIt bs x] [h2 : HasIt bs (ext Mr)] {Φ : World → Prop} (h : Stable (foots bs) w Φ) : Stable (fun k => x.foot k ∨ Mr k) w Φ :=
  h.less fun _ _ hk => hk.elim (fun h => ⟨x, h1.mem, h⟩) (fun h => ⟨ext Mr, h2.mem, h⟩)
end Go.Proofs.YtlphkccfcodmcaaGreat

/- The laws of layer 4: does the layer do anything? -/
namespace Go.Proofs.YtlphkccfcodmcaaGreat
open Go Go.Wk
set_option synthInstance.maxSize 100000
set_option synthInstance.maxHeartbeats 400000
set_option maxRecDepth 100000

theorem laid_sum (t : Int) : ∀ (said : List (List UInt8)) (j : Nat), (laidF t said j).length = (said.map fun b => secN b.length).sum
  | [], _ => rfl
  | b :: l, j => by rw [laidF, List.length_append, leavesF_len, laid_sum t l, List.map_cons, List.sum_cons]
theorem endF_sum (t : Int) (said : List (List UInt8)) : endF t said = (said.map fun b => secN b.length).sum := laid_sum t said 0
end Go.Proofs.YtlphkccfcodmcaaGreat

/- The laws of layer 4: how many sectors; of a log that is not there. -/
namespace Go.Proofs.YtlphkccfcodmcaaGreat
open Go Go.Wk
set_option synthInstance.maxSize 100000
set_option synthInstance.maxHeartbeats 400000
set_option maxRecDepth 100000

end Go.Proofs.YtlphkccfcodmcaaGreat

/- The laws of layer 4: what has room is taken down. -/
namespace Go.Proofs.YtlphkccfcodmcaaGreat
open Go Go.Wk
set_option synthInstance.maxSize 100000
set_option synthInstance.maxHeartbeats 400000
set_option maxRecDepth 100000

end Go.Proofs.YtlphkccfcodmcaaGreat

/- The laws of layer 4: which loose writes stay; what is found. -/
namespace Go.Proofs.YtlphkccfcodmcaaGreat
open Go Go.Wk
set_option synthInstance.maxSize 100000
set_option synthInstance.maxHeartbeats 400000
set_option maxRecDepth 100000

instance nz6 : NZ 6 := ⟨by decide⟩
def keptF (x : LAct) : List Bool := x.keep.take (min x.keep.length 100)
theorem crash_foot {b m : Nat} {p : Option Addr} {c : Nat} {s : DS} {l : List Bool} : ∀ k, (dkI b m none 0 (crashD l s)).foot k → (dkI b m p c s).foot k := fun k hk => by
  rcases hk with h | h | h
  · exact .inl h
  · exact .inr (.inl h)
  · obtain ⟨ad, h, -⟩ := h; cases h
def LG.arm (L : LG) (k : Int) : LG := { L with s := armD L.s k }
end Go.Proofs.YtlphkccfcodmcaaGreat

/- The laws of layer 4: what was taken down lasts. -/
namespace Go.Proofs.YtlphkccfcodmcaaGreat
open Go Go.Wk
set_option synthInstance.maxSize 100000
set_option synthInstance.maxHeartbeats 400000
set_option maxRecDepth 100000

/-- what may be found behind a crash. -/
def FindR (s : DS) (n : Nat) (e : Int) (now next : List (List UInt8)) : Prop := s.loose.length ≤ 2000 ∧ ∀ keep, (∃ t, Able (crashD keep s) n t now) ∨ (e = 9 ∧ ∃ t, Able (crashD keep s) n t next)
def moreA : LAct := ⟨0, 50, 200, none, 0, []⟩
end Go.Proofs.YtlphkccfcodmcaaGreat

/- The laws of layer 4: what an opening left is found once more. -/
namespace Go.Proofs.YtlphkccfcodmcaaGreat
open Go Go.Wk
set_option synthInstance.maxSize 100000
set_option synthInstance.maxHeartbeats 400000
set_option maxRecDepth 100000

/-! of a log whose disk another one has: what it tells -/
end Go.Proofs.YtlphkccfcodmcaaGreat

/- The laws of layer 4: what came is told as it was. -/
namespace Go.Proofs.YtlphkccfcodmcaaGreat
open Go Go.Wk
set_option synthInstance.maxSize 100000
set_option synthInstance.maxHeartbeats 400000
set_option maxRecDepth 100000

/-! logs whose entries are read alone -/
abbrev zI (b g : Nat) (L : LG) : Wk.Item := both (dkI b L.m L.p L.c L.s) (Wk.box g 116 (cWal b L.q L.e L.x))
/-- what is known of such a log's entries. -/
def ZF (L : LG) (M : Nat → Prop) (w : World) : Prop := L.x.said.length ≤ L.e ∧ Stable M w (GlF L.q L.x.said) ∧ Stable M w (AllBy L.x.said)
theorem St.entFact {w0 : World} {M0 : Nat → Prop} {ds : List Deferred} {a : Act} {w : World} {l : List Value} {bs bs' : List Wk.Item} {fs : List (World → Prop)} (S : St w0 M0 ds a w l bs fs) (ys : List LBy) [hd : DropI bs (entI ys) bs'] : St w0 M0 ds a w l bs' (AllBy ys :: fs) := by
  have S1 := S.perm _ hd.perm
  have hap := List.pairwise_cons.1 S1.wd.apart
  have hr : (entI ys).holds w := S1.wd.held _ (by simp)
  have S2 : St w0 M0 ds a w l bs' fs := ⟨S1.slots, S1.defers, S1.wd.sub (.cons _ (.refl _)) (.refl _)⟩
  exact S2.add fun w' ha y hy => gl_loc (fun ad hp => ha.blk ((hr y hy).1 ad hp) (fun ⟨it, hi, hk⟩ => hap.1 it hi ad.block ⟨y, hy, ad, hp, rfl⟩ hk)) (hr y hy).2
end Go.Proofs.YtlphkccfcodmcaaGreat
