import Derived.Test.YtajmjbboahmdkaaWkS
namespace Go.Wk
open Go

/-! a region whose order is drawn, where more than one loud operation may come next -/
inductive Tr where
  | e
  | q (i : Nat) (t : Tr)
  | l (i : Nat) (t : Tr)
  | b2 (i j : Nat) (t u : Tr)
  | b3 (i j k : Nat) (t u v : Tr)
def Tr.len : Tr → Nat
  | .e => 0
  | .q _ t | .l _ t => t.len + 1
  | .b2 _ _ t _ => t.len + 1
  | .b3 _ _ _ t _ _ => t.len + 1
def flowT (ops : Array Oper) : Tr → Array Bool → Bool
  | .e, listed => (Region.ready .any ops listed).isEmpty
  | .q i t, listed => ((Region.ready .any ops listed).contains i && Region.free .any ops listed i) && flowT ops t (listed.setIfInBounds i true)
  | .l i t, listed => (match Region.ready .any ops listed with | [j] => Nat.beq j i | _ => false) && flowT ops t (listed.setIfInBounds i true)
  | .b2 i j t u, listed => (match Region.ready .any ops listed with | [x, y] => Nat.beq x i && Nat.beq y j | _ => false) && (Nat.beq u.len t.len && (flowT ops t (listed.setIfInBounds i true) && flowT ops u (listed.setIfInBounds j true)))
  | .b3 i j k t u v, listed => (match Region.ready .any ops listed with | [x, y, z] => Nat.beq x i && (Nat.beq y j && Nat.beq z k) | _ => false) && (Nat.beq u.len t.len && (Nat.beq v.len t.len && (flowT ops t (listed.setIfInBounds i true) && (flowT ops u (listed.setIfInBounds j true) && flowT ops v (listed.setIfInBounds k true)))))
section
variable {P : Program} {ops : Array Oper} {C : World → Prop} {R : Act → World → Prop}
variable {r : Option Nat} {Q : Exit → Act → World → Prop} {w0 : World} {M0 : Nat → Prop} {ds : List Deferred} {a : Act} {w : World} {l l' : List Value} {bs bs' bs0 : List Item} {fs fs0 : List (World → Prop)}
  {d : Option Nat} {op : Op} {ty : TypeId} {pos : String} {af : Array Edge} {rest : List Oper} {v v' G : Value} {j g : Nat} {pol : Bool} {cs : List Bool} {n : Nat} {listed : Array Bool}
def AT (P : Program) (ops : Array Oper) (C : World → Prop) (R : Act → World → Prop) (t : Tr) (a : Act) (w : World) : Prop :=
  ∀ listed, Region.noSelect ops = true → flowT ops t listed = true → AC P ops C R t.len listed a w
variable {t u x : Tr} {i k : Nat}
theorem tq (S : St w0 M0 ds a w l bs fs) [hb : SubL bs0 bs] [hf : SubL fs0 fs] [ho : OpAt ops i ⟨d, op, ty, pos, af, none⟩] [hq : OpQ P op ty ⟨[], l⟩ bs0 fs0 v] [hp : PutO l d v l']
    (K : ∀ a, St w0 M0 ds a w l' bs fs → AT P ops (fun w => Wd w0 M0 w bs0 fs0) R t a w) :
    AT P ops (fun w => Wd w0 M0 w bs0 fs0) R (.q i t) a w := by
  intro listed hs hflow
  simp only [flowT, Bool.and_eq_true] at hflow
  refine ac_first ho.eq (Region.noSelect_spec hs) _ listed a w (Region.free_spec ho.eq hflow.1.2) (by simpa using hflow.1.1) (v := v) (.inl ⟨rfl, fun w' hw' => ?_⟩) (S.wd.sub hb.sub hf.sub) (K _ S.put _ hs hflow.2)
  rw [execOp_eq]
  exact hq.run a.eval w' S.fr hw'.mem
theorem tqG (S : St w0 M0 ds a w l bs fs) [hb : SubL bs0 bs] [hf : SubL fs0 fs] [ho : OpAt ops i ⟨d, op, ty, pos, af, some (j, pol)⟩] [hg : GSlot ops j g] [hn : Nth l g G] [hc : Conds G pol cs] [hq : OpQ P op ty ⟨cs, l⟩ bs0 fs0 v] [hv : GifV cs v v'] [hp : PutO l d v' l']
    (K : ∀ a, St w0 M0 ds a w l' bs fs → AT P ops (fun w => Wd w0 M0 w bs0 fs0) R t a w) :
    AT P ops (fun w => Wd w0 M0 w bs0 fs0) R (.q i t) a w := by
  intro listed hs hflow
  simp only [flowT, Bool.and_eq_true] at hflow
  have hw := wanted_iff (ops := ops) (d := d) (op := op) (ty := ty) (pos := pos) (af := af) (pol := pol) S hg.eq
  refine ac_first ho.eq (Region.noSelect_spec hs) _ listed a w (Region.free_spec ho.eq hflow.1.2) (by simpa using hflow.1.1) (v := v') ?_ (S.wd.sub hb.sub hf.sub) (K _ S.put _ hs hflow.2)
  by_cases hall : ∀ c ∈ cs, c = true
  · refine .inl ⟨hw.2 hall, fun w' hw' => ?_⟩
    rw [execOp_eq, hv.eq, if_pos hall]
    exact hq.run a.eval w' (S.frc hall) hw'.mem
  · exact .inr ⟨by
      cases hx : Region.wanted _ (yielded ops a.tmps) with
      | true => exact absurd (hw.1 hx) hall
      | false => rfl, by rw [hv.eq, if_neg hall]⟩
/-- one operation out of those that are ready. -/
theorem wn_of {o : Oper} [ho : OpAt ops i o] {K : Act → World → Prop} (h : WL P none ops (fun e a' w' => e = .normal ∧ K a' w') [o] a w) : WN P ops i K a w := by
  unfold WN wpOpIn
  simp only [ho.eq]
  simp only [WL, wpListIn] at h
  split
  · rename_i hw
    rw [if_pos hw] at h
    refine ⟨fun _ _ => trivial, ?_⟩
    have h := h.2
    generalize (o.semAt (FW none).round a.eval).run P w = q at *
    cases q with
    | ok x w' =>
      cases x <;> simp only [Oper.uponIn] at h ⊢
      case value u => exact h.2
      case skip => exact h.2
      case defer d => exact h.2
      case enter f args =>
        refine ⟨h.1, CallsIn.mono h.2 fun e w'' he => ?_⟩
        cases e with
        | returned u => exact he.2
        | panicked c => exact absurd he.1 (by simp)
        | outgrown => obtain ⟨_, _, he, _⟩ := he; exact absurd he (by simp)
      case row row args => exact ⟨h.1, RowsIn.mono h.2 fun u w'' he => he.2⟩
      case round l f tmps assign body =>
        refine ⟨h.1, RoundIn.mono h.2 fun e w'' he => ?_⟩
        cases e with
        | returned u => exact he.2
        | panicked c => exact absurd he.1 (by simp)
        | outgrown => obtain ⟨_, _, he, _⟩ := he; exact absurd he (by simp)
    | halt x w' =>
      cases x <;> simp only [Oper.uponIn] at h ⊢
      case panic u => exact absurd h.1 (by simp)
  · rename_i hw
    rw [if_neg hw] at h
    exact ⟨fun _ _ => trivial, h.2.2⟩
theorem tl {o : Oper} [ho : OpAt ops i o] (h : WL P none ops (fun e a' w' => e = .normal ∧ C w' ∧ AT P ops C R t a' w') [o] a w) : AT P ops C R (.l i t) a w := by
  intro listed hs hflow
  simp only [flowT, Bool.and_eq_true] at hflow
  have hr : Region.ready .any ops listed = [i] := by
    have := hflow.1
    split at this
    · rename_i k hk; rw [hk, Nat.eq_of_beq_eq_true this]
    · cases this
  refine ⟨fun h0 => (by rw [h0] at hr; cases hr), fun k hk => ?_⟩
  rw [hr] at hk
  obtain rfl : k = i := by simpa using hk
  exact wpOpIn_mono (fun a' w' h' => ⟨h'.1, h'.2 _ hs hflow.2⟩) (wn_of h)
theorem tb2 {oi oj : Oper} [hi : OpAt ops i oi] [hj : OpAt ops j oj] (h1 : WL P none ops (fun e a' w' => e = .normal ∧ C w' ∧ AT P ops C R t a' w') [oi] a w) (h2 : WL P none ops (fun e a' w' => e = .normal ∧ C w' ∧ AT P ops C R u a' w') [oj] a w) : AT P ops C R (.b2 i j t u) a w := by
  intro listed hs hflow
  simp only [flowT, Bool.and_eq_true] at hflow
  have hr : Region.ready .any ops listed = [i, j] := by
    have := hflow.1
    split at this
    · rename_i x y hk
      simp only [Bool.and_eq_true] at this
      rw [hk, Nat.eq_of_beq_eq_true this.1, Nat.eq_of_beq_eq_true this.2]
    · cases this
  have hlen := Nat.eq_of_beq_eq_true hflow.2.1
  refine ⟨fun h0 => (by rw [h0] at hr; cases hr), fun k hk => ?_⟩
  rw [hr] at hk
  rcases List.mem_cons.1 hk with rfl | hk
  · exact wpOpIn_mono (fun a' w' h' => ⟨h'.1, h'.2 _ hs hflow.2.2.1⟩) (wn_of h1)
  · obtain rfl := List.mem_singleton.1 hk
    refine wpOpIn_mono (fun a' w' h' => ⟨h'.1, ?_⟩) (wn_of h2)
    have := h'.2 _ hs hflow.2.2.2
    rwa [hlen] at this
theorem tb3 {oi oj ok : Oper} [hi : OpAt ops i oi] [hj : OpAt ops j oj] [hk : OpAt ops k ok] (h1 : WL P none ops (fun e a' w' => e = .normal ∧ C w' ∧ AT P ops C R t a' w') [oi] a w) (h2 : WL P none ops (fun e a' w' => e = .normal ∧ C w' ∧ AT P ops C R u a' w') [oj] a w)
    (h3 : WL P none ops (fun e a' w' => e = .normal ∧ C w' ∧ AT P ops C R x a' w') [ok] a w) : AT P ops C R (.b3 i j k t u x) a w := by
  intro listed hs hflow
  simp only [flowT, Bool.and_eq_true] at hflow
  have hr : Region.ready .any ops listed = [i, j, k] := by
    have := hflow.1
    split at this
    · rename_i x y z hk
      simp only [Bool.and_eq_true] at this
      rw [hk, Nat.eq_of_beq_eq_true this.1, Nat.eq_of_beq_eq_true this.2.1, Nat.eq_of_beq_eq_true this.2.2]
    · cases this
  have hlen := Nat.eq_of_beq_eq_true hflow.2.1
  have hlen2 := Nat.eq_of_beq_eq_true hflow.2.2.1
  refine ⟨fun h0 => (by rw [h0] at hr; cases hr), fun m hm => ?_⟩
  rw [hr] at hm
  rcases List.mem_cons.1 hm with rfl | hm
  · exact wpOpIn_mono (fun a' w' h' => ⟨h'.1, h'.2 _ hs hflow.2.2.2.1⟩) (wn_of h1)
  · rcases List.mem_cons.1 hm with rfl | hm
    · refine wpOpIn_mono (fun a' w' h' => ⟨h'.1, ?_⟩) (wn_of h2)
      have := h'.2 _ hs hflow.2.2.2.2.1
      rwa [hlen] at this
    · obtain rfl := List.mem_singleton.1 hm
      refine wpOpIn_mono (fun a' w' h' => ⟨h'.1, ?_⟩) (wn_of h3)
      have := h'.2 _ hs hflow.2.2.2.2.2
      rwa [hlen2] at this
theorem te [hb : SubL bs0 bs] [hf : SubL fs0 fs] (S : St w0 M0 ds a w l bs fs) (h : AT P ops (fun w => Wd w0 M0 w bs0 fs0) R t a w) : WL P none ops (fun e a' w' => e = .normal ∧ Wd w0 M0 w' bs0 fs0 ∧ AT P ops (fun w => Wd w0 M0 w bs0 fs0) R t a' w') [] a w :=
  wl_nil ⟨rfl, S.wd.sub hb.sub hf.sub, h⟩
theorem tn (h : R a w) : AT P ops C R .e a w := by
  intro listed hs hflow
  have hr : Region.ready .any ops listed = [] := by simpa [flowT] using hflow
  exact ⟨hr, h⟩
theorem ac_mono {R' : Act → World → Prop} (hR : ∀ a w, R a w → R' a w) : ∀ (fuel : Nat) (listed : Array Bool) (a : Act) (w : World), AC P ops C R fuel listed a w → AC P ops C R' fuel listed a w
  | 0, _, _, _, h => ⟨h.1, hR _ _ h.2⟩
  | fuel + 1, _, _, _, h => ⟨fun h0 => hR _ _ (h.1 h0), fun i hi => wpOpIn_mono (fun _ _ h' => ⟨h'.1, ac_mono hR fuel _ _ _ h'.2⟩) (h.2 i hi)⟩
/-- such a region; whatever the order, the frame is then as I says. -/
theorem c_drawT {id : Nat} {lo : List Oper} (t : Tr) (bs0 : List Item) (S : St w0 M0 ds a w l bs fs) (I : Act → World → Prop) (h : ∀ w, St w0 M0 ds a w l bs fs → AT P lo.toArray (fun w => Wd w0 M0 w bs0 fs) I t a w)
    (hk : ∀ a w, I a w → Q .normal a w) (hm : P.follows .mixedOrders = true := by kernel_rfl)
    (hd : ((lo.all fun o => !isDefer o.op) && (Nat.beq t.len lo.length && (Region.noSelect lo.toArray && flowT lo.toArray t (Array.replicate lo.length false)))) = true := by kernel_rfl) : Wp P r (.region id lo.toArray true) Q a w := by
  simp only [Bool.and_eq_true] at hd
  refine wpIn_region_any hm (any_of_ac (C := fun w => Wd w0 M0 w bs0 fs) (fun i o ho => ?_) _ _ _ _ ?_)
  · have := List.all_eq_true.1 hd.1 o (by
      rw [List.getElem?_toArray] at ho
      exact List.mem_of_getElem? ho)
    simpa using this
  · have := h { w with drawn := w.drawn + 1 } ⟨S.slots, S.defers, S.wd.step (Agree.drawn _ w _)⟩ _ hd.2.2.1 hd.2.2.2
    rw [Nat.eq_of_beq_eq_true hd.2.1] at this
    simpa using ac_mono hk _ _ _ _ this
theorem c_drawT0 {id : Nat} {lo : List Oper} {l2 : List Value} {bs2 : List Item} {fs2 : List (World → Prop)} (t : Tr) (ids : List Nat) [DropBs bs ids bs0] (S : St w0 M0 ds a w l bs fs) (h : ∀ w, St w0 M0 ds a w l bs fs → AT P lo.toArray (fun w => Wd w0 M0 w bs0 fs) (fun a w => St w0 M0 ds a w l2 bs2 fs2) t a w)
    (hk : ∀ a w, St w0 M0 ds a w l2 bs2 fs2 → Q .normal a w) (hm : P.follows .mixedOrders = true := by kernel_rfl)
    (hd : ((lo.all fun o => !isDefer o.op) && (Nat.beq t.len lo.length && (Region.noSelect lo.toArray && flowT lo.toArray t (Array.replicate lo.length false)))) = true := by kernel_rfl) : Wp P r (.region id lo.toArray true) Q a w :=
  c_drawT t _ S _ h hk hm hd
theorem c_drawT1 {id : Nat} {lo : List Oper} {l2 : Nat → List Value} {bs2 : Nat → List Item} {fs2 : Nat → List (World → Prop)} (t : Tr) (ids : List Nat) [DropBs bs ids bs0] (S : St w0 M0 ds a w l bs fs) (h : ∀ w, St w0 M0 ds a w l bs fs → AT P lo.toArray (fun w => Wd w0 M0 w bs0 fs) (fun a w => ∃ b, St w0 M0 ds a w (l2 b) (bs2 b) (fs2 b)) t a w)
    (hk : ∀ b a w, St w0 M0 ds a w (l2 b) (bs2 b) (fs2 b) → Q .normal a w) (hm : P.follows .mixedOrders = true := by kernel_rfl)
    (hd : ((lo.all fun o => !isDefer o.op) && (Nat.beq t.len lo.length && (Region.noSelect lo.toArray && flowT lo.toArray t (Array.replicate lo.length false)))) = true := by kernel_rfl) : Wp P r (.region id lo.toArray true) Q a w :=
  c_drawT t _ S _ h (fun a w ⟨b, h⟩ => hk b a w h) hm hd
theorem c_drawT2 {id : Nat} {lo : List Oper} {l2 : Nat → Nat → List Value} {bs2 : Nat → Nat → List Item} {fs2 : Nat → Nat → List (World → Prop)} (t : Tr) (ids : List Nat) [DropBs bs ids bs0] (S : St w0 M0 ds a w l bs fs) (h : ∀ w, St w0 M0 ds a w l bs fs → AT P lo.toArray (fun w => Wd w0 M0 w bs0 fs) (fun a w => ∃ b b', St w0 M0 ds a w (l2 b b') (bs2 b b') (fs2 b b')) t a w)
    (hk : ∀ b b' a w, St w0 M0 ds a w (l2 b b') (bs2 b b') (fs2 b b') → Q .normal a w) (hm : P.follows .mixedOrders = true := by kernel_rfl)
    (hd : ((lo.all fun o => !isDefer o.op) && (Nat.beq t.len lo.length && (Region.noSelect lo.toArray && flowT lo.toArray t (Array.replicate lo.length false)))) = true := by kernel_rfl) : Wp P r (.region id lo.toArray true) Q a w :=
  c_drawT t _ S _ h (fun a w ⟨b, b', h⟩ => hk b b' a w h) hm hd
end
/-- a function value, with what it captures. -/
instance opMakeFunc {P ty} {l : Cx} {bs fs} {f : Nat} {fi ca : List Operand} {vs us : List Value} [EvL l fi vs] [EvL l ca us] : OpQ P (.makeFunc (.func f) fi.toArray ca.toArray) ty l bs fs (.func (.func f) ⟨vs⟩ ⟨us⟩) := ⟨fun ρ w h _ => by
  have e1 := h.evl (xs := fi) (vs := vs)
  have e2 := h.evl (xs := ca) (vs := us)
  simp [xop, execOp, e1, e2, Instr.makeFunc]⟩
end Go.Wk
