import Derived.Test.YtajmjbboahmdkaaWkB
namespace Go.Wk
open Go

/-! writing a box -/
class OneC (v : Value) : Prop where eq : v.oneCell' = true
instance {b} : OneC (.bool b) := ⟨rfl⟩
instance {k n} : OneC (.int k n) := ⟨rfl⟩
instance {s} : OneC (.string s) := ⟨rfl⟩
instance {p} : OneC (.pointer p) := ⟨rfl⟩
instance {p n c} : OneC (.slice p n c) := ⟨rfl⟩
instance {p} : OneC (.map p) := ⟨rfl⟩
instance {f x y} : OneC (.func f x y) := ⟨rfl⟩
instance : OneC .nilFunc := ⟨rfl⟩
instance : OneC .nilIface := ⟨rfl⟩
instance {t v} : OneC (.iface t v) := ⟨rfl⟩
class Flat (vs : List Value) : Prop where all : ∀ v ∈ vs, v.oneCell' = true
instance flat0 : Flat [] := ⟨fun _ h => by cases h⟩
instance flat1 {v vs} [h : OneC v] [h' : Flat vs] : Flat (v :: vs) := ⟨fun u hu => by
  rcases List.mem_cons.1 hu with rfl | hu
  · exact h.eq
  · exact h'.all u hu⟩

class SetFront (cs vs : List Value) (cs' : outParam (List Value)) : Prop where eq : vs.length ≤ cs.length ∧ vs ++ cs.drop vs.length = cs'
instance sf0 {cs} : SetFront cs [] cs := ⟨by simp⟩
instance sfS {c v cs vs cs'} [h : SetFront cs vs cs'] : SetFront (c :: cs) (v :: vs) (v :: cs') := ⟨by simpa using h.eq⟩
class SetSeg (cs : List Value) (off : Nat) (vs : List Value) (cs' : outParam (List Value)) : Prop where eq : off + vs.length ≤ cs.length ∧ cs.take off ++ vs ++ cs.drop (off + vs.length) = cs'
instance ss0 {cs vs cs'} [h : SetFront cs vs cs'] : SetSeg cs 0 vs cs' := ⟨by simpa using h.eq⟩
instance ssS {c cs off vs cs'} [h : SetSeg cs off vs cs'] : SetSeg (c :: cs) (off + 1) vs (c :: cs') := ⟨by
  obtain ⟨h1, h2⟩ := h.eq
  refine ⟨by simp; omega, ?_⟩
  rw [← h2, show off + 1 + vs.length = (off + vs.length) + 1 from by omega]; simp⟩

class Repl (bs : List Item) (b : Nat) (t : outParam TypeId) (cs : outParam (List Value)) (cs' : List Value) (bs' : outParam (List Item)) : Prop where
  ex : ∃ pre post, bs = pre ++ box b t cs :: post ∧ bs' = pre ++ box b t cs' :: post
instance rp0 {b t cs cs' bs} : Repl (box b t cs :: bs) b t cs cs' (box b t cs' :: bs) := ⟨[], bs, rfl, rfl⟩
instance (priority := 900) rp1 {x b t cs cs' bs bs'} [h : Repl bs b t cs cs' bs'] : Repl (x :: bs) b t cs cs' (x :: bs') := ⟨by
  obtain ⟨pre, post, rfl, rfl⟩ := h.ex; exact ⟨x :: pre, post, rfl, rfl⟩⟩

theorem foots_repl {pre post : List Item} {x y : Item} (h : x.foot = y.foot) : foots (pre ++ x :: post) = foots (pre ++ y :: post) := by
  funext k
  simp only [foots, List.mem_append, List.mem_cons, or_and_right, exists_or, exists_eq_left, h]

theorem Wd.store {w0 M0 w fs} {pre post : List Item} {b : Nat} {t : TypeId} {cs cs' : List Value} (h : Wd w0 M0 w (pre ++ box b t cs :: post) fs) : Wd w0 M0 (w.setRow b cs'.toArray) (pre ++ box b t cs' :: post) fs := by
  have hm : box b t cs ∈ pre ++ box b t cs :: post := by simp
  have hb : w.heap[b]? = some (.cells cs.toArray t (0, 0)) := h.held _ hm
  have hsz : (w.setRow b cs'.toArray).heap.size = w.heap.size := by simp [World.setRow]
  have hoth : ∀ k, k ≠ b → (w.setRow b cs'.toArray).heap[k]? = w.heap[k]? := fun k hk => by
    simp [World.setRow, Array.getElem?_modify, Ne.symm hk]
  have hap := List.pairwise_append.1 h.apart
  have hap2 := List.pairwise_cons.1 hap.2.1
  have hne : ∀ it, it ∈ pre ∨ it ∈ post → ∀ k, it.foot k → k ≠ b := by
    rintro it (hi | hi) k hk rfl
    · exact hap.2.2 it hi (box k t cs) (by simp) k hk rfl
    · exact hap2.1 it hi k rfl hk
  have hin : ∀ it, it ∈ pre ∨ it ∈ post → it ∈ pre ++ box b t cs :: post := fun it hi => by rcases hi with hi | hi <;> simp [hi]
  have hkeep : ∀ it, it ∈ pre ∨ it ∈ post → it.holds (w.setRow b cs'.toArray) := fun it hi =>
    h.loc it (hin it hi) w _ (fun k hk => hoth k (hne it hi k hk)) (h.held it (hin it hi))
  have hfe : foots (pre ++ box b t cs' :: post) = foots (pre ++ box b t cs :: post) := foots_repl rfl
  refine ⟨?_, ?_, ?_, ?_, ?_, ?_, ?_⟩
  · refine h.agree.trans' (N := fun k => k = b) (Agree.setRow w b _ rfl) fun k hk e => ?_
    subst e
    rcases h.own _ hm rfl k rfl with h1 | h1
    · exact h1
    · omega
  · intro it hi
    rcases List.mem_append.1 hi with hi | hi
    · exact hkeep it (.inl hi)
    · rcases List.mem_cons.1 hi with rfl | hi
      · exact setRow_heap w b cs.toArray _ t _ hb
      · exact hkeep it (.inr hi)
  · intro it hi k hk
    rw [hsz]
    rcases List.mem_append.1 hi with hi | hi
    · exact h.lt it (by simp [hi]) k hk
    · rcases List.mem_cons.1 hi with rfl | hi
      · exact h.lt _ hm k hk
      · exact h.lt it (by simp [hi]) k hk
  · intro it hi ho k hk
    rcases List.mem_append.1 hi with hi | hi
    · exact h.own it (by simp [hi]) ho k hk
    · rcases List.mem_cons.1 hi with rfl | hi
      · exact h.own _ hm rfl k hk
      · exact h.own it (by simp [hi]) ho k hk
  · exact List.pairwise_append.2 ⟨hap.1, List.pairwise_cons.2 hap2, fun x hx y hy => by
      rcases List.mem_cons.1 hy with rfl | hy
      · exact hap.2.2 x hx (box b t cs) (by simp)
      · exact hap.2.2 x hx y (by simp [hy])⟩
  · intro Φ hΦ
    rw [hfe]
    refine (h.facts Φ hΦ).later (Agree.setRow w b _ ⟨_, hm, rfl⟩)
  · intro it hi
    rcases List.mem_append.1 hi with hi | hi
    · exact h.loc it (by simp [hi])
    · rcases List.mem_cons.1 hi with rfl | hi
      · exact box_loc _ _ _
      · exact h.loc it (by simp [hi])

class LenIs (vs : List Value) (n : Nat) : Prop where eq : vs.length = n
instance li0 : LenIs [] 0 := ⟨rfl⟩
instance liS {v vs n} [h : LenIs vs n] : LenIs (v :: vs) (n + 1) := ⟨by simp [h.eq]⟩

/-- a store into a box. -/
class OpW (P : Program) (op : Op) (ty : TypeId) (l : Cx) (bs : List Item) (b : outParam Nat) (t : outParam TypeId) (cs cs' : outParam (List Value)) (bs' : outParam (List Item)) : Prop where
  run : ∀ (ρ : Operand → Value) (w : World), Fr ρ l → w.heap[b]? = some (.cells cs.toArray t (0, 0)) → (xop ρ op ty).run P w = .ok .skip (w.setRow b cs'.toArray)
  repl : Repl bs b t cs cs' bs'
instance opStore {P : Program} {t ty bt : TypeId} {x y : Operand} {l : Cx} {bs bs' : List Item} {b off n by_ : Nat} {v z : Value} {vs cs cs' : List Value} [Ev l x (.pointer (some ⟨b, off, none⟩))] [Ev l y v] [hc : Cells v vs] [TI P t z n by_] [hl : LenIs vs n] [hf : Flat vs]
    [HasBox bs b bt cs] [hs : SetSeg cs off vs cs'] [hr : Repl bs b bt cs cs' bs'] : OpW P (.store t x y) ty l bs b bt cs cs' bs' := ⟨fun ρ w h hb => by
  have e := run_storeCells_at (P := P) b off bt vs 0 cs.toArray w hb (by simpa using hs.eq.1) hf.all
  simp only [Nat.add_zero] at e
  rw [hs.eq.2] at e
  have hcs : v.cells = vs.toArray := by rw [← hc.eq]
  simp [xop, execOp, Instr.storeAt, h.ev (x := x) (v := .pointer (some ⟨b, off, none⟩)), h.ev (x := y) (v := v), Instr.sureAddr, storeVar, run_size, Sem.run_bind, hcs, hl.eq, e], hr⟩

section
variable {P : Program} {r : Option Nat} {ops : Array Oper} {Q : Exit → Act → World → Prop} {w0 : World} {M0 : Nat → Prop} {ds : List Deferred} {a : Act} {w : World} {l l' : List Value} {bs bs' : List Item} {fs : List (World → Prop)}
  {d : Option Nat} {op : Op} {ty : TypeId} {pos : String} {af : Array Edge} {rest : List Oper} {v : Value}
theorem sw {b : Nat} {t : TypeId} {cs cs' : List Value} [hq : OpW P op ty ⟨[], l⟩ bs b t cs cs' bs'] [hp : PutO l d undef l'] (S : St w0 M0 ds a w l bs fs)
    (K : ∀ a w, St w0 M0 ds a w l' bs' fs → WL P r ops Q rest a w) (hnd : isDefer op = false := by rfl) : WL P r ops Q (⟨d, op, ty, pos, af, none⟩ :: rest) a w := by
  refine wl_plain rfl ?_
  rw [semAt_nd hnd]
  obtain ⟨pre, post, e1, e2⟩ := hq.repl.ex
  have hb : w.heap[b]? = some (.cells cs.toArray t (0, 0)) := S.wd.held (box b t cs) (by rw [e1]; simp)
  simp only [hq.run a.eval w S.fr hb, Oper.uponIn]
  have S' := S.put (d := d) (v := undef) (l' := l')
  have hwd := S'.wd
  rw [e1] at hwd
  exact K _ _ ⟨S'.slots, S'.defers, by rw [e2]; exact hwd.store⟩

/-! control -/
theorem wl_nil (h : Q .normal a w) : WL P r ops Q [] a w := h
theorem c_seq {x y : Code} (h : Wp P r x (Exit.then (Wp P r y Q) Q) a w) : Wp P r (.seq x y) Q a w := wpIn_seq h
theorem c_region {id : Nat} {lo : List Oper} (h : WL P r lo.toArray Q lo a w) : Wp P r (.region id lo.toArray false) Q a w := wpIn_region_lit h
theorem c_skip (h : Q .normal a w) : Wp P r .skip Q a w := wpIn_skip h
theorem c_ret (h : Q .ret a w) : Wp P r .ret Q a w := wpIn_ret h
theorem c_exit {id : Nat} (h : Q (.exit id) a w) : Wp P r (.exit id) Q a w := wpIn_exit h
theorem c_block {id : Nat} {c : Code} (h : Wp P r c (Exit.inBlock id Q) a w) : Wp P r (.block id c) Q a w := wpIn_block h
theorem c_cond {c : Operand} {x y : Code} {b : Bool} [he : Ev ⟨[], l⟩ c (.bool b)] (S : St w0 M0 ds a w l bs fs) (ht : b = true → Wp P r x Q a w) (hf : b = false → Wp P r y Q a w) : Wp P r (.cond c x y) Q a w :=
  wpIn_cond_split (t := b) (S.fr.ev) ht hf

/-- a function is entered. -/
theorem enter {f : Nat} {fn : Func} {c : Code} {args : List Value} {l : List Value} {R : Ending → World → Prop} {M0 : Nat → Prop} {bs : List Item} {fs : List (World → Prop)}
    (hf : P.funcs[f]? = some fn) (hb : fn.body = some c) (hl : args ++ List.replicate (fn.ntmps - args.length) undef = l) (hw : Wd w M0 w bs fs)
    (h : ∀ a, St w M0 [] a w l bs fs → Wp P none c (bodyPost P fn R) a w) : Calls P f args.toArray w R := by
  refine calls_of_wp hf hb (wpIn_wide (n := 0).1 (h _ ⟨?_, rfl, hw⟩))
  simp [← hl]
theorem Wd.start (w : World) : Wd w (fun _ => False) w [] [] := ⟨Agree.refl _ _, by simp, by simp, by simp, .nil, by simp, by simp⟩

/-- what a call says as a rule: it returns; only the blocks of M have changed. -/
def Ret (P : Program) (f : Nat) (args : List Value) (w : World) (M : Nat → Prop) (R : Value → World → Prop) : Prop :=
  Calls P f args.toArray w fun e w' => ∃ v, e = .returned v ∧ Agree M w w' ∧ R v w'
theorem Ret.mono {P : Program} {f : Nat} {args : List Value} {w : World} {M : Nat → Prop} {R R' : Value → World → Prop} (h : Ret P f args w M R) (hr : ∀ v w', R v w' → R' v w') : Ret P f args w M R' :=
  Calls.mono h fun _ _ ⟨v, e, ha, hv⟩ => ⟨v, e, ha, hr _ _ hv⟩

/-- the function's end, one result in a slot. -/
theorem fin1 {fn : Func} {t : Nat} {R : Value → World → Prop} {M0 : Nat → Prop} {v : Value} [hn : Nth l t v] (S : St w0 M0 [] a w l bs fs) (h : Agree M0 w0 w → R v w) (hres : fn.results = #[.tmp t] := by rfl) :
    bodyPost P fn (fun e w' => ∃ v, e = .returned v ∧ Agree M0 w0 w' ∧ R v w') .ret a w := by
  refine bodyPost_ret (results_tmp hres _ _ _) S.defers ⟨_, rfl, S.wd.agree, ?_⟩
  have := hn.eq
  rw [S.slots]
  simpa [Array.getD_eq_getD_getElem?, this] using h S.wd.agree
theorem fin2 {fn : Func} {t u : Nat} {R : Value → World → Prop} {M0 : Nat → Prop} {v v' : Value} [hn : Nth l t v] [hn' : Nth l u v'] (S : St w0 M0 [] a w l bs fs) (h : Agree M0 w0 w → R (.tuple #[v, v']) w) (hres : fn.results = #[.tmp t, .tmp u] := by rfl) :
    bodyPost P fn (fun e w' => ∃ v, e = .returned v ∧ Agree M0 w0 w' ∧ R v w') .ret a w := by
  refine bodyPost_ret (results_tmp2 hres _ _ _) S.defers ⟨_, rfl, S.wd.agree, ?_⟩
  have := hn.eq
  have h2 := hn'.eq
  rw [S.slots]
  simpa [Array.getD_eq_getD_getElem?, this, h2] using h S.wd.agree
theorem fin0 {fn : Func} {R : Value → World → Prop} {M0 : Nat → Prop} {e : Exit} (he : e = .ret ∨ e = .normal) (S : St w0 M0 [] a w l bs fs) (h : Agree M0 w0 w → R (.tuple #[]) w) (hres : fn.results = #[] := by rfl) :
    bodyPost P fn (fun e w' => ∃ v, e = .returned v ∧ Agree M0 w0 w' ∧ R v w') e a w := by
  rcases he with rfl | rfl
  · exact bodyPost_ret (results_none hres _ _ _) S.defers ⟨_, rfl, S.wd.agree, h S.wd.agree⟩
  · exact bodyPost_end (results_none hres _ _ _) S.defers ⟨_, rfl, S.wd.agree, h S.wd.agree⟩
theorem xtn {next : Act → World → Prop} (h : next a w) : Exit.then next Q .normal a w := h
theorem xtr {next : Act → World → Prop} (h : Q .ret a w) : Exit.then next Q .ret a w := h
theorem xte {next : Act → World → Prop} {id : Nat} (h : Q (.exit id) a w) : Exit.then next Q (.exit id) a w := h
theorem xtg {next : Act → World → Prop} {id : Nat} (h : Q (.goto id) a w) : Exit.then next Q (.goto id) a w := h
theorem xbn {id : Nat} (h : Q .normal a w) : Exit.inBlock id Q .normal a w := h
theorem xbr {id : Nat} (h : Q .ret a w) : Exit.inBlock id Q .ret a w := h
theorem xbe {id : Nat} (h : Q .normal a w) : Exit.inBlock id Q (.exit id) a w := by simp only [Exit.inBlock, ↓reduceIte]; exact h
theorem xbx {id id' : Nat} (h : Q (.exit id') a w) (hne : Nat.beq id' id = false := by rfl) : Exit.inBlock id Q (.exit id') a w := by
  have : ¬ id' = id := fun e => by subst e; simp at hne
  simp only [Exit.inBlock, this, ↓reduceIte]; exact h
theorem xbg {id id' : Nat} (h : Q (.goto id') a w) : Exit.inBlock id Q (.goto id') a w := h
theorem c_condT {c : Operand} {x y : Code} [he : Ev ⟨[], l⟩ c (.bool true)] (S : St w0 M0 ds a w l bs fs) (h : Wp P r x Q a w) : Wp P r (.cond c x y) Q a w :=
  c_cond S (fun _ => h) (fun h => by cases h)
theorem c_condF {c : Operand} {x y : Code} [he : Ev ⟨[], l⟩ c (.bool false)] (S : St w0 M0 ds a w l bs fs) (h : Wp P r y Q a w) : Wp P r (.cond c x y) Q a w :=
  c_cond S (fun h => by cases h) (fun _ => h)
theorem c_label {n : Nat} (h : Q .normal a w) : Wp P r (.label n) Q a w := wpIn_label h
theorem c_goto {n : Nat} (h : Q (.goto n) a w) : Wp P r (.goto n) Q a w := wpIn_goto h
/-- the ways through a piece of code meet again. -/
theorem c_cut {x y : Code} {ι : Type} (l1 : ι → List Value) (bs1 : ι → List Item) (fs1 : ι → List (World → Prop)) (hx : Wp P r x (fun e a w => e = .normal ∧ ∃ i, St w0 M0 ds a w (l1 i) (bs1 i) (fs1 i)) a w)
    (hy : ∀ i a w, St w0 M0 ds a w (l1 i) (bs1 i) (fs1 i) → Wp P r y Q a w) : Wp P r (.seq x y) Q a w := by
  refine c_seq (wpIn_mono hx ?_)
  rintro e a w ⟨rfl, i, S⟩
  exact hy i a w S
end
end Go.Wk
