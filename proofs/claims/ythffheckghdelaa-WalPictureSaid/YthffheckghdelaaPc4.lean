/- 4: a part of this claim's texts, joined: W5 OctetB RowRegress W6. -/
import Derived.Test.YthffheckghdelaaPc3
import Derived.Test.YthffheckghdelaaRows
namespace Go.Wk
open Go Go.Deep Go.ChangeShapes Go.WideShapes Go.ChangeAt Go.RowKit

/-! rows of terms that came in -/
section
variable {H : Type} {enc : TypeId × Value → H} {P : Program} {w : World} {base : Nat} {spare : Nat → Bool} {held : Bool} {L : TypeId}
theorem terms_of_trod {T : TypeId} [hT : TermTy P T] (hL : P.underlying L = some (.slice T)) {fuel : Nat} {cs : List Value} {x : DataW H × List MemPlace} (h : DataW.trod enc P w base spare held fuel L cs = some x) :
    ∃ (p : Option Addr) (c : Nat) (ts : List LTerm), cs = [.slice p ts.length c] ∧ ts.length ≤ c ∧ c ≤ maxLen ∧ LsIn w p 0 ts := by
  obtain ⟨fs, I, S, L', hu, hf, hI, hS, hL', c1, c2, c3, c4⟩ := hT.ex
  rcases DataW.trod_slice hL h with ⟨e4, _⟩ | ⟨ad, len, cap, elems, rest, n', rfl, e4, _, _, hlc, hcm, hel, hem, _, _⟩
  · exact ⟨none, 0, [], by simpa using e4, Nat.le_refl _, Nat.zero_le _, by simp [LsIn]⟩
  · subst e4
    obtain ⟨g, hg⟩ := choose_lt (α := LTerm) (p := fun i t => w.cells? base (ad.add (i * 5)) 5 = some t.cells ∧ LtIn w t) (n := len) (fun i hi => by
      have h1 := hem i hi
      rw [c1, List.getElem?_eq_getElem (by omega)] at h1
      obtain ⟨cs', h2, h3⟩ := Option.bind_eq_some_iff.1 h1
      obtain ⟨t, rfl, ht⟩ := term_of_trod n' cs' _ h3
      exact ⟨t, h2, ht⟩)
    refine ⟨some ad, cap, (List.range len).map g, by simp, by simpa using hlc, hcm, ?_⟩
    refine LsIn.of_all fun i t ht => ?_
    have hi : i < len := by
      rcases Nat.lt_or_ge i len with h | h
      · exact h
      · rw [List.getElem?_eq_none (by simpa using h)] at ht; cases ht
    have : t = g i := by simpa [hi] using ht.symm
    subst this
    obtain ⟨hc, hin⟩ := hg i hi
    refine ⟨fun j v hj => ?_, hin⟩
    obtain ⟨_, _, h5⟩ := World.cells?_some hc
    have hj5 : j < 5 := by
      have := (List.getElem?_eq_some_iff.1 hj).1
      simpa [LTerm.cells] using this
    have := h5 j hj5
    rw [Go.Deep.add_add, hj] at this
    simpa using this
theorem terms_of_Trod {T : TypeId} [hT : TermTy P T] (hL : P.underlying L = some (.slice T)) {v : Value} {d : DataW H} {p : List MemPlace} {r : Reach} {W : World} {base' : Nat} (h : DataW.Trod enc P w base spare held L v d p) (hv : Value.okWide P W r base' L v) :
    ∃ (p : Option Addr) (c : Nat) (ts : List LTerm), v = .slice p ts.length c ∧ ts.length ≤ c ∧ c ≤ maxLen ∧ LsIn w p 0 ts := by
  obtain ⟨a, len, cap, rfl⟩ := okWide_slice hL hv
  obtain ⟨fuel, hf⟩ := h
  obtain ⟨p, c, ts, e, h1, h2, h3⟩ := terms_of_trod hL hf
  have e' : a = p ∧ len = ts.length ∧ cap = c := by simpa [Value.cells] using e
  obtain ⟨rfl, rfl, rfl⟩ := e'
  exact ⟨_, _, ts, rfl, h1, h2, h3⟩
end
/-- what came in is touched by nobody. -/
theorem LsIn.stable {w : World} {p : Option Addr} {i : Nat} {ts : List LTerm} (h : LsIn w p i ts) : Stable (fun _ => False) w (LsF p i ts) := fun _w' hw' => LsIn.mono (fun _ _ hc => cell_agree hw' hc) ts h
section
variable {w0 : World} {M0 : Nat → Prop} {ds : List Deferred} {a : Act} {w : World} {l : List Value} {bs : List Item} {fs : List (World → Prop)}
/-- a row of terms that nobody will write any more. -/
theorem St.boxLs {b : Nat} {T : TypeId} (ts : List LTerm) {cs : List Value} (S : St w0 M0 ds a w l (Wk.box b T cs :: bs) fs) (hc : cs = ts.flatMap LTerm.cells) (h : ∀ t ∈ ts, Stable (foots (Wk.box b T cs :: bs)) w (LtF t)) : St w0 M0 ds a w l bs (LsF (some ⟨b, 0, none⟩) 0 ts :: fs) := by
  subst hc
  have hb : w.heap[b]? = some (.cells (ts.flatMap LTerm.cells).toArray T (0, 0)) := S.wd.held _ (List.mem_cons_self ..)
  have hap := (List.pairwise_cons.1 S.wd.apart).1
  have S' : St w0 M0 ds a w l bs fs := ⟨S.slots, S.defers, S.wd.sub (List.sublist_cons_self ..) (List.Sublist.refl _)⟩
  refine S'.add fun w' hw' => LsIn.of_block (t := T) ts ?_ fun x hx => (h x hx).less (fun k _ ⟨it, hi, hk⟩ => ⟨it, List.mem_cons_of_mem _ hi, hk⟩) w' hw'
  rw [hw'.blk (Array.getElem?_eq_some_iff.1 hb).1 (fun ⟨it, hi, hk⟩ => hap it hi b rfl hk)]
  exact hb
/-- a row is taken for a shorter one. -/
theorem St.cutRow {bs' : List Item} {e : TypeId} {sz c : Nat} {xs : List Value} (S : St w0 M0 ds a w l bs fs) (p : Option Addr) (m n : Nat) [hr : HasRow bs p n e sz c xs] [hrep : ReplI bs (Wk.row e sz p n c xs) (Wk.row e sz p m c (xs.take (m * sz))) bs'] (hle : m ≤ n) : St w0 M0 ds a w l bs' fs := by
  have hrow := S.row p n
  have hown : w.ownsRow 0 e sz (.slice p m c) m (xs.take (m * sz)) := by
    refine ⟨by rw [List.length_take, hrow.1, Nat.min_eq_left (Nat.mul_le_mul_right _ hle)], ?_⟩
    rcases hrow.2 with ⟨hv, rfl⟩ | ⟨g, cap, cur, hv, hb, hg, hnc, hcm, hcs, ht⟩
    · cases hv
      exact .inl ⟨by rw [show m = 0 from by omega], by omega⟩
    · cases hv
      exact .inr ⟨g, c, cur, rfl, hb, hg, by omega, hcm, hcs, by rw [← ht, List.take_take, Nat.min_eq_left (Nat.mul_le_mul_right _ hle)]⟩
  exact S.reput (x := Wk.row e sz p n c xs) (y := Wk.row e sz p m c (xs.take (m * sz))) S.slots S.defers rfl (Agree.refl _ _) hown (fun k h => .inl h) (row_foot_lt hown) (row_loc _ _ _ _ _ _)
theorem own_le {w : World} {e : TypeId} {sz : Nat} {p : Option Addr} {n c : Nat} {xs : List Value} (h : w.ownsRow 0 e sz (.slice p n c) n xs) : n ≤ c := by
  rcases h.2 with ⟨hv, h0⟩ | ⟨g, cap, cur, hv, hb, hg, hnc, hcm, hcs, ht⟩
  · omega
  · cases hv; exact hnc
/-- one's own row of terms is somebody's list. -/
theorem St.rowLs {p : Option Addr} {n c : Nat} {e : TypeId} {xs : List LTerm} (S : St w0 M0 ds a w l (Wk.row e 5 p n c (encL xs) :: bs) fs) (h : ∀ t ∈ xs, Stable (foots bs) w (LtF t)) : St w0 M0 ds a w l bs (LsF p 0 xs :: fs) := by
  have hrow : w.ownsRow 0 e 5 (.slice p n c) n (encL xs) := S.wd.held _ (List.mem_cons_self ..)
  have hap := (List.pairwise_cons.1 S.wd.apart).1
  have S' : St w0 M0 ds a w l bs fs := ⟨S.slots, S.defers, S.wd.sub (List.sublist_cons_self ..) (List.Sublist.refl _)⟩
  exact S'.add (ls_of_own hrow h fun ad hp ⟨it, hi, hk⟩ => hap it hi ad.block ⟨ad, hp, rfl⟩ hk)
end
/-- the terms of a list lie where they say. -/
def AllL (L : List LTerm) : World → Prop := fun w => ∀ x ∈ L, LtIn w x
theorem AllL.stable {M : Nat → Prop} {w : World} {L : List LTerm} (h : ∀ x ∈ L, Stable M w (LtF x)) : Stable M w (AllL L) := fun w' hw x hx => h x hx w' hw
theorem AllL.get {M : Nat → Prop} {w : World} {L : List LTerm} (h : Stable M w (AllL L)) {x : LTerm} (hx : x ∈ L) : Stable M w (LtF x) := fun w' hw => h w' hw x hx
/-- what a function begins with that is lent a map. -/
theorem Wd.mpLent {w : World} {b : Nat} {kv : List (List UInt8 × Value)} {fs : List (World → Prop)} (h : (mp b kv).holds w) (hf : ∀ Φ ∈ fs, Stable (fun k => k = b) w Φ) : Wd w (fun k => k = b) w [mp b kv] fs := by
  refine ⟨Agree.refl _ _, ?_, ?_, ?_, by simp, ?_, ?_⟩
  · intro it hi; obtain rfl := List.mem_singleton.1 hi; exact h
  · intro it hi; obtain rfl := List.mem_singleton.1 hi; exact mp_lt h
  · intro it hi _ k hk; obtain rfl := List.mem_singleton.1 hi; exact .inl hk
  · intro Φ hΦ
    refine (hf Φ hΦ).less fun k _ hk => ?_
    obtain ⟨it, hi, hk⟩ := hk
    obtain rfl := List.mem_singleton.1 hi; exact hk
  · intro it hi; obtain rfl := List.mem_singleton.1 hi; exact mp_loc _ _

/-! rows of numbers that others own -/
def nthI (ys : List Int) (k : Nat) : Int := ys.getD k 0
theorem nthI_get {ys : List Int} {k : Nat} (h : k < ys.length) : ys[k]? = some (nthI ys k) := by simp [nthI, h]
theorem encI_get {ys : List Int} {k : Nat} (h : k < ys.length) : (encL ys)[k]? = some (.int .i64 (nthI ys k)) := by
  have := encL_get ys k _ (nthI_get h) 0 Nat.zero_lt_one
  simpa [Enc.sz, Enc.cells] using this
theorem SlF.take {p : Option Addr} {ys : List Int} (m : Nat) {w : World} (h : SlF p (encL ys) w) : SlF p (encL (ys.take m)) w := by
  rw [← encL_take ys m]
  refine ⟨fun hp => by rw [h.1 hp]; simp, fun ad hp j u hj => h.2 ad hp j u ?_⟩
  rw [List.getElem?_take] at hj
  split at hj
  · exact hj
  · cases hj
theorem SlF.nil {p : Option Addr} {w : World} : SlF p [] w := ⟨fun _ => rfl, fun _ _ j u hj => by simp at hj⟩
section
variable {P : Program} {l lc : Cx} {bs : List Item} {fs : List (World → Prop)} {x y : Operand} {p : Option Addr} {n c k : Nat} {kk : IntKind} {m : Int} {ys : List Int} {t ty e : TypeId} {z : Value} {by_ : Nat}
instance (priority := 869) srcSlI {tx e : TypeId} {p : Option Addr} {m c : Nat} {ys : List Int} {bs : List Item} {fs : List (World → Prop)} [h : Und P tx (.slice e)] [hr : HasSl fs p (encL ys)] [hn : LenN ys m] : SrcV P tx (.slice p m c) bs fs 1 m (encL ys) := ⟨fun w mm =>
  src_sl h.eq (mm.facts _ hr.mem).now (by rw [encL_len, hn.eq]; rfl) (encL_one ys) (by decide)⟩
theorem sl_some {w : World} (h : SlF p (encL ys) w) (hk : k < ys.length) : ∃ ad, p = some ad := by
  cases hp : p with
  | some ad => exact ⟨ad, rfl⟩
  | none =>
    have h1 := congrArg List.length (h.1 hp)
    rw [encL_len] at h1
    have h2 : ys.length * 1 = 0 := h1
    omega
instance (priority := 890) opIdxS [Ev lc x (.slice p n c)] [Ev lc y (.int kk m)] [Und P t (.slice e)] [TI P e z 1 by_] [hm : IsNat m k] [hs : HasSl fs p (encL ys)] [hn : LenN ys n] [hk : KLt k n] :
    OpQ P (.indexAddr t x y) ty lc bs fs (.pointer (some (rAddr p k))) := ⟨fun ρ w h mm => by
  have hlt := hk.lt
  obtain ⟨ad, rfl⟩ := sl_some (mm.facts _ hs.mem).now (by rw [hn.eq]; exact hlt)
  have h2 := hm.eq
  subst h2
  simp [xop, execOp, h.ev (x := x) (v := .slice (some ad) n c), h.ev (x := y) (v := .int kk (k : Int))]
  simp [run_indexAt (P := P) (t := t) (e := e) (z := z) (sz := 1) (by_ := by_) (Int.natCast_nonneg k) (Int.ofNat_lt.2 hlt), rAddr]⟩
instance (priority := 790) opLoadSI [Ev l x (.pointer (some (rAddr p k)))] [ha : AggT P t false] [hs : HasSl fs p (encL ys)] [hk : KLt k ys.length] : OpQ P (.load t x) ty l bs fs (.int .i64 (nthI ys k)) := ⟨fun ρ w h m => by
  have hsl := (m.facts _ hs.mem).now
  obtain ⟨ad, rfl⟩ := sl_some hsl hk.lt
  have hc : w.cell? (rAddr (some ad) k) = some (.int .i64 (nthI ys k)) := hsl.2 ad rfl k _ (encI_get hk.lt)
  simp [xop, execOp, Instr.loadAt, h.ev (x := x) (v := .pointer (some (rAddr (some ad) k))), Instr.sureAddr, loadVar, Sem.run_bind, ha.run, load, Sem.run, hc]⟩
end
end Go.Wk

namespace Go.Wk
open Go Go.Deep Go.ChangeShapes Go.WideShapes Go.ChangeAt Go.RowKit

/-! things with depth, whatever they are -/
class Lay (α : Type) extends Enc α where
  dflt : α
  inn : World → α → Prop
  mono : ∀ (w w' : World) (x : α), (∀ ad v, w.cell? ad = some v → w'.cell? ad = some v) → inn w x → inn w' x
instance layI : Lay Int := { encI with dflt := 0, inn := fun _ _ => True, mono := fun _ _ _ _ h => h }
instance layS : Lay (List UInt8) := { encS with dflt := [], inn := fun _ _ => True, mono := fun _ _ _ _ h => h }
instance layT : Lay LTerm := { encT with dflt := zeroL, inn := LtIn, mono := fun _ _ x h hx => LtIn.mono h x hx }
instance encBo : Enc Bool := ⟨1, fun b => [.bool b], fun _ => rfl, fun x u hu => by obtain rfl := List.mem_singleton.1 hu; rfl⟩
instance layBo : Lay Bool := { encBo with dflt := false, inn := fun _ _ => True, mono := fun _ _ _ _ h => h }
instance layB : Lay UInt8 := { encB with dflt := 0, inn := fun _ _ => True, mono := fun _ _ _ _ h => h }
def InF {α : Type} [Lay α] (x : α) : World → Prop := fun w => Lay.inn w x
/-- a row of such things lies at p. -/
def GlF {α : Type} [Lay α] (p : Option Addr) (xs : List α) : World → Prop := fun w => SlF p (encL xs) w ∧ ∀ x ∈ xs, Lay.inn w x
def nthG {α : Type} [Lay α] (xs : List α) (k : Nat) : α := xs.getD k Lay.dflt
theorem nthG_get {α : Type} [Lay α] {xs : List α} {k : Nat} (h : k < xs.length) : xs[k]? = some (nthG xs k) := by simp [nthG, h]
theorem nthG_mem {α : Type} [Lay α] {xs : List α} {k : Nat} (h : k < xs.length) : nthG xs k ∈ xs := List.mem_of_getElem? (nthG_get h)
theorem nthG_drop {α : Type} [Lay α] {xs : List α} {k : Nat} (h : k < xs.length) : xs.drop k = nthG xs k :: xs.drop (k + 1) := by
  rw [List.drop_eq_getElem_cons h]
  congr 1
  simp [nthG, h]
theorem nthG_take {α : Type} [Lay α] {xs : List α} {k : Nat} (h : k < xs.length) : xs.take (k + 1) = xs.take k ++ [nthG xs k] := by
  rw [List.take_add_one, nthG_get h]; rfl
theorem nthG_L (xs : List LTerm) (k : Nat) : nthG xs k = nthL xs k := rfl
def gAddr (p : Option Addr) (k sz off : Nat) : Addr := (p.getD ⟨0, 0, none⟩).add (k * sz + off)
/-- a slice, and what lies in it. -/
structure Sl (α : Type) where
  p : Option Addr
  cap : Nat
  xs : List α
abbrev Sl.v {α : Type} (s : Sl α) : Value := .slice s.p s.xs.length s.cap
instance encSl {α : Type} : Enc (Sl α) := ⟨1, fun s => [s.v], fun _ => rfl, fun x u hu => by obtain rfl := List.mem_singleton.1 hu; rfl⟩
theorem SlF.mono {p : Option Addr} {xs : List Value} {w w' : World} (h : ∀ ad v, w.cell? ad = some v → w'.cell? ad = some v) (hs : SlF p xs w) : SlF p xs w' := ⟨hs.1, fun ad hp j u hj => h _ _ (hs.2 ad hp j u hj)⟩
theorem GlF.mono {α : Type} [Lay α] {p : Option Addr} {xs : List α} {w w' : World} (h : ∀ ad v, w.cell? ad = some v → w'.cell? ad = some v) (hs : GlF p xs w) : GlF p xs w' := ⟨hs.1.mono h, fun x hx => Lay.mono w w' x h (hs.2 x hx)⟩
instance laySl {α : Type} [Lay α] : Lay (Sl α) := { encSl with
  dflt := ⟨none, 0, []⟩
  inn := fun w s => s.xs.length ≤ s.cap ∧ s.cap ≤ maxLen ∧ GlF s.p s.xs w
  mono := fun _ _ _ h hx => ⟨hx.1, hx.2.1, hx.2.2.mono h⟩ }
theorem InF.stable {α : Type} [Lay α] {w : World} {x : α} (h : Lay.inn w x) : Stable (fun _ => False) w (InF x) := fun w' hw' => Lay.mono w w' x (fun _ _ hc => cell_agree hw' hc) h
theorem GlF.stable {α : Type} [Lay α] {w : World} {p : Option Addr} {xs : List α} (h : GlF p xs w) : Stable (fun _ => False) w (GlF p xs) := fun _ hw' => h.mono fun _ _ hc => cell_agree hw' hc
theorem gl_nil {α : Type} [Lay α] {w : World} {p : Option Addr} : GlF (α := α) p [] w := ⟨SlF.nil, fun _ h => by cases h⟩
theorem gl_some {α : Type} [Lay α] {w : World} {p : Option Addr} {xs : List α} (h : GlF p xs w) {k : Nat} (hk : k < xs.length) (hz : 0 < Enc.sz α) : ∃ ad, p = some ad := by
  cases hp : p with
  | some ad => exact ⟨ad, rfl⟩
  | none =>
    have h1 := congrArg List.length (h.1.1 hp)
    rw [encL_len] at h1
    have h2 : xs.length * Enc.sz α = 0 := h1
    rcases Nat.mul_eq_zero.1 h2 with h3 | h3 <;> omega
theorem gl_cell {α : Type} [Lay α] {w : World} {p : Option Addr} {xs : List α} (h : GlF p xs w) {k : Nat} (hk : k < xs.length) {j : Nat} {u : Value} (hj : (Enc.cells (nthG xs k))[j]? = some u) : w.cell? (gAddr p k (Enc.sz α) j) = some u := by
  have hjs : j < Enc.sz α := by
    have := (List.getElem?_eq_some_iff.1 hj).1
    rwa [Enc.len] at this
  obtain ⟨ad, rfl⟩ := gl_some h hk (by omega)
  exact h.1.2 ad rfl _ _ ((encL_get xs k _ (nthG_get hk) j hjs).trans hj)
/-- a list of terms, said in the one way and in the other. -/
theorem gl_ls {w : World} {p : Option Addr} {xs : List LTerm} (h : GlF p xs w) : LsF p 0 xs w := by
  cases hp : p with
  | none =>
    have := h.1.1 hp
    cases xs with
    | nil => trivial
    | cons x xs => simp [encL, Enc.cells] at this
  | some ad =>
    subst hp
    refine LsIn.of_all fun k t hk => ⟨fun j v hj => ?_, h.2 t (List.mem_of_getElem? hk)⟩
    have hj5 : j < 5 := by
      have := (List.getElem?_eq_some_iff.1 hj).1
      simpa [LTerm.cells] using this
    have := h.1.2 ad rfl (k * 5 + j) v ((encL_get xs k t hk j hj5).trans hj)
    simpa using this
theorem ls_gl {w : World} {p : Option Addr} {xs : List LTerm} (h : LsF p 0 xs w) : GlF p xs w := by
  refine ⟨⟨fun hp => ?_, fun ad hp j u hj => lsIn_cells h hp j u hj⟩, fun x hx => ?_⟩
  · subst hp; rw [LsIn.nil_of h]; rfl
  · obtain ⟨k, hk⟩ := List.getElem?_of_mem hx
    exact (LsIn.get h hk).2

/-! facts about them -/
class HasG (fs : List (World → Prop)) (p : Option Addr) (α : outParam Type) (i : outParam (Lay α)) (xs : outParam (List α)) : Prop where
  of : ∀ (M : Nat → Prop) (w : World), (∀ Φ ∈ fs, Stable M w Φ) → Stable M w (GlF p xs)
instance hasg0 {α : Type} [i : Lay α] {fs : List (World → Prop)} {p : Option Addr} {xs : List α} : HasG (GlF p xs :: fs) p α i xs := ⟨fun _ _ h => h _ (by simp)⟩
instance (priority := 900) hasgS {α : Type} {i : Lay α} {fs : List (World → Prop)} {Φ : World → Prop} {p : Option Addr} {xs : List α} [h : HasG fs p α i xs] : HasG (Φ :: fs) p α i xs := ⟨fun M w hf => h.of M w fun Ψ hΨ => hf Ψ (by simp [hΨ])⟩
/-- likewise, asked for by the list. -/
class HasGx (fs : List (World → Prop)) {α : Type} [Lay α] (xs : List α) : Prop where
  of : ∀ (M : Nat → Prop) (w : World), (∀ Φ ∈ fs, Stable M w Φ) → ∃ p, Stable M w (GlF p xs)
instance hasgx0 {α : Type} [i : Lay α] {fs : List (World → Prop)} {p : Option Addr} {xs : List α} : HasGx (GlF p xs :: fs) xs := ⟨fun _ _ h => ⟨p, h _ (by simp)⟩⟩
instance (priority := 900) hasgxS {α : Type} [i : Lay α] {fs : List (World → Prop)} {Φ : World → Prop} {xs : List α} [h : HasGx fs xs] : HasGx (Φ :: fs) xs := ⟨fun M w hf => h.of M w fun Ψ hΨ => hf Ψ (by simp [hΨ])⟩
/-- the facts say that this lies where it says. -/
class HasI (fs : List (World → Prop)) {α : Type} [Lay α] (x : α) : Prop where
  of : ∀ (M : Nat → Prop) (w : World), (∀ Φ ∈ fs, Stable M w Φ) → Stable M w (InF x)
instance hasi0 {α : Type} [Lay α] {fs : List (World → Prop)} {x : α} [h : HasFact fs (InF x)] : HasI fs x := ⟨fun _ _ hf => hf _ h.mem⟩
instance (priority := 900) hasi1 {α : Type} [Lay α] {fs : List (World → Prop)} {xs : List α} {k : Nat} [h : HasGx fs xs] [hk : KLt k xs.length] : HasI fs (nthG xs k) := ⟨fun M w hf => by
  obtain ⟨p, hp⟩ := h.of M w hf
  exact hp.imp fun w' hw' => hw'.2 _ (nthG_mem hk.lt)⟩
/-- what lies in a slice that lies where it says. -/
instance (priority := 850) hasgI {α : Type} [i : Lay α] {fs : List (World → Prop)} {s : Sl α} [h : HasI fs s] : HasG fs s.p α i s.xs := ⟨fun M w hf => (h.of M w hf).imp fun _ h => h.2.2⟩
instance (priority := 850) hasgxI {α : Type} [i : Lay α] {fs : List (World → Prop)} {s : Sl α} [h : HasI fs s] : HasGx fs s.xs := ⟨fun M w hf => ⟨s.p, (h.of M w hf).imp fun _ h => h.2.2⟩⟩
instance (priority := 700) hasls_g {fs : List (World → Prop)} {p : Option Addr} {xs : List LTerm} [h : HasG fs p LTerm layT xs] : HasLs fs p xs := ⟨fun M w hf => (h.of M w hf).imp fun _ h => gl_ls h⟩
instance (priority := 700) haslx_g {fs : List (World → Prop)} {xs : List LTerm} [h : HasGx fs xs] : HasLx fs xs := ⟨fun M w hf => by obtain ⟨p, hp⟩ := h.of M w hf; exact ⟨p, hp.imp fun _ h => gl_ls h⟩⟩
instance (priority := 700) hast_i {fs : List (World → Prop)} {t : LTerm} [h : HasI fs t] : HasT fs t := ⟨fun M w hf => h.of M w hf⟩
section
variable {α : Type} [Lay α] {w0 : World} {M0 : Nat → Prop} {ds : List Deferred} {a : Act} {w : World} {l : List Value} {bs : List Item} {fs : List (World → Prop)}
theorem Mem.i (m : Mem w bs fs) (x : α) [h : HasI fs x] : Stable (foots bs) w (InF x) := h.of _ _ m.facts
theorem Mem.i0 (m : Mem w bs fs) (x : α) [h : HasI fs x] : Stable (fun _ => False) w (InF x) := (m.i x).less fun _ _ h => h.elim
theorem St.i (S : St w0 M0 ds a w l bs fs) (x : α) [h : HasI fs x] : Stable (foots bs) w (InF x) := S.mem.i x
theorem St.i0 (S : St w0 M0 ds a w l bs fs) (x : α) [h : HasI fs x] : Stable (fun _ => False) w (InF x) := S.mem.i0 x
theorem St.laterI (S : St w0 M0 ds a w l bs fs) {M : Nat → Prop} [he : HasExt bs M] (x : α) [h : HasI fs x] : Stable M w (InF x) := (S.i x).less fun _ _ hk => ⟨_, he.mem, hk⟩
theorem St.gl {α : Type} {i : Lay α} (S : St w0 M0 ds a w l bs fs) (p : Option Addr) {xs : List α} [h : HasG fs p α i xs] : Stable (foots bs) w (GlF p xs) := h.of _ _ S.wd.facts
theorem St.gl0 {α : Type} {i : Lay α} (S : St w0 M0 ds a w l bs fs) (p : Option Addr) {xs : List α} [h : HasG fs p α i xs] : Stable (fun _ => False) w (GlF p xs) := (S.gl p).less fun _ _ h => h.elim
/-- one's own row, as others read it. -/
theorem gl_of_own {M : Nat → Prop} {e : TypeId} {p : Option Addr} {n c sz : Nat} {xs : List α} (h : w.ownsRow 0 e sz (.slice p n c) n (encL xs)) (hk : ∀ x ∈ xs, Stable M w (InF x)) (hM : ∀ ad, p = some ad → ¬ M ad.block) : Stable M w (GlF p xs) := fun w' hw' =>
  ⟨SlF.stable (own_sl h) hM w' hw', fun x hx => hk x hx w' hw'⟩
end

/-! places in such rows -/
class SzE (α : Type) [Lay α] (n : outParam Nat) : Prop where
  eq : Enc.sz α = n
  pos : 0 < n
instance : SzE Int 1 := ⟨rfl, by decide⟩
instance : SzE Bool 1 := ⟨rfl, by decide⟩
instance : SzE UInt8 1 := ⟨rfl, by decide⟩
instance : SzE (List UInt8) 1 := ⟨rfl, by decide⟩
instance : SzE LTerm 5 := ⟨rfl, by decide⟩
instance {α : Type} [Lay α] : SzE (Sl α) 1 := ⟨rfl, by decide⟩
/-- what a thing's cells are. -/
class CellsOf {α : Type} [Lay α] (x : α) (cs : outParam (List Value)) : Prop where eq : Enc.cells x = cs
instance {x : Int} : CellsOf x [.int .i64 x] := ⟨rfl⟩
instance {x : Bool} : CellsOf x [.bool x] := ⟨rfl⟩
instance {x : UInt8} : CellsOf x [.int .u8 x.toNat] := ⟨rfl⟩
instance {x : List UInt8} : CellsOf x [str x] := ⟨rfl⟩
instance {x : LTerm} : CellsOf x x.cells := ⟨rfl⟩
instance {α : Type} [Lay α] {x : Sl α} : CellsOf x [.slice x.p x.xs.length x.cap] := ⟨rfl⟩
section
variable {P : Program} {l : Cx} {bs : List Item} {fs : List (World → Prop)} {x y : Operand} {p : Option Addr} {n c k sz off : Nat} {kk : IntKind} {m : Int} {t ty e : TypeId} {z : Value} {by_ : Nat} {α : Type} {i : Lay α} {xs : List α}
instance (priority := 880) opIdxG [Ev l x (.slice p n c)] [Ev l y (.int kk m)] [Und P t (.slice e)] [TI P e z sz by_] [hm : IsNat m k] [hl : HasG fs p α i xs] [hs : SzE α sz] [hk : KLt k n] [hk' : KLt k xs.length] :
    OpQ P (.indexAddr t x y) ty l bs fs (.pointer (some (gAddr p k sz 0))) := ⟨fun ρ w h mm => by
  have hlt := hk.lt
  obtain ⟨ad, rfl⟩ := gl_some (hl.of _ _ mm.facts).now hk'.lt (by rw [hs.eq]; exact hs.pos)
  have h2 := hm.eq
  subst h2
  simp [xop, execOp, h.ev (x := x) (v := .slice (some ad) n c), h.ev (x := y) (v := .int kk (k : Int))]
  simp [run_indexAt (P := P) (t := t) (e := e) (z := z) (sz := sz) (by_ := by_) (Int.natCast_nonneg k) (Int.ofNat_lt.2 hlt), gAddr]⟩
theorem gAddr_add (p : Option Addr) (k sz o j : Nat) : (gAddr p k sz o).add j = gAddr p k sz (o + j) := by simp only [gAddr, add_add, Nat.add_assoc]
instance (priority := 880) opFieldG [Ev l x (.pointer (some (gAddr p k sz 0)))] {s f ft : Nat} [hf : Fld P s f off ft] : OpQ P (.fieldAddr s x f) ty l bs fs (.pointer (some (gAddr p k sz off))) := ⟨fun ρ w h _ => by
  simp [xop, execOp, h.ev (x := x) (v := .pointer (some (gAddr p k sz 0))), run_fieldAt (P := P) (s := s) (f := f) (off := off) (ft := ft), gAddr_add]⟩
instance (priority := 870) opFieldG2 [Ev l x (.pointer (some (gAddr p k sz off)))] {s f ft o2 o3 : Nat} [hf : Fld P s f o2 ft] [ha : AddN off o2 o3] : OpQ P (.fieldAddr s x f) ty l bs fs (.pointer (some (gAddr p k sz o3))) := ⟨fun ρ w h _ => by
  simp [xop, execOp, h.ev (x := x) (v := .pointer (some (gAddr p k sz off))), run_fieldAt (P := P) (s := s) (f := f) (off := o2) (ft := ft), gAddr_add, ha.eq]⟩
theorem gl_cells {cs : List Value} {w : World} [hs : SzE α sz] (h : GlF p xs w) (hk : k < xs.length) [hc : CellsOf (nthG xs k) cs] {j : Nat} {u : Value} (hj : cs[j]? = some u) : w.cell? (gAddr p k sz j) = some u := by
  rw [← hs.eq]
  exact gl_cell h hk (by rw [hc.eq]; exact hj)
instance (priority := 780) opLoadG1 {v : Value} {cs : List Value} [Ev l x (.pointer (some (gAddr p k sz off)))] [ha : AggT P t false] [hl : HasG fs p α i xs] [hs : SzE α sz] [hk : KLt k xs.length] [hc : CellsOf (nthG xs k) cs] [hn : Nth cs off v] :
    OpQ P (.load t x) ty l bs fs v := ⟨fun ρ w h mm => by
  have h1 := gl_cells (hl.of _ _ mm.facts).now hk.lt hn.eq
  simp [xop, execOp, Instr.loadAt, h.ev (x := x) (v := .pointer (some (gAddr p k sz off))), Instr.sureAddr, loadVar, Sem.run_bind, ha.run, load, Sem.run, h1]⟩
instance (priority := 780) opLoadGA {cs vs : List Value} [Ev l x (.pointer (some (gAddr p k sz off)))] [ha : AggT P t true] [TI P t z n by_] [hl : HasG fs p α i xs] [hs : SzE α sz] [hk : KLt k xs.length] [hc : CellsOf (nthG xs k) cs] [hn : Seg cs off n vs] :
    OpQ P (.load t x) ty l bs fs (.agg ⟨vs⟩) := ⟨fun ρ w h mm => by
  have hlc := run_loadCells_list (P := P) w (gAddr p k sz off) vs (fun j v hj => by
    have hjn : j < n := by rw [← hn.eq.1]; exact (List.getElem?_eq_some_iff.1 hj).1
    rw [gAddr_add]
    exact gl_cells (hl.of _ _ mm.facts).now hk.lt ((hn.eq.2 j hjn).trans hj))
  rw [hn.eq.1] at hlc
  simp [xop, execOp, Instr.loadAt, h.ev (x := x) (v := .pointer (some (gAddr p k sz off))), Instr.sureAddr, loadVar, Sem.run_bind, ha.run, run_size, hlc]⟩
instance (priority := 860) srcG {tx : TypeId} [h : Und P tx (.slice e)] [hr : HasG fs p α i xs] [hs : SzE α sz] [hn : LenN xs n] : SrcV P tx (.slice p n c) bs fs sz n (encL xs) := ⟨fun w mm =>
  src_sl h.eq (hr.of _ _ mm.facts).now.1 (by rw [encL_len, hn.eq, hs.eq]) (encL_one xs) hs.pos⟩
end

/-! what came in -/
class Tro (P : Program) (T : TypeId) (α : Type) [Lay α] : Prop where
  of : ∀ {H : Type} (enc : TypeId × Value → H) (w : World) (base : Nat) (spare : Nat → Bool) (held : Bool) (fuel : Nat) (cs : List Value) (x : DataW H × List MemPlace), DataW.trod enc P w base spare held fuel T cs = some x → ∃ a : α, cs = Enc.cells a ∧ Lay.inn w a
  size : P.cellsOf T = Enc.sz α
theorem str_of (s : ByteArray) : Value.string s = str s.data.toList := by simp [str]
theorem troI {P : Program} {T : TypeId} (hu : P.underlying T = some (.int .i64)) (hs : P.cellsOf T = 1) : Tro P T Int := ⟨fun enc w base spare held fuel cs x h => by
  obtain ⟨k, e0, _, _⟩ := DataW.trod_int hu h
  exact ⟨k, e0, trivial⟩, hs⟩
theorem troBo {P : Program} {T : TypeId} (hu : P.underlying T = some .bool) (hs : P.cellsOf T = 1) : Tro P T Bool := ⟨fun enc w base spare held fuel cs x h => by
  obtain ⟨k, e0, _⟩ := DataW.trod_bool hu h
  exact ⟨k, e0, trivial⟩, hs⟩
theorem troB {P : Program} {T : TypeId} (hu : P.underlying T = some (.int .u8)) (hs : P.cellsOf T = 1) : Tro P T UInt8 := ⟨fun enc w base spare held fuel cs x h => by
  obtain ⟨k, e0, _, hw⟩ := DataW.trod_int hu h
  have hr : 0 ≤ k ∧ k < 256 := by
    simp [Lit.wf, IntKind.min, IntKind.max, IntKind.bits, IntKind.signed] at hw
    omega
  refine ⟨UInt8.ofNat k.toNat, ?_, trivial⟩
  rw [e0]
  show _ = [Value.int .u8 ((UInt8.ofNat k.toNat).toNat : Int)]
  rw [UInt8.toNat_ofNat_of_lt' (by show k.toNat < 256; omega)]
  congr 2; omega, hs⟩
theorem troS {P : Program} {T : TypeId} (hu : P.underlying T = some .string) (hs : P.cellsOf T = 1) : Tro P T (List UInt8) := ⟨fun enc w base spare held fuel cs x h => by
  obtain ⟨s, e0, _⟩ := DataW.trod_string hu h
  exact ⟨s.data.toList, by rw [e0, str_of]; rfl, trivial⟩, hs⟩
theorem troSl {P : Program} {T L : TypeId} {α : Type} [Lay α] [hT : Tro P T α] (hu : P.underlying L = some (.slice T)) (hs : P.cellsOf L = 1) : Tro P L (Sl α) := ⟨fun enc w base spare held fuel cs x h => by
  rcases DataW.trod_slice hu h with ⟨e4, _⟩ | ⟨ad, len, cap, elems, rest, n', rfl, e4, _, _, hlc, hcm, hel, hem, _, _⟩
  · exact ⟨⟨none, 0, []⟩, e4, Nat.le_refl _, Nat.zero_le _, gl_nil⟩
  · subst e4
    have : Inhabited α := ⟨Lay.dflt⟩
    obtain ⟨g, hg⟩ := choose_lt (α := α) (p := fun i t => w.cells? base (ad.add (i * Enc.sz α)) (Enc.sz α) = some (Enc.cells t) ∧ Lay.inn w t) (n := len) (fun i hi => by
      have h1 := hem i hi
      rw [hT.size, List.getElem?_eq_getElem (by omega)] at h1
      obtain ⟨cs', h2, h3⟩ := Option.bind_eq_some_iff.1 h1
      obtain ⟨t, rfl, ht⟩ := hT.of _ _ _ _ _ _ _ _ h3
      exact ⟨t, h2, ht⟩)
    refine ⟨⟨some ad, cap, (List.range len).map g⟩, by simp [Enc.cells, Sl.v], by simpa using hlc, hcm, ⟨fun h => (by cases h), fun ad' hp j u hj => ?_⟩, fun t ht => ?_⟩
    · obtain rfl : ad = ad' := by simpa using hp
      have hjl : j < len * Enc.sz α := by
        have := (List.getElem?_eq_some_iff.1 hj).1
        rw [encL_len] at this; simpa using this
      have hz : 0 < Enc.sz α := Nat.pos_of_ne_zero fun h0 => by rw [h0] at hjl; omega
      have hi : j / Enc.sz α < len := (Nat.div_lt_iff_lt_mul hz).2 hjl
      have hm : j % Enc.sz α < Enc.sz α := Nat.mod_lt _ hz
      have hdm : j / Enc.sz α * Enc.sz α + j % Enc.sz α = j := Nat.div_add_mod' j _
      obtain ⟨hc, -⟩ := hg _ hi
      obtain ⟨_, _, h5⟩ := World.cells?_some hc
      have h6 := h5 _ hm
      have h7 := encL_get ((List.range len).map g) (j / Enc.sz α) (g (j / Enc.sz α)) (by simp [hi]) _ hm
      rw [hdm, hj] at h7
      rw [Go.Deep.add_add, hdm] at h6
      rw [h6, ← h7]
    · obtain ⟨i, hi, rfl⟩ := List.mem_map.1 ht
      exact (hg i (List.mem_range.1 hi)).2, hs⟩
theorem trod_flds {H : Type} {enc : TypeId × Value → H} {P : Program} {w : World} {base : Nat} {spare : Nat → Bool} {held : Bool} {T : TypeId} {fs : Array Field} (hu : P.underlying T = some (.struct fs)) {fuel : Nat} {cs : List Value} {x : DataW H × List MemPlace} (h : DataW.trod enc P w base spare held fuel T cs = some x) :
    cs.length = P.cellsOf T ∧ ∀ (i t o : Nat), (fs.toList.map (fun f => (f.type, f.offset)))[i]? = some (t, o) → ∃ n y, DataW.trod enc P w base spare held n t ((cs.drop o).take (P.cellsOf t)) = some y := by
  obtain ⟨xs, n, rfl, rfl, hlen, hxl, hx⟩ := DataW.trod_struct hu h
  refine ⟨hlen, fun i t o hi => ?_⟩
  rw [List.getElem?_map] at hi
  obtain ⟨f, hf1, hf2⟩ := Option.map_eq_some_iff.1 hi
  simp only [Prod.mk.injEq] at hf2
  obtain ⟨rfl, rfl⟩ := hf2
  have hlt : i < fs.size := by simpa using (List.getElem?_eq_some_iff.1 hf1).1
  have := hx i f (by simpa using hf1)
  rw [List.getElem?_eq_getElem (by omega)] at this
  exact ⟨n, _, this⟩
/-- the parts of a struct, one behind the other. -/
theorem trod_fld {H : Type} {enc : TypeId × Value → H} {P : Program} {w : World} {base : Nat} {spare : Nat → Bool} {held : Bool} {T : TypeId} {α : Type} [Lay α] [hT : Tro P T α] {n : Nat} {cs : List Value} {y : DataW H × List MemPlace} {o s : Nat} (h : DataW.trod enc P w base spare held n T ((cs.drop o).take s) = some y) (hs : s = P.cellsOf T) :
    ∃ a : α, (cs.drop o).take (Enc.sz α) = Enc.cells a ∧ Lay.inn w a := by
  subst hs
  obtain ⟨a, h1, h2⟩ := hT.of _ _ _ _ _ _ _ _ h
  exact ⟨a, by rw [← hT.size]; exact h1, h2⟩
theorem troT {P : Program} {T : TypeId} [hT : TermTy P T] : Tro P T LTerm := ⟨fun enc w base spare held fuel cs x h => term_of_trod fuel cs x h, by obtain ⟨fs, I, S, L, hu, hf, hI, hS, hL, c1, c2, c3, c4⟩ := hT.ex; exact c1⟩
/-- a struct that came in. -/
theorem struct_of_Trod {P : Program} {T : TypeId} {α : Type} [Lay α] [hT : Tro P T α] {H : Type} {enc : TypeId × Value → H} {w : World} {base : Nat} {spare : Nat → Bool} {held : Bool} {fs : Array Field} (hu : P.underlying T = some (.struct fs)) {v : Value} {d : DataW H} {p : List MemPlace} {r : Reach} {W : World} {base' : Nat} (h : DataW.Trod enc P w base spare held T v d p) (hv : Value.okWide P W r base' T v) :
    ∃ a : α, v = .agg ⟨Enc.cells a⟩ ∧ Lay.inn w a := by
  obtain ⟨cs, rfl, _⟩ := okWide_struct hu hv
  obtain ⟨fuel, hf⟩ := h
  obtain ⟨a, e, ha⟩ := hT.of _ _ _ _ _ _ _ _ hf
  refine ⟨a, ?_, ha⟩
  have : cs.toList = Enc.cells a := by simpa [Value.cells] using e
  rw [← this]
theorem slice_of_Trod {P : Program} {L T : TypeId} {α : Type} [Lay α] [hT : Tro P L (Sl α)] {H : Type} {enc : TypeId × Value → H} {w : World} {base : Nat} {spare : Nat → Bool} {held : Bool} (hu : P.underlying L = some (.slice T)) {v : Value} {d : DataW H} {p : List MemPlace} {r : Reach} {W : World} {base' : Nat} (h : DataW.Trod enc P w base spare held L v d p) (hv : Value.okWide P W r base' L v) :
    ∃ s : Sl α, v = s.v ∧ s.xs.length ≤ s.cap ∧ s.cap ≤ maxLen ∧ GlF s.p s.xs w := by
  obtain ⟨a, len, cap, rfl⟩ := okWide_slice hu hv
  obtain ⟨fuel, hf⟩ := h
  obtain ⟨s, e, hs⟩ := hT.of _ _ _ _ _ _ _ _ hf
  refine ⟨s, ?_, hs⟩
  have : [Value.slice a len cap] = [s.v] := by simpa [Value.cells, Enc.cells] using e
  simpa using this
end Go.Wk

namespace Go.Wk
open Go

/-! frames that keep what a piece of code does not touch -/
/-- slots set one behind the other: (how many are passed over, the value). -/
class SetG (l : List Value) (ms : List (Nat × Value)) (l' : outParam (List Value)) : Prop where ok : True
instance setg0 {l : List Value} : SetG l [] l := ⟨trivial⟩
instance setg1 {u v : Value} {l l' : List Value} {ms : List (Nat × Value)} [SetG l ms l'] : SetG (u :: l) ((0, v) :: ms) (v :: l') := ⟨trivial⟩
instance setg2 {u v : Value} {g : Nat} {l l' : List Value} {ms : List (Nat × Value)} [SetG l ((g, v) :: ms) l'] : SetG (u :: l) ((g + 1, v) :: ms) (u :: l') := ⟨trivial⟩
section
variable {P : Program} {r : Option Nat} {Q : Exit → Act → World → Prop} {w0 : World} {M0 : Nat → Prop} {ds : List Deferred} {a : Act} {w : World} {l : List Value} {bs : List Item} {fs : List (World → Prop)}
theorem c_mrge0 {x y : Code}  (_S : St w0 M0 ds a w l bs fs) (mods : (Nat → Value) → List (Nat × Value)) {l1 : (Nat → Value) → List Value} [∀ uu, SetG l (mods uu) (l1 uu)] (bs1 : List Item) (fs1 : List (World → Prop)) (rel : Prop)
    (hx : Wp P r x (Exit.then (fun a w => ∃ vv, rel ∧ St w0 M0 ds a w (l1 vv) bs1 fs1) Q) a w) (hy : ∀  uu a w, rel → St w0 M0 ds a w (l1 uu) bs1 fs1 → Wp P r y Q a w) : Wp P r (.seq x y) Q a w :=
  c_merge _ hx fun a w h => by obtain ⟨vv, h1, h2⟩ := h; exact hy  vv a w h1 h2
theorem c_drwe0 {id : Nat} {lo : List Oper}  (t : Tr) (S : St w0 M0 ds a w l bs fs) (mods : (Nat → Value) → List (Nat × Value)) {l1 : (Nat → Value) → List Value} [∀ uu, SetG l (mods uu) (l1 uu)] (bs0 : List Item) (bs1 : List Item) (fs1 : List (World → Prop)) (rel : Prop)
    (h : ∀ w, St w0 M0 ds a w l bs fs → AT P lo.toArray (fun w => Wd w0 M0 w bs0 fs) (fun a w => ∃ vv, rel ∧ St w0 M0 ds a w (l1 vv) bs1 fs1) t a w) (hK : ∀  uu a w, rel → St w0 M0 ds a w (l1 uu) bs1 fs1 → Q .normal a w) (hm : P.follows .mixedOrders = true := by kernel_rfl)
    (hd : ((lo.all fun o => !isDefer o.op) && (Nat.beq t.len lo.length && (Region.noSelect lo.toArray && flowT lo.toArray t (Array.replicate lo.length false)))) = true := by kernel_rfl) : Wp P r (.region id lo.toArray true) Q a w :=
  c_drawT t bs0 S _ h (fun a w h => by obtain ⟨vv, h1, h2⟩ := h; exact hK  vv a w h1 h2) hm hd
theorem c_mrgb0 {x y : Code}  (_S : St w0 M0 ds a w l bs fs) (mods : (Nat → Value) → List (Nat × Value)) {l1 : (Nat → Value) → List Value} [∀ uu, SetG l (mods uu) (l1 uu)]   (rel : Prop)
    (hx : Wp P r x (Exit.then (fun a w => ∃ vv, rel ∧ St w0 M0 ds a w (l1 vv) bs fs) Q) a w) (hy : ∀  uu a w, rel → St w0 M0 ds a w (l1 uu) bs fs → Wp P r y Q a w) : Wp P r (.seq x y) Q a w :=
  c_merge _ hx fun a w h => by obtain ⟨vv, h1, h2⟩ := h; exact hy  vv a w h1 h2
theorem c_drwb0 {id : Nat} {lo : List Oper}  (t : Tr) (S : St w0 M0 ds a w l bs fs) (mods : (Nat → Value) → List (Nat × Value)) {l1 : (Nat → Value) → List Value} [∀ uu, SetG l (mods uu) (l1 uu)] (bs0 : List Item)   (rel : Prop)
    (h : ∀ w, St w0 M0 ds a w l bs fs → AT P lo.toArray (fun w => Wd w0 M0 w bs0 fs) (fun a w => ∃ vv, rel ∧ St w0 M0 ds a w (l1 vv) bs fs) t a w) (hK : ∀  uu a w, rel → St w0 M0 ds a w (l1 uu) bs fs → Q .normal a w) (hm : P.follows .mixedOrders = true := by kernel_rfl)
    (hd : ((lo.all fun o => !isDefer o.op) && (Nat.beq t.len lo.length && (Region.noSelect lo.toArray && flowT lo.toArray t (Array.replicate lo.length false)))) = true := by kernel_rfl) : Wp P r (.region id lo.toArray true) Q a w :=
  c_drawT t bs0 S _ h (fun a w h => by obtain ⟨vv, h1, h2⟩ := h; exact hK  vv a w h1 h2) hm hd
theorem c_mrgf0 {x y : Code}  (_S : St w0 M0 ds a w l bs fs) (mods : (Nat → Value) → List (Nat × Value)) {l1 : (Nat → Value) → List Value} [∀ uu, SetG l (mods uu) (l1 uu)] (bs1 : List Item)  (rel : Prop)
    (hx : Wp P r x (Exit.then (fun a w => ∃ vv, rel ∧ St w0 M0 ds a w (l1 vv) bs1 fs) Q) a w) (hy : ∀  uu a w, rel → St w0 M0 ds a w (l1 uu) bs1 fs → Wp P r y Q a w) : Wp P r (.seq x y) Q a w :=
  c_merge _ hx fun a w h => by obtain ⟨vv, h1, h2⟩ := h; exact hy  vv a w h1 h2
theorem c_drwf0 {id : Nat} {lo : List Oper}  (t : Tr) (S : St w0 M0 ds a w l bs fs) (mods : (Nat → Value) → List (Nat × Value)) {l1 : (Nat → Value) → List Value} [∀ uu, SetG l (mods uu) (l1 uu)] (bs0 : List Item) (bs1 : List Item)  (rel : Prop)
    (h : ∀ w, St w0 M0 ds a w l bs fs → AT P lo.toArray (fun w => Wd w0 M0 w bs0 fs) (fun a w => ∃ vv, rel ∧ St w0 M0 ds a w (l1 vv) bs1 fs) t a w) (hK : ∀  uu a w, rel → St w0 M0 ds a w (l1 uu) bs1 fs → Q .normal a w) (hm : P.follows .mixedOrders = true := by kernel_rfl)
    (hd : ((lo.all fun o => !isDefer o.op) && (Nat.beq t.len lo.length && (Region.noSelect lo.toArray && flowT lo.toArray t (Array.replicate lo.length false)))) = true := by kernel_rfl) : Wp P r (.region id lo.toArray true) Q a w :=
  c_drawT t bs0 S _ h (fun a w h => by obtain ⟨vv, h1, h2⟩ := h; exact hK  vv a w h1 h2) hm hd
theorem c_fore1 {c : Code} {ι1 : Type} (_S : St w0 M0 ds a w l bs fs) (mods : ι1 → (Nat → Value) → List (Nat × Value)) {l1 : ι1 → (Nat → Value) → List Value} [∀ x1 uu, SetG l (mods x1 uu) (l1 x1 uu)] (bs1 : ι1 → List Item) (fs1 : ι1 → List (World → Prop)) (rel : ι1 → Prop) (μ : ι1 → Nat) (z1 : ι1) (h0 : rel z1) (uu0 : Nat → Value) (S0 : St w0 M0 ds a w (l1 z1 uu0) (bs1 z1) (fs1 z1))
    (hr : ∀ x1 uu a w, rel x1 → St w0 M0 ds a w (l1 x1 uu) (bs1 x1) (fs1 x1) → Wp P r c (Exit.then (fun a w => ∃ y1 vv, rel y1 ∧ St w0 M0 ds a w (l1 y1 vv) (bs1 y1) (fs1 y1) ∧ μ y1 < μ x1) Q) a w) : Wp P r (.loop c) Q a w := by
  refine c_loop (ι := ι1) (fun p a w => rel p ∧ ∃ uu, St w0 M0 ds a w (l1 p uu) (bs1 p) (fs1 p)) (fun p => μ p) (z1) ⟨h0, uu0, S0⟩ ?_
  rintro p a w ⟨h1, uu, S1⟩
  refine wpIn_mono (hr p uu a w h1 S1) fun e a1 w1 hq => ?_
  cases e <;> first | exact hq | skip
  obtain ⟨y1, vv, h2, S2, hm⟩ := hq
  exact ⟨y1, ⟨h2, vv, S2⟩, hm⟩
theorem c_mrge1 {x y : Code} {ι1 : Type} (_S : St w0 M0 ds a w l bs fs) (mods : ι1 → (Nat → Value) → List (Nat × Value)) {l1 : ι1 → (Nat → Value) → List Value} [∀ x1 uu, SetG l (mods x1 uu) (l1 x1 uu)] (bs1 : ι1 → List Item) (fs1 : ι1 → List (World → Prop)) (rel : ι1 → Prop)
    (hx : Wp P r x (Exit.then (fun a w => ∃ y1 vv, rel y1 ∧ St w0 M0 ds a w (l1 y1 vv) (bs1 y1) (fs1 y1)) Q) a w) (hy : ∀ x1 uu a w, rel x1 → St w0 M0 ds a w (l1 x1 uu) (bs1 x1) (fs1 x1) → Wp P r y Q a w) : Wp P r (.seq x y) Q a w :=
  c_merge _ hx fun a w h => by obtain ⟨y1, vv, h1, h2⟩ := h; exact hy y1 vv a w h1 h2
theorem c_drwe1 {id : Nat} {lo : List Oper} {ι1 : Type} (t : Tr) (S : St w0 M0 ds a w l bs fs) (mods : ι1 → (Nat → Value) → List (Nat × Value)) {l1 : ι1 → (Nat → Value) → List Value} [∀ x1 uu, SetG l (mods x1 uu) (l1 x1 uu)] (bs0 : List Item) (bs1 : ι1 → List Item) (fs1 : ι1 → List (World → Prop)) (rel : ι1 → Prop)
    (h : ∀ w, St w0 M0 ds a w l bs fs → AT P lo.toArray (fun w => Wd w0 M0 w bs0 fs) (fun a w => ∃ y1 vv, rel y1 ∧ St w0 M0 ds a w (l1 y1 vv) (bs1 y1) (fs1 y1)) t a w) (hK : ∀ x1 uu a w, rel x1 → St w0 M0 ds a w (l1 x1 uu) (bs1 x1) (fs1 x1) → Q .normal a w) (hm : P.follows .mixedOrders = true := by kernel_rfl)
    (hd : ((lo.all fun o => !isDefer o.op) && (Nat.beq t.len lo.length && (Region.noSelect lo.toArray && flowT lo.toArray t (Array.replicate lo.length false)))) = true := by kernel_rfl) : Wp P r (.region id lo.toArray true) Q a w :=
  c_drawT t bs0 S _ h (fun a w h => by obtain ⟨y1, vv, h1, h2⟩ := h; exact hK y1 vv a w h1 h2) hm hd
theorem c_forb1 {c : Code} {ι1 : Type} (_S : St w0 M0 ds a w l bs fs) (mods : ι1 → (Nat → Value) → List (Nat × Value)) {l1 : ι1 → (Nat → Value) → List Value} [∀ x1 uu, SetG l (mods x1 uu) (l1 x1 uu)]   (rel : ι1 → Prop) (μ : ι1 → Nat) (z1 : ι1) (h0 : rel z1) (uu0 : Nat → Value) (S0 : St w0 M0 ds a w (l1 z1 uu0) bs fs)
    (hr : ∀ x1 uu a w, rel x1 → St w0 M0 ds a w (l1 x1 uu) bs fs → Wp P r c (Exit.then (fun a w => ∃ y1 vv, rel y1 ∧ St w0 M0 ds a w (l1 y1 vv) bs fs ∧ μ y1 < μ x1) Q) a w) : Wp P r (.loop c) Q a w := by
  refine c_loop (ι := ι1) (fun p a w => rel p ∧ ∃ uu, St w0 M0 ds a w (l1 p uu) bs fs) (fun p => μ p) (z1) ⟨h0, uu0, S0⟩ ?_
  rintro p a w ⟨h1, uu, S1⟩
  refine wpIn_mono (hr p uu a w h1 S1) fun e a1 w1 hq => ?_
  cases e <;> first | exact hq | skip
  obtain ⟨y1, vv, h2, S2, hm⟩ := hq
  exact ⟨y1, ⟨h2, vv, S2⟩, hm⟩
theorem c_mrgb1 {x y : Code} {ι1 : Type} (_S : St w0 M0 ds a w l bs fs) (mods : ι1 → (Nat → Value) → List (Nat × Value)) {l1 : ι1 → (Nat → Value) → List Value} [∀ x1 uu, SetG l (mods x1 uu) (l1 x1 uu)]   (rel : ι1 → Prop)
    (hx : Wp P r x (Exit.then (fun a w => ∃ y1 vv, rel y1 ∧ St w0 M0 ds a w (l1 y1 vv) bs fs) Q) a w) (hy : ∀ x1 uu a w, rel x1 → St w0 M0 ds a w (l1 x1 uu) bs fs → Wp P r y Q a w) : Wp P r (.seq x y) Q a w :=
  c_merge _ hx fun a w h => by obtain ⟨y1, vv, h1, h2⟩ := h; exact hy y1 vv a w h1 h2
theorem c_drwb1 {id : Nat} {lo : List Oper} {ι1 : Type} (t : Tr) (S : St w0 M0 ds a w l bs fs) (mods : ι1 → (Nat → Value) → List (Nat × Value)) {l1 : ι1 → (Nat → Value) → List Value} [∀ x1 uu, SetG l (mods x1 uu) (l1 x1 uu)] (bs0 : List Item)   (rel : ι1 → Prop)
    (h : ∀ w, St w0 M0 ds a w l bs fs → AT P lo.toArray (fun w => Wd w0 M0 w bs0 fs) (fun a w => ∃ y1 vv, rel y1 ∧ St w0 M0 ds a w (l1 y1 vv) bs fs) t a w) (hK : ∀ x1 uu a w, rel x1 → St w0 M0 ds a w (l1 x1 uu) bs fs → Q .normal a w) (hm : P.follows .mixedOrders = true := by kernel_rfl)
    (hd : ((lo.all fun o => !isDefer o.op) && (Nat.beq t.len lo.length && (Region.noSelect lo.toArray && flowT lo.toArray t (Array.replicate lo.length false)))) = true := by kernel_rfl) : Wp P r (.region id lo.toArray true) Q a w :=
  c_drawT t bs0 S _ h (fun a w h => by obtain ⟨y1, vv, h1, h2⟩ := h; exact hK y1 vv a w h1 h2) hm hd
theorem c_forf1 {c : Code} {ι1 : Type} (_S : St w0 M0 ds a w l bs fs) (mods : ι1 → (Nat → Value) → List (Nat × Value)) {l1 : ι1 → (Nat → Value) → List Value} [∀ x1 uu, SetG l (mods x1 uu) (l1 x1 uu)] (bs1 : ι1 → List Item)  (rel : ι1 → Prop) (μ : ι1 → Nat) (z1 : ι1) (h0 : rel z1) (uu0 : Nat → Value) (S0 : St w0 M0 ds a w (l1 z1 uu0) (bs1 z1) fs)
    (hr : ∀ x1 uu a w, rel x1 → St w0 M0 ds a w (l1 x1 uu) (bs1 x1) fs → Wp P r c (Exit.then (fun a w => ∃ y1 vv, rel y1 ∧ St w0 M0 ds a w (l1 y1 vv) (bs1 y1) fs ∧ μ y1 < μ x1) Q) a w) : Wp P r (.loop c) Q a w := by
  refine c_loop (ι := ι1) (fun p a w => rel p ∧ ∃ uu, St w0 M0 ds a w (l1 p uu) (bs1 p) fs) (fun p => μ p) (z1) ⟨h0, uu0, S0⟩ ?_
  rintro p a w ⟨h1, uu, S1⟩
  refine wpIn_mono (hr p uu a w h1 S1) fun e a1 w1 hq => ?_
  cases e <;> first | exact hq | skip
  obtain ⟨y1, vv, h2, S2, hm⟩ := hq
  exact ⟨y1, ⟨h2, vv, S2⟩, hm⟩
theorem c_mrgf1 {x y : Code} {ι1 : Type} (_S : St w0 M0 ds a w l bs fs) (mods : ι1 → (Nat → Value) → List (Nat × Value)) {l1 : ι1 → (Nat → Value) → List Value} [∀ x1 uu, SetG l (mods x1 uu) (l1 x1 uu)] (bs1 : ι1 → List Item)  (rel : ι1 → Prop)
    (hx : Wp P r x (Exit.then (fun a w => ∃ y1 vv, rel y1 ∧ St w0 M0 ds a w (l1 y1 vv) (bs1 y1) fs) Q) a w) (hy : ∀ x1 uu a w, rel x1 → St w0 M0 ds a w (l1 x1 uu) (bs1 x1) fs → Wp P r y Q a w) : Wp P r (.seq x y) Q a w :=
  c_merge _ hx fun a w h => by obtain ⟨y1, vv, h1, h2⟩ := h; exact hy y1 vv a w h1 h2
theorem c_drwf1 {id : Nat} {lo : List Oper} {ι1 : Type} (t : Tr) (S : St w0 M0 ds a w l bs fs) (mods : ι1 → (Nat → Value) → List (Nat × Value)) {l1 : ι1 → (Nat → Value) → List Value} [∀ x1 uu, SetG l (mods x1 uu) (l1 x1 uu)] (bs0 : List Item) (bs1 : ι1 → List Item)  (rel : ι1 → Prop)
    (h : ∀ w, St w0 M0 ds a w l bs fs → AT P lo.toArray (fun w => Wd w0 M0 w bs0 fs) (fun a w => ∃ y1 vv, rel y1 ∧ St w0 M0 ds a w (l1 y1 vv) (bs1 y1) fs) t a w) (hK : ∀ x1 uu a w, rel x1 → St w0 M0 ds a w (l1 x1 uu) (bs1 x1) fs → Q .normal a w) (hm : P.follows .mixedOrders = true := by kernel_rfl)
    (hd : ((lo.all fun o => !isDefer o.op) && (Nat.beq t.len lo.length && (Region.noSelect lo.toArray && flowT lo.toArray t (Array.replicate lo.length false)))) = true := by kernel_rfl) : Wp P r (.region id lo.toArray true) Q a w :=
  c_drawT t bs0 S _ h (fun a w h => by obtain ⟨y1, vv, h1, h2⟩ := h; exact hK y1 vv a w h1 h2) hm hd
theorem c_fore2 {c : Code} {ι1 : Type} {ι2 : Type} (_S : St w0 M0 ds a w l bs fs) (mods : ι1 → ι2 → (Nat → Value) → List (Nat × Value)) {l1 : ι1 → ι2 → (Nat → Value) → List Value} [∀ x1 x2 uu, SetG l (mods x1 x2 uu) (l1 x1 x2 uu)] (bs1 : ι1 → ι2 → List Item) (fs1 : ι1 → ι2 → List (World → Prop)) (rel : ι1 → ι2 → Prop) (μ : ι1 → ι2 → Nat) (z1 : ι1) (z2 : ι2) (h0 : rel z1 z2) (uu0 : Nat → Value) (S0 : St w0 M0 ds a w (l1 z1 z2 uu0) (bs1 z1 z2) (fs1 z1 z2))
    (hr : ∀ x1 x2 uu a w, rel x1 x2 → St w0 M0 ds a w (l1 x1 x2 uu) (bs1 x1 x2) (fs1 x1 x2) → Wp P r c (Exit.then (fun a w => ∃ y1 y2 vv, rel y1 y2 ∧ St w0 M0 ds a w (l1 y1 y2 vv) (bs1 y1 y2) (fs1 y1 y2) ∧ μ y1 y2 < μ x1 x2) Q) a w) : Wp P r (.loop c) Q a w := by
  refine c_loop (ι := ι1 × ι2) (fun p a w => rel (p.1) (p.2) ∧ ∃ uu, St w0 M0 ds a w (l1 (p.1) (p.2) uu) (bs1 (p.1) (p.2)) (fs1 (p.1) (p.2))) (fun p => μ (p.1) (p.2)) (z1, z2) ⟨h0, uu0, S0⟩ ?_
  rintro p a w ⟨h1, uu, S1⟩
  refine wpIn_mono (hr (p.1) (p.2) uu a w h1 S1) fun e a1 w1 hq => ?_
  cases e <;> first | exact hq | skip
  obtain ⟨y1, y2, vv, h2, S2, hm⟩ := hq
  exact ⟨(y1, y2), ⟨h2, vv, S2⟩, hm⟩
theorem c_mrge2 {x y : Code} {ι1 : Type} {ι2 : Type} (_S : St w0 M0 ds a w l bs fs) (mods : ι1 → ι2 → (Nat → Value) → List (Nat × Value)) {l1 : ι1 → ι2 → (Nat → Value) → List Value} [∀ x1 x2 uu, SetG l (mods x1 x2 uu) (l1 x1 x2 uu)] (bs1 : ι1 → ι2 → List Item) (fs1 : ι1 → ι2 → List (World → Prop)) (rel : ι1 → ι2 → Prop)
    (hx : Wp P r x (Exit.then (fun a w => ∃ y1 y2 vv, rel y1 y2 ∧ St w0 M0 ds a w (l1 y1 y2 vv) (bs1 y1 y2) (fs1 y1 y2)) Q) a w) (hy : ∀ x1 x2 uu a w, rel x1 x2 → St w0 M0 ds a w (l1 x1 x2 uu) (bs1 x1 x2) (fs1 x1 x2) → Wp P r y Q a w) : Wp P r (.seq x y) Q a w :=
  c_merge _ hx fun a w h => by obtain ⟨y1, y2, vv, h1, h2⟩ := h; exact hy y1 y2 vv a w h1 h2
theorem c_drwe2 {id : Nat} {lo : List Oper} {ι1 : Type} {ι2 : Type} (t : Tr) (S : St w0 M0 ds a w l bs fs) (mods : ι1 → ι2 → (Nat → Value) → List (Nat × Value)) {l1 : ι1 → ι2 → (Nat → Value) → List Value} [∀ x1 x2 uu, SetG l (mods x1 x2 uu) (l1 x1 x2 uu)] (bs0 : List Item) (bs1 : ι1 → ι2 → List Item) (fs1 : ι1 → ι2 → List (World → Prop)) (rel : ι1 → ι2 → Prop)
    (h : ∀ w, St w0 M0 ds a w l bs fs → AT P lo.toArray (fun w => Wd w0 M0 w bs0 fs) (fun a w => ∃ y1 y2 vv, rel y1 y2 ∧ St w0 M0 ds a w (l1 y1 y2 vv) (bs1 y1 y2) (fs1 y1 y2)) t a w) (hK : ∀ x1 x2 uu a w, rel x1 x2 → St w0 M0 ds a w (l1 x1 x2 uu) (bs1 x1 x2) (fs1 x1 x2) → Q .normal a w) (hm : P.follows .mixedOrders = true := by kernel_rfl)
    (hd : ((lo.all fun o => !isDefer o.op) && (Nat.beq t.len lo.length && (Region.noSelect lo.toArray && flowT lo.toArray t (Array.replicate lo.length false)))) = true := by kernel_rfl) : Wp P r (.region id lo.toArray true) Q a w :=
  c_drawT t bs0 S _ h (fun a w h => by obtain ⟨y1, y2, vv, h1, h2⟩ := h; exact hK y1 y2 vv a w h1 h2) hm hd
theorem c_forb2 {c : Code} {ι1 : Type} {ι2 : Type} (_S : St w0 M0 ds a w l bs fs) (mods : ι1 → ι2 → (Nat → Value) → List (Nat × Value)) {l1 : ι1 → ι2 → (Nat → Value) → List Value} [∀ x1 x2 uu, SetG l (mods x1 x2 uu) (l1 x1 x2 uu)]   (rel : ι1 → ι2 → Prop) (μ : ι1 → ι2 → Nat) (z1 : ι1) (z2 : ι2) (h0 : rel z1 z2) (uu0 : Nat → Value) (S0 : St w0 M0 ds a w (l1 z1 z2 uu0) bs fs)
    (hr : ∀ x1 x2 uu a w, rel x1 x2 → St w0 M0 ds a w (l1 x1 x2 uu) bs fs → Wp P r c (Exit.then (fun a w => ∃ y1 y2 vv, rel y1 y2 ∧ St w0 M0 ds a w (l1 y1 y2 vv) bs fs ∧ μ y1 y2 < μ x1 x2) Q) a w) : Wp P r (.loop c) Q a w := by
  refine c_loop (ι := ι1 × ι2) (fun p a w => rel (p.1) (p.2) ∧ ∃ uu, St w0 M0 ds a w (l1 (p.1) (p.2) uu) bs fs) (fun p => μ (p.1) (p.2)) (z1, z2) ⟨h0, uu0, S0⟩ ?_
  rintro p a w ⟨h1, uu, S1⟩
  refine wpIn_mono (hr (p.1) (p.2) uu a w h1 S1) fun e a1 w1 hq => ?_
  cases e <;> first | exact hq | skip
  obtain ⟨y1, y2, vv, h2, S2, hm⟩ := hq
  exact ⟨(y1, y2), ⟨h2, vv, S2⟩, hm⟩
theorem c_mrgb2 {x y : Code} {ι1 : Type} {ι2 : Type} (_S : St w0 M0 ds a w l bs fs) (mods : ι1 → ι2 → (Nat → Value) → List (Nat × Value)) {l1 : ι1 → ι2 → (Nat → Value) → List Value} [∀ x1 x2 uu, SetG l (mods x1 x2 uu) (l1 x1 x2 uu)]   (rel : ι1 → ι2 → Prop)
    (hx : Wp P r x (Exit.then (fun a w => ∃ y1 y2 vv, rel y1 y2 ∧ St w0 M0 ds a w (l1 y1 y2 vv) bs fs) Q) a w) (hy : ∀ x1 x2 uu a w, rel x1 x2 → St w0 M0 ds a w (l1 x1 x2 uu) bs fs → Wp P r y Q a w) : Wp P r (.seq x y) Q a w :=
  c_merge _ hx fun a w h => by obtain ⟨y1, y2, vv, h1, h2⟩ := h; exact hy y1 y2 vv a w h1 h2
theorem c_drwb2 {id : Nat} {lo : List Oper} {ι1 : Type} {ι2 : Type} (t : Tr) (S : St w0 M0 ds a w l bs fs) (mods : ι1 → ι2 → (Nat → Value) → List (Nat × Value)) {l1 : ι1 → ι2 → (Nat → Value) → List Value} [∀ x1 x2 uu, SetG l (mods x1 x2 uu) (l1 x1 x2 uu)] (bs0 : List Item)   (rel : ι1 → ι2 → Prop)
    (h : ∀ w, St w0 M0 ds a w l bs fs → AT P lo.toArray (fun w => Wd w0 M0 w bs0 fs) (fun a w => ∃ y1 y2 vv, rel y1 y2 ∧ St w0 M0 ds a w (l1 y1 y2 vv) bs fs) t a w) (hK : ∀ x1 x2 uu a w, rel x1 x2 → St w0 M0 ds a w (l1 x1 x2 uu) bs fs → Q .normal a w) (hm : P.follows .mixedOrders = true := by kernel_rfl)
    (hd : ((lo.all fun o => !isDefer o.op) && (Nat.beq t.len lo.length && (Region.noSelect lo.toArray && flowT lo.toArray t (Array.replicate lo.length false)))) = true := by kernel_rfl) : Wp P r (.region id lo.toArray true) Q a w :=
  c_drawT t bs0 S _ h (fun a w h => by obtain ⟨y1, y2, vv, h1, h2⟩ := h; exact hK y1 y2 vv a w h1 h2) hm hd
theorem c_forf2 {c : Code} {ι1 : Type} {ι2 : Type} (_S : St w0 M0 ds a w l bs fs) (mods : ι1 → ι2 → (Nat → Value) → List (Nat × Value)) {l1 : ι1 → ι2 → (Nat → Value) → List Value} [∀ x1 x2 uu, SetG l (mods x1 x2 uu) (l1 x1 x2 uu)] (bs1 : ι1 → ι2 → List Item)  (rel : ι1 → ι2 → Prop) (μ : ι1 → ι2 → Nat) (z1 : ι1) (z2 : ι2) (h0 : rel z1 z2) (uu0 : Nat → Value) (S0 : St w0 M0 ds a w (l1 z1 z2 uu0) (bs1 z1 z2) fs)
    (hr : ∀ x1 x2 uu a w, rel x1 x2 → St w0 M0 ds a w (l1 x1 x2 uu) (bs1 x1 x2) fs → Wp P r c (Exit.then (fun a w => ∃ y1 y2 vv, rel y1 y2 ∧ St w0 M0 ds a w (l1 y1 y2 vv) (bs1 y1 y2) fs ∧ μ y1 y2 < μ x1 x2) Q) a w) : Wp P r (.loop c) Q a w := by
  refine c_loop (ι := ι1 × ι2) (fun p a w => rel (p.1) (p.2) ∧ ∃ uu, St w0 M0 ds a w (l1 (p.1) (p.2) uu) (bs1 (p.1) (p.2)) fs) (fun p => μ (p.1) (p.2)) (z1, z2) ⟨h0, uu0, S0⟩ ?_
  rintro p a w ⟨h1, uu, S1⟩
  refine wpIn_mono (hr (p.1) (p.2) uu a w h1 S1) fun e a1 w1 hq => ?_
  cases e <;> first | exact hq | skip
  obtain ⟨y1, y2, vv, h2, S2, hm⟩ := hq
  exact ⟨(y1, y2), ⟨h2, vv, S2⟩, hm⟩
theorem c_mrgf2 {x y : Code} {ι1 : Type} {ι2 : Type} (_S : St w0 M0 ds a w l bs fs) (mods : ι1 → ι2 → (Nat → Value) → List (Nat × Value)) {l1 : ι1 → ι2 → (Nat → Value) → List Value} [∀ x1 x2 uu, SetG l (mods x1 x2 uu) (l1 x1 x2 uu)] (bs1 : ι1 → ι2 → List Item)  (rel : ι1 → ι2 → Prop)
    (hx : Wp P r x (Exit.then (fun a w => ∃ y1 y2 vv, rel y1 y2 ∧ St w0 M0 ds a w (l1 y1 y2 vv) (bs1 y1 y2) fs) Q) a w) (hy : ∀ x1 x2 uu a w, rel x1 x2 → St w0 M0 ds a w (l1 x1 x2 uu) (bs1 x1 x2) fs → Wp P r y Q a w) : Wp P r (.seq x y) Q a w :=
  c_merge _ hx fun a w h => by obtain ⟨y1, y2, vv, h1, h2⟩ := h; exact hy y1 y2 vv a w h1 h2
theorem c_drwf2 {id : Nat} {lo : List Oper} {ι1 : Type} {ι2 : Type} (t : Tr) (S : St w0 M0 ds a w l bs fs) (mods : ι1 → ι2 → (Nat → Value) → List (Nat × Value)) {l1 : ι1 → ι2 → (Nat → Value) → List Value} [∀ x1 x2 uu, SetG l (mods x1 x2 uu) (l1 x1 x2 uu)] (bs0 : List Item) (bs1 : ι1 → ι2 → List Item)  (rel : ι1 → ι2 → Prop)
    (h : ∀ w, St w0 M0 ds a w l bs fs → AT P lo.toArray (fun w => Wd w0 M0 w bs0 fs) (fun a w => ∃ y1 y2 vv, rel y1 y2 ∧ St w0 M0 ds a w (l1 y1 y2 vv) (bs1 y1 y2) fs) t a w) (hK : ∀ x1 x2 uu a w, rel x1 x2 → St w0 M0 ds a w (l1 x1 x2 uu) (bs1 x1 x2) fs → Q .normal a w) (hm : P.follows .mixedOrders = true := by kernel_rfl)
    (hd : ((lo.all fun o => !isDefer o.op) && (Nat.beq t.len lo.length && (Region.noSelect lo.toArray && flowT lo.toArray t (Array.replicate lo.length false)))) = true := by kernel_rfl) : Wp P r (.region id lo.toArray true) Q a w :=
  c_drawT t bs0 S _ h (fun a w h => by obtain ⟨y1, y2, vv, h1, h2⟩ := h; exact hK y1 y2 vv a w h1 h2) hm hd
theorem c_fore3 {c : Code} {ι1 : Type} {ι2 : Type} {ι3 : Type} (_S : St w0 M0 ds a w l bs fs) (mods : ι1 → ι2 → ι3 → (Nat → Value) → List (Nat × Value)) {l1 : ι1 → ι2 → ι3 → (Nat → Value) → List Value} [∀ x1 x2 x3 uu, SetG l (mods x1 x2 x3 uu) (l1 x1 x2 x3 uu)] (bs1 : ι1 → ι2 → ι3 → List Item) (fs1 : ι1 → ι2 → ι3 → List (World → Prop)) (rel : ι1 → ι2 → ι3 → Prop) (μ : ι1 → ι2 → ι3 → Nat) (z1 : ι1) (z2 : ι2) (z3 : ι3) (h0 : rel z1 z2 z3) (uu0 : Nat → Value) (S0 : St w0 M0 ds a w (l1 z1 z2 z3 uu0) (bs1 z1 z2 z3) (fs1 z1 z2 z3))
    (hr : ∀ x1 x2 x3 uu a w, rel x1 x2 x3 → St w0 M0 ds a w (l1 x1 x2 x3 uu) (bs1 x1 x2 x3) (fs1 x1 x2 x3) → Wp P r c (Exit.then (fun a w => ∃ y1 y2 y3 vv, rel y1 y2 y3 ∧ St w0 M0 ds a w (l1 y1 y2 y3 vv) (bs1 y1 y2 y3) (fs1 y1 y2 y3) ∧ μ y1 y2 y3 < μ x1 x2 x3) Q) a w) : Wp P r (.loop c) Q a w := by
  refine c_loop (ι := ι1 × ι2 × ι3) (fun p a w => rel (p.1) (p.2.1) (p.2.2) ∧ ∃ uu, St w0 M0 ds a w (l1 (p.1) (p.2.1) (p.2.2) uu) (bs1 (p.1) (p.2.1) (p.2.2)) (fs1 (p.1) (p.2.1) (p.2.2))) (fun p => μ (p.1) (p.2.1) (p.2.2)) (z1, z2, z3) ⟨h0, uu0, S0⟩ ?_
  rintro p a w ⟨h1, uu, S1⟩
  refine wpIn_mono (hr (p.1) (p.2.1) (p.2.2) uu a w h1 S1) fun e a1 w1 hq => ?_
  cases e <;> first | exact hq | skip
  obtain ⟨y1, y2, y3, vv, h2, S2, hm⟩ := hq
  exact ⟨(y1, y2, y3), ⟨h2, vv, S2⟩, hm⟩
theorem c_mrge3 {x y : Code} {ι1 : Type} {ι2 : Type} {ι3 : Type} (_S : St w0 M0 ds a w l bs fs) (mods : ι1 → ι2 → ι3 → (Nat → Value) → List (Nat × Value)) {l1 : ι1 → ι2 → ι3 → (Nat → Value) → List Value} [∀ x1 x2 x3 uu, SetG l (mods x1 x2 x3 uu) (l1 x1 x2 x3 uu)] (bs1 : ι1 → ι2 → ι3 → List Item) (fs1 : ι1 → ι2 → ι3 → List (World → Prop)) (rel : ι1 → ι2 → ι3 → Prop)
    (hx : Wp P r x (Exit.then (fun a w => ∃ y1 y2 y3 vv, rel y1 y2 y3 ∧ St w0 M0 ds a w (l1 y1 y2 y3 vv) (bs1 y1 y2 y3) (fs1 y1 y2 y3)) Q) a w) (hy : ∀ x1 x2 x3 uu a w, rel x1 x2 x3 → St w0 M0 ds a w (l1 x1 x2 x3 uu) (bs1 x1 x2 x3) (fs1 x1 x2 x3) → Wp P r y Q a w) : Wp P r (.seq x y) Q a w :=
  c_merge _ hx fun a w h => by obtain ⟨y1, y2, y3, vv, h1, h2⟩ := h; exact hy y1 y2 y3 vv a w h1 h2
theorem c_drwe3 {id : Nat} {lo : List Oper} {ι1 : Type} {ι2 : Type} {ι3 : Type} (t : Tr) (S : St w0 M0 ds a w l bs fs) (mods : ι1 → ι2 → ι3 → (Nat → Value) → List (Nat × Value)) {l1 : ι1 → ι2 → ι3 → (Nat → Value) → List Value} [∀ x1 x2 x3 uu, SetG l (mods x1 x2 x3 uu) (l1 x1 x2 x3 uu)] (bs0 : List Item) (bs1 : ι1 → ι2 → ι3 → List Item) (fs1 : ι1 → ι2 → ι3 → List (World → Prop)) (rel : ι1 → ι2 → ι3 → Prop)
    (h : ∀ w, St w0 M0 ds a w l bs fs → AT P lo.toArray (fun w => Wd w0 M0 w bs0 fs) (fun a w => ∃ y1 y2 y3 vv, rel y1 y2 y3 ∧ St w0 M0 ds a w (l1 y1 y2 y3 vv) (bs1 y1 y2 y3) (fs1 y1 y2 y3)) t a w) (hK : ∀ x1 x2 x3 uu a w, rel x1 x2 x3 → St w0 M0 ds a w (l1 x1 x2 x3 uu) (bs1 x1 x2 x3) (fs1 x1 x2 x3) → Q .normal a w) (hm : P.follows .mixedOrders = true := by kernel_rfl)
    (hd : ((lo.all fun o => !isDefer o.op) && (Nat.beq t.len lo.length && (Region.noSelect lo.toArray && flowT lo.toArray t (Array.replicate lo.length false)))) = true := by kernel_rfl) : Wp P r (.region id lo.toArray true) Q a w :=
  c_drawT t bs0 S _ h (fun a w h => by obtain ⟨y1, y2, y3, vv, h1, h2⟩ := h; exact hK y1 y2 y3 vv a w h1 h2) hm hd
theorem c_forb3 {c : Code} {ι1 : Type} {ι2 : Type} {ι3 : Type} (_S : St w0 M0 ds a w l bs fs) (mods : ι1 → ι2 → ι3 → (Nat → Value) → List (Nat × Value)) {l1 : ι1 → ι2 → ι3 → (Nat → Value) → List Value} [∀ x1 x2 x3 uu, SetG l (mods x1 x2 x3 uu) (l1 x1 x2 x3 uu)]   (rel : ι1 → ι2 → ι3 → Prop) (μ : ι1 → ι2 → ι3 → Nat) (z1 : ι1) (z2 : ι2) (z3 : ι3) (h0 : rel z1 z2 z3) (uu0 : Nat → Value) (S0 : St w0 M0 ds a w (l1 z1 z2 z3 uu0) bs fs)
    (hr : ∀ x1 x2 x3 uu a w, rel x1 x2 x3 → St w0 M0 ds a w (l1 x1 x2 x3 uu) bs fs → Wp P r c (Exit.then (fun a w => ∃ y1 y2 y3 vv, rel y1 y2 y3 ∧ St w0 M0 ds a w (l1 y1 y2 y3 vv) bs fs ∧ μ y1 y2 y3 < μ x1 x2 x3) Q) a w) : Wp P r (.loop c) Q a w := by
  refine c_loop (ι := ι1 × ι2 × ι3) (fun p a w => rel (p.1) (p.2.1) (p.2.2) ∧ ∃ uu, St w0 M0 ds a w (l1 (p.1) (p.2.1) (p.2.2) uu) bs fs) (fun p => μ (p.1) (p.2.1) (p.2.2)) (z1, z2, z3) ⟨h0, uu0, S0⟩ ?_
  rintro p a w ⟨h1, uu, S1⟩
  refine wpIn_mono (hr (p.1) (p.2.1) (p.2.2) uu a w h1 S1) fun e a1 w1 hq => ?_
  cases e <;> first | exact hq | skip
  obtain ⟨y1, y2, y3, vv, h2, S2, hm⟩ := hq
  exact ⟨(y1, y2, y3), ⟨h2, vv, S2⟩, hm⟩
theorem c_mrgb3 {x y : Code} {ι1 : Type} {ι2 : Type} {ι3 : Type} (_S : St w0 M0 ds a w l bs fs) (mods : ι1 → ι2 → ι3 → (Nat → Value) → List (Nat × Value)) {l1 : ι1 → ι2 → ι3 → (Nat → Value) → List Value} [∀ x1 x2 x3 uu, SetG l (mods x1 x2 x3 uu) (l1 x1 x2 x3 uu)]   (rel : ι1 → ι2 → ι3 → Prop)
    (hx : Wp P r x (Exit.then (fun a w => ∃ y1 y2 y3 vv, rel y1 y2 y3 ∧ St w0 M0 ds a w (l1 y1 y2 y3 vv) bs fs) Q) a w) (hy : ∀ x1 x2 x3 uu a w, rel x1 x2 x3 → St w0 M0 ds a w (l1 x1 x2 x3 uu) bs fs → Wp P r y Q a w) : Wp P r (.seq x y) Q a w :=
  c_merge _ hx fun a w h => by obtain ⟨y1, y2, y3, vv, h1, h2⟩ := h; exact hy y1 y2 y3 vv a w h1 h2
theorem c_drwb3 {id : Nat} {lo : List Oper} {ι1 : Type} {ι2 : Type} {ι3 : Type} (t : Tr) (S : St w0 M0 ds a w l bs fs) (mods : ι1 → ι2 → ι3 → (Nat → Value) → List (Nat × Value)) {l1 : ι1 → ι2 → ι3 → (Nat → Value) → List Value} [∀ x1 x2 x3 uu, SetG l (mods x1 x2 x3 uu) (l1 x1 x2 x3 uu)] (bs0 : List Item)   (rel : ι1 → ι2 → ι3 → Prop)
    (h : ∀ w, St w0 M0 ds a w l bs fs → AT P lo.toArray (fun w => Wd w0 M0 w bs0 fs) (fun a w => ∃ y1 y2 y3 vv, rel y1 y2 y3 ∧ St w0 M0 ds a w (l1 y1 y2 y3 vv) bs fs) t a w) (hK : ∀ x1 x2 x3 uu a w, rel x1 x2 x3 → St w0 M0 ds a w (l1 x1 x2 x3 uu) bs fs → Q .normal a w) (hm : P.follows .mixedOrders = true := by kernel_rfl)
    (hd : ((lo.all fun o => !isDefer o.op) && (Nat.beq t.len lo.length && (Region.noSelect lo.toArray && flowT lo.toArray t (Array.replicate lo.length false)))) = true := by kernel_rfl) : Wp P r (.region id lo.toArray true) Q a w :=
  c_drawT t bs0 S _ h (fun a w h => by obtain ⟨y1, y2, y3, vv, h1, h2⟩ := h; exact hK y1 y2 y3 vv a w h1 h2) hm hd
theorem c_forf3 {c : Code} {ι1 : Type} {ι2 : Type} {ι3 : Type} (_S : St w0 M0 ds a w l bs fs) (mods : ι1 → ι2 → ι3 → (Nat → Value) → List (Nat × Value)) {l1 : ι1 → ι2 → ι3 → (Nat → Value) → List Value} [∀ x1 x2 x3 uu, SetG l (mods x1 x2 x3 uu) (l1 x1 x2 x3 uu)] (bs1 : ι1 → ι2 → ι3 → List Item)  (rel : ι1 → ι2 → ι3 → Prop) (μ : ι1 → ι2 → ι3 → Nat) (z1 : ι1) (z2 : ι2) (z3 : ι3) (h0 : rel z1 z2 z3) (uu0 : Nat → Value) (S0 : St w0 M0 ds a w (l1 z1 z2 z3 uu0) (bs1 z1 z2 z3) fs)
    (hr : ∀ x1 x2 x3 uu a w, rel x1 x2 x3 → St w0 M0 ds a w (l1 x1 x2 x3 uu) (bs1 x1 x2 x3) fs → Wp P r c (Exit.then (fun a w => ∃ y1 y2 y3 vv, rel y1 y2 y3 ∧ St w0 M0 ds a w (l1 y1 y2 y3 vv) (bs1 y1 y2 y3) fs ∧ μ y1 y2 y3 < μ x1 x2 x3) Q) a w) : Wp P r (.loop c) Q a w := by
  refine c_loop (ι := ι1 × ι2 × ι3) (fun p a w => rel (p.1) (p.2.1) (p.2.2) ∧ ∃ uu, St w0 M0 ds a w (l1 (p.1) (p.2.1) (p.2.2) uu) (bs1 (p.1) (p.2.1) (p.2.2)) fs) (fun p => μ (p.1) (p.2.1) (p.2.2)) (z1, z2, z3) ⟨h0, uu0, S0⟩ ?_
  rintro p a w ⟨h1, uu, S1⟩
  refine wpIn_mono (hr (p.1) (p.2.1) (p.2.2) uu a w h1 S1) fun e a1 w1 hq => ?_
  cases e <;> first | exact hq | skip
  obtain ⟨y1, y2, y3, vv, h2, S2, hm⟩ := hq
  exact ⟨(y1, y2, y3), ⟨h2, vv, S2⟩, hm⟩
theorem c_mrgf3 {x y : Code} {ι1 : Type} {ι2 : Type} {ι3 : Type} (_S : St w0 M0 ds a w l bs fs) (mods : ι1 → ι2 → ι3 → (Nat → Value) → List (Nat × Value)) {l1 : ι1 → ι2 → ι3 → (Nat → Value) → List Value} [∀ x1 x2 x3 uu, SetG l (mods x1 x2 x3 uu) (l1 x1 x2 x3 uu)] (bs1 : ι1 → ι2 → ι3 → List Item)  (rel : ι1 → ι2 → ι3 → Prop)
    (hx : Wp P r x (Exit.then (fun a w => ∃ y1 y2 y3 vv, rel y1 y2 y3 ∧ St w0 M0 ds a w (l1 y1 y2 y3 vv) (bs1 y1 y2 y3) fs) Q) a w) (hy : ∀ x1 x2 x3 uu a w, rel x1 x2 x3 → St w0 M0 ds a w (l1 x1 x2 x3 uu) (bs1 x1 x2 x3) fs → Wp P r y Q a w) : Wp P r (.seq x y) Q a w :=
  c_merge _ hx fun a w h => by obtain ⟨y1, y2, y3, vv, h1, h2⟩ := h; exact hy y1 y2 y3 vv a w h1 h2
theorem c_drwf3 {id : Nat} {lo : List Oper} {ι1 : Type} {ι2 : Type} {ι3 : Type} (t : Tr) (S : St w0 M0 ds a w l bs fs) (mods : ι1 → ι2 → ι3 → (Nat → Value) → List (Nat × Value)) {l1 : ι1 → ι2 → ι3 → (Nat → Value) → List Value} [∀ x1 x2 x3 uu, SetG l (mods x1 x2 x3 uu) (l1 x1 x2 x3 uu)] (bs0 : List Item) (bs1 : ι1 → ι2 → ι3 → List Item)  (rel : ι1 → ι2 → ι3 → Prop)
    (h : ∀ w, St w0 M0 ds a w l bs fs → AT P lo.toArray (fun w => Wd w0 M0 w bs0 fs) (fun a w => ∃ y1 y2 y3 vv, rel y1 y2 y3 ∧ St w0 M0 ds a w (l1 y1 y2 y3 vv) (bs1 y1 y2 y3) fs) t a w) (hK : ∀ x1 x2 x3 uu a w, rel x1 x2 x3 → St w0 M0 ds a w (l1 x1 x2 x3 uu) (bs1 x1 x2 x3) fs → Q .normal a w) (hm : P.follows .mixedOrders = true := by kernel_rfl)
    (hd : ((lo.all fun o => !isDefer o.op) && (Nat.beq t.len lo.length && (Region.noSelect lo.toArray && flowT lo.toArray t (Array.replicate lo.length false)))) = true := by kernel_rfl) : Wp P r (.region id lo.toArray true) Q a w :=
  c_drawT t bs0 S _ h (fun a w h => by obtain ⟨y1, y2, y3, vv, h1, h2⟩ := h; exact hK y1 y2 y3 vv a w h1 h2) hm hd
theorem c_fore4 {c : Code} {ι1 : Type} {ι2 : Type} {ι3 : Type} {ι4 : Type} (_S : St w0 M0 ds a w l bs fs) (mods : ι1 → ι2 → ι3 → ι4 → (Nat → Value) → List (Nat × Value)) {l1 : ι1 → ι2 → ι3 → ι4 → (Nat → Value) → List Value} [∀ x1 x2 x3 x4 uu, SetG l (mods x1 x2 x3 x4 uu) (l1 x1 x2 x3 x4 uu)] (bs1 : ι1 → ι2 → ι3 → ι4 → List Item) (fs1 : ι1 → ι2 → ι3 → ι4 → List (World → Prop)) (rel : ι1 → ι2 → ι3 → ι4 → Prop) (μ : ι1 → ι2 → ι3 → ι4 → Nat) (z1 : ι1) (z2 : ι2) (z3 : ι3) (z4 : ι4) (h0 : rel z1 z2 z3 z4) (uu0 : Nat → Value) (S0 : St w0 M0 ds a w (l1 z1 z2 z3 z4 uu0) (bs1 z1 z2 z3 z4) (fs1 z1 z2 z3 z4))
    (hr : ∀ x1 x2 x3 x4 uu a w, rel x1 x2 x3 x4 → St w0 M0 ds a w (l1 x1 x2 x3 x4 uu) (bs1 x1 x2 x3 x4) (fs1 x1 x2 x3 x4) → Wp P r c (Exit.then (fun a w => ∃ y1 y2 y3 y4 vv, rel y1 y2 y3 y4 ∧ St w0 M0 ds a w (l1 y1 y2 y3 y4 vv) (bs1 y1 y2 y3 y4) (fs1 y1 y2 y3 y4) ∧ μ y1 y2 y3 y4 < μ x1 x2 x3 x4) Q) a w) : Wp P r (.loop c) Q a w := by
  refine c_loop (ι := ι1 × ι2 × ι3 × ι4) (fun p a w => rel (p.1) (p.2.1) (p.2.2.1) (p.2.2.2) ∧ ∃ uu, St w0 M0 ds a w (l1 (p.1) (p.2.1) (p.2.2.1) (p.2.2.2) uu) (bs1 (p.1) (p.2.1) (p.2.2.1) (p.2.2.2)) (fs1 (p.1) (p.2.1) (p.2.2.1) (p.2.2.2))) (fun p => μ (p.1) (p.2.1) (p.2.2.1) (p.2.2.2)) (z1, z2, z3, z4) ⟨h0, uu0, S0⟩ ?_
  rintro p a w ⟨h1, uu, S1⟩
  refine wpIn_mono (hr (p.1) (p.2.1) (p.2.2.1) (p.2.2.2) uu a w h1 S1) fun e a1 w1 hq => ?_
  cases e <;> first | exact hq | skip
  obtain ⟨y1, y2, y3, y4, vv, h2, S2, hm⟩ := hq
  exact ⟨(y1, y2, y3, y4), ⟨h2, vv, S2⟩, hm⟩
theorem c_mrge4 {x y : Code} {ι1 : Type} {ι2 : Type} {ι3 : Type} {ι4 : Type} (_S : St w0 M0 ds a w l bs fs) (mods : ι1 → ι2 → ι3 → ι4 → (Nat → Value) → List (Nat × Value)) {l1 : ι1 → ι2 → ι3 → ι4 → (Nat → Value) → List Value} [∀ x1 x2 x3 x4 uu, SetG l (mods x1 x2 x3 x4 uu) (l1 x1 x2 x3 x4 uu)] (bs1 : ι1 → ι2 → ι3 → ι4 → List Item) (fs1 : ι1 → ι2 → ι3 → ι4 → List (World → Prop)) (rel : ι1 → ι2 → ι3 → ι4 → Prop)
    (hx : Wp P r x (Exit.then (fun a w => ∃ y1 y2 y3 y4 vv, rel y1 y2 y3 y4 ∧ St w0 M0 ds a w (l1 y1 y2 y3 y4 vv) (bs1 y1 y2 y3 y4) (fs1 y1 y2 y3 y4)) Q) a w) (hy : ∀ x1 x2 x3 x4 uu a w, rel x1 x2 x3 x4 → St w0 M0 ds a w (l1 x1 x2 x3 x4 uu) (bs1 x1 x2 x3 x4) (fs1 x1 x2 x3 x4) → Wp P r y Q a w) : Wp P r (.seq x y) Q a w :=
  c_merge _ hx fun a w h => by obtain ⟨y1, y2, y3, y4, vv, h1, h2⟩ := h; exact hy y1 y2 y3 y4 vv a w h1 h2
theorem c_drwe4 {id : Nat} {lo : List Oper} {ι1 : Type} {ι2 : Type} {ι3 : Type} {ι4 : Type} (t : Tr) (S : St w0 M0 ds a w l bs fs) (mods : ι1 → ι2 → ι3 → ι4 → (Nat → Value) → List (Nat × Value)) {l1 : ι1 → ι2 → ι3 → ι4 → (Nat → Value) → List Value} [∀ x1 x2 x3 x4 uu, SetG l (mods x1 x2 x3 x4 uu) (l1 x1 x2 x3 x4 uu)] (bs0 : List Item) (bs1 : ι1 → ι2 → ι3 → ι4 → List Item) (fs1 : ι1 → ι2 → ι3 → ι4 → List (World → Prop)) (rel : ι1 → ι2 → ι3 → ι4 → Prop)
    (h : ∀ w, St w0 M0 ds a w l bs fs → AT P lo.toArray (fun w => Wd w0 M0 w bs0 fs) (fun a w => ∃ y1 y2 y3 y4 vv, rel y1 y2 y3 y4 ∧ St w0 M0 ds a w (l1 y1 y2 y3 y4 vv) (bs1 y1 y2 y3 y4) (fs1 y1 y2 y3 y4)) t a w) (hK : ∀ x1 x2 x3 x4 uu a w, rel x1 x2 x3 x4 → St w0 M0 ds a w (l1 x1 x2 x3 x4 uu) (bs1 x1 x2 x3 x4) (fs1 x1 x2 x3 x4) → Q .normal a w) (hm : P.follows .mixedOrders = true := by kernel_rfl)
    (hd : ((lo.all fun o => !isDefer o.op) && (Nat.beq t.len lo.length && (Region.noSelect lo.toArray && flowT lo.toArray t (Array.replicate lo.length false)))) = true := by kernel_rfl) : Wp P r (.region id lo.toArray true) Q a w :=
  c_drawT t bs0 S _ h (fun a w h => by obtain ⟨y1, y2, y3, y4, vv, h1, h2⟩ := h; exact hK y1 y2 y3 y4 vv a w h1 h2) hm hd
theorem c_forb4 {c : Code} {ι1 : Type} {ι2 : Type} {ι3 : Type} {ι4 : Type} (_S : St w0 M0 ds a w l bs fs) (mods : ι1 → ι2 → ι3 → ι4 → (Nat → Value) → List (Nat × Value)) {l1 : ι1 → ι2 → ι3 → ι4 → (Nat → Value) → List Value} [∀ x1 x2 x3 x4 uu, SetG l (mods x1 x2 x3 x4 uu) (l1 x1 x2 x3 x4 uu)]   (rel : ι1 → ι2 → ι3 → ι4 → Prop) (μ : ι1 → ι2 → ι3 → ι4 → Nat) (z1 : ι1) (z2 : ι2) (z3 : ι3) (z4 : ι4) (h0 : rel z1 z2 z3 z4) (uu0 : Nat → Value) (S0 : St w0 M0 ds a w (l1 z1 z2 z3 z4 uu0) bs fs)
    (hr : ∀ x1 x2 x3 x4 uu a w, rel x1 x2 x3 x4 → St w0 M0 ds a w (l1 x1 x2 x3 x4 uu) bs fs → Wp P r c (Exit.then (fun a w => ∃ y1 y2 y3 y4 vv, rel y1 y2 y3 y4 ∧ St w0 M0 ds a w (l1 y1 y2 y3 y4 vv) bs fs ∧ μ y1 y2 y3 y4 < μ x1 x2 x3 x4) Q) a w) : Wp P r (.loop c) Q a w := by
  refine c_loop (ι := ι1 × ι2 × ι3 × ι4) (fun p a w => rel (p.1) (p.2.1) (p.2.2.1) (p.2.2.2) ∧ ∃ uu, St w0 M0 ds a w (l1 (p.1) (p.2.1) (p.2.2.1) (p.2.2.2) uu) bs fs) (fun p => μ (p.1) (p.2.1) (p.2.2.1) (p.2.2.2)) (z1, z2, z3, z4) ⟨h0, uu0, S0⟩ ?_
  rintro p a w ⟨h1, uu, S1⟩
  refine wpIn_mono (hr (p.1) (p.2.1) (p.2.2.1) (p.2.2.2) uu a w h1 S1) fun e a1 w1 hq => ?_
  cases e <;> first | exact hq | skip
  obtain ⟨y1, y2, y3, y4, vv, h2, S2, hm⟩ := hq
  exact ⟨(y1, y2, y3, y4), ⟨h2, vv, S2⟩, hm⟩
theorem c_mrgb4 {x y : Code} {ι1 : Type} {ι2 : Type} {ι3 : Type} {ι4 : Type} (_S : St w0 M0 ds a w l bs fs) (mods : ι1 → ι2 → ι3 → ι4 → (Nat → Value) → List (Nat × Value)) {l1 : ι1 → ι2 → ι3 → ι4 → (Nat → Value) → List Value} [∀ x1 x2 x3 x4 uu, SetG l (mods x1 x2 x3 x4 uu) (l1 x1 x2 x3 x4 uu)]   (rel : ι1 → ι2 → ι3 → ι4 → Prop)
    (hx : Wp P r x (Exit.then (fun a w => ∃ y1 y2 y3 y4 vv, rel y1 y2 y3 y4 ∧ St w0 M0 ds a w (l1 y1 y2 y3 y4 vv) bs fs) Q) a w) (hy : ∀ x1 x2 x3 x4 uu a w, rel x1 x2 x3 x4 → St w0 M0 ds a w (l1 x1 x2 x3 x4 uu) bs fs → Wp P r y Q a w) : Wp P r (.seq x y) Q a w :=
  c_merge _ hx fun a w h => by obtain ⟨y1, y2, y3, y4, vv, h1, h2⟩ := h; exact hy y1 y2 y3 y4 vv a w h1 h2
theorem c_drwb4 {id : Nat} {lo : List Oper} {ι1 : Type} {ι2 : Type} {ι3 : Type} {ι4 : Type} (t : Tr) (S : St w0 M0 ds a w l bs fs) (mods : ι1 → ι2 → ι3 → ι4 → (Nat → Value) → List (Nat × Value)) {l1 : ι1 → ι2 → ι3 → ι4 → (Nat → Value) → List Value} [∀ x1 x2 x3 x4 uu, SetG l (mods x1 x2 x3 x4 uu) (l1 x1 x2 x3 x4 uu)] (bs0 : List Item)   (rel : ι1 → ι2 → ι3 → ι4 → Prop)
    (h : ∀ w, St w0 M0 ds a w l bs fs → AT P lo.toArray (fun w => Wd w0 M0 w bs0 fs) (fun a w => ∃ y1 y2 y3 y4 vv, rel y1 y2 y3 y4 ∧ St w0 M0 ds a w (l1 y1 y2 y3 y4 vv) bs fs) t a w) (hK : ∀ x1 x2 x3 x4 uu a w, rel x1 x2 x3 x4 → St w0 M0 ds a w (l1 x1 x2 x3 x4 uu) bs fs → Q .normal a w) (hm : P.follows .mixedOrders = true := by kernel_rfl)
    (hd : ((lo.all fun o => !isDefer o.op) && (Nat.beq t.len lo.length && (Region.noSelect lo.toArray && flowT lo.toArray t (Array.replicate lo.length false)))) = true := by kernel_rfl) : Wp P r (.region id lo.toArray true) Q a w :=
  c_drawT t bs0 S _ h (fun a w h => by obtain ⟨y1, y2, y3, y4, vv, h1, h2⟩ := h; exact hK y1 y2 y3 y4 vv a w h1 h2) hm hd
theorem c_forf4 {c : Code} {ι1 : Type} {ι2 : Type} {ι3 : Type} {ι4 : Type} (_S : St w0 M0 ds a w l bs fs) (mods : ι1 → ι2 → ι3 → ι4 → (Nat → Value) → List (Nat × Value)) {l1 : ι1 → ι2 → ι3 → ι4 → (Nat → Value) → List Value} [∀ x1 x2 x3 x4 uu, SetG l (mods x1 x2 x3 x4 uu) (l1 x1 x2 x3 x4 uu)] (bs1 : ι1 → ι2 → ι3 → ι4 → List Item)  (rel : ι1 → ι2 → ι3 → ι4 → Prop) (μ : ι1 → ι2 → ι3 → ι4 → Nat) (z1 : ι1) (z2 : ι2) (z3 : ι3) (z4 : ι4) (h0 : rel z1 z2 z3 z4) (uu0 : Nat → Value) (S0 : St w0 M0 ds a w (l1 z1 z2 z3 z4 uu0) (bs1 z1 z2 z3 z4) fs)
    (hr : ∀ x1 x2 x3 x4 uu a w, rel x1 x2 x3 x4 → St w0 M0 ds a w (l1 x1 x2 x3 x4 uu) (bs1 x1 x2 x3 x4) fs → Wp P r c (Exit.then (fun a w => ∃ y1 y2 y3 y4 vv, rel y1 y2 y3 y4 ∧ St w0 M0 ds a w (l1 y1 y2 y3 y4 vv) (bs1 y1 y2 y3 y4) fs ∧ μ y1 y2 y3 y4 < μ x1 x2 x3 x4) Q) a w) : Wp P r (.loop c) Q a w := by
  refine c_loop (ι := ι1 × ι2 × ι3 × ι4) (fun p a w => rel (p.1) (p.2.1) (p.2.2.1) (p.2.2.2) ∧ ∃ uu, St w0 M0 ds a w (l1 (p.1) (p.2.1) (p.2.2.1) (p.2.2.2) uu) (bs1 (p.1) (p.2.1) (p.2.2.1) (p.2.2.2)) fs) (fun p => μ (p.1) (p.2.1) (p.2.2.1) (p.2.2.2)) (z1, z2, z3, z4) ⟨h0, uu0, S0⟩ ?_
  rintro p a w ⟨h1, uu, S1⟩
  refine wpIn_mono (hr (p.1) (p.2.1) (p.2.2.1) (p.2.2.2) uu a w h1 S1) fun e a1 w1 hq => ?_
  cases e <;> first | exact hq | skip
  obtain ⟨y1, y2, y3, y4, vv, h2, S2, hm⟩ := hq
  exact ⟨(y1, y2, y3, y4), ⟨h2, vv, S2⟩, hm⟩
theorem c_mrgf4 {x y : Code} {ι1 : Type} {ι2 : Type} {ι3 : Type} {ι4 : Type} (_S : St w0 M0 ds a w l bs fs) (mods : ι1 → ι2 → ι3 → ι4 → (Nat → Value) → List (Nat × Value)) {l1 : ι1 → ι2 → ι3 → ι4 → (Nat → Value) → List Value} [∀ x1 x2 x3 x4 uu, SetG l (mods x1 x2 x3 x4 uu) (l1 x1 x2 x3 x4 uu)] (bs1 : ι1 → ι2 → ι3 → ι4 → List Item)  (rel : ι1 → ι2 → ι3 → ι4 → Prop)
    (hx : Wp P r x (Exit.then (fun a w => ∃ y1 y2 y3 y4 vv, rel y1 y2 y3 y4 ∧ St w0 M0 ds a w (l1 y1 y2 y3 y4 vv) (bs1 y1 y2 y3 y4) fs) Q) a w) (hy : ∀ x1 x2 x3 x4 uu a w, rel x1 x2 x3 x4 → St w0 M0 ds a w (l1 x1 x2 x3 x4 uu) (bs1 x1 x2 x3 x4) fs → Wp P r y Q a w) : Wp P r (.seq x y) Q a w :=
  c_merge _ hx fun a w h => by obtain ⟨y1, y2, y3, y4, vv, h1, h2⟩ := h; exact hy y1 y2 y3 y4 vv a w h1 h2
theorem c_drwf4 {id : Nat} {lo : List Oper} {ι1 : Type} {ι2 : Type} {ι3 : Type} {ι4 : Type} (t : Tr) (S : St w0 M0 ds a w l bs fs) (mods : ι1 → ι2 → ι3 → ι4 → (Nat → Value) → List (Nat × Value)) {l1 : ι1 → ι2 → ι3 → ι4 → (Nat → Value) → List Value} [∀ x1 x2 x3 x4 uu, SetG l (mods x1 x2 x3 x4 uu) (l1 x1 x2 x3 x4 uu)] (bs0 : List Item) (bs1 : ι1 → ι2 → ι3 → ι4 → List Item)  (rel : ι1 → ι2 → ι3 → ι4 → Prop)
    (h : ∀ w, St w0 M0 ds a w l bs fs → AT P lo.toArray (fun w => Wd w0 M0 w bs0 fs) (fun a w => ∃ y1 y2 y3 y4 vv, rel y1 y2 y3 y4 ∧ St w0 M0 ds a w (l1 y1 y2 y3 y4 vv) (bs1 y1 y2 y3 y4) fs) t a w) (hK : ∀ x1 x2 x3 x4 uu a w, rel x1 x2 x3 x4 → St w0 M0 ds a w (l1 x1 x2 x3 x4 uu) (bs1 x1 x2 x3 x4) fs → Q .normal a w) (hm : P.follows .mixedOrders = true := by kernel_rfl)
    (hd : ((lo.all fun o => !isDefer o.op) && (Nat.beq t.len lo.length && (Region.noSelect lo.toArray && flowT lo.toArray t (Array.replicate lo.length false)))) = true := by kernel_rfl) : Wp P r (.region id lo.toArray true) Q a w :=
  c_drawT t bs0 S _ h (fun a w h => by obtain ⟨y1, y2, y3, y4, vv, h1, h2⟩ := h; exact hK y1 y2 y3 y4 vv a w h1 h2) hm hd
theorem c_fore5 {c : Code} {ι1 : Type} {ι2 : Type} {ι3 : Type} {ι4 : Type} {ι5 : Type} (_S : St w0 M0 ds a w l bs fs) (mods : ι1 → ι2 → ι3 → ι4 → ι5 → (Nat → Value) → List (Nat × Value)) {l1 : ι1 → ι2 → ι3 → ι4 → ι5 → (Nat → Value) → List Value} [∀ x1 x2 x3 x4 x5 uu, SetG l (mods x1 x2 x3 x4 x5 uu) (l1 x1 x2 x3 x4 x5 uu)] (bs1 : ι1 → ι2 → ι3 → ι4 → ι5 → List Item) (fs1 : ι1 → ι2 → ι3 → ι4 → ι5 → List (World → Prop)) (rel : ι1 → ι2 → ι3 → ι4 → ι5 → Prop) (μ : ι1 → ι2 → ι3 → ι4 → ι5 → Nat) (z1 : ι1) (z2 : ι2) (z3 : ι3) (z4 : ι4) (z5 : ι5) (h0 : rel z1 z2 z3 z4 z5) (uu0 : Nat → Value) (S0 : St w0 M0 ds a w (l1 z1 z2 z3 z4 z5 uu0) (bs1 z1 z2 z3 z4 z5) (fs1 z1 z2 z3 z4 z5))
    (hr : ∀ x1 x2 x3 x4 x5 uu a w, rel x1 x2 x3 x4 x5 → St w0 M0 ds a w (l1 x1 x2 x3 x4 x5 uu) (bs1 x1 x2 x3 x4 x5) (fs1 x1 x2 x3 x4 x5) → Wp P r c (Exit.then (fun a w => ∃ y1 y2 y3 y4 y5 vv, rel y1 y2 y3 y4 y5 ∧ St w0 M0 ds a w (l1 y1 y2 y3 y4 y5 vv) (bs1 y1 y2 y3 y4 y5) (fs1 y1 y2 y3 y4 y5) ∧ μ y1 y2 y3 y4 y5 < μ x1 x2 x3 x4 x5) Q) a w) : Wp P r (.loop c) Q a w := by
  refine c_loop (ι := ι1 × ι2 × ι3 × ι4 × ι5) (fun p a w => rel (p.1) (p.2.1) (p.2.2.1) (p.2.2.2.1) (p.2.2.2.2) ∧ ∃ uu, St w0 M0 ds a w (l1 (p.1) (p.2.1) (p.2.2.1) (p.2.2.2.1) (p.2.2.2.2) uu) (bs1 (p.1) (p.2.1) (p.2.2.1) (p.2.2.2.1) (p.2.2.2.2)) (fs1 (p.1) (p.2.1) (p.2.2.1) (p.2.2.2.1) (p.2.2.2.2))) (fun p => μ (p.1) (p.2.1) (p.2.2.1) (p.2.2.2.1) (p.2.2.2.2)) (z1, z2, z3, z4, z5) ⟨h0, uu0, S0⟩ ?_
  rintro p a w ⟨h1, uu, S1⟩
  refine wpIn_mono (hr (p.1) (p.2.1) (p.2.2.1) (p.2.2.2.1) (p.2.2.2.2) uu a w h1 S1) fun e a1 w1 hq => ?_
  cases e <;> first | exact hq | skip
  obtain ⟨y1, y2, y3, y4, y5, vv, h2, S2, hm⟩ := hq
  exact ⟨(y1, y2, y3, y4, y5), ⟨h2, vv, S2⟩, hm⟩
theorem c_mrge5 {x y : Code} {ι1 : Type} {ι2 : Type} {ι3 : Type} {ι4 : Type} {ι5 : Type} (_S : St w0 M0 ds a w l bs fs) (mods : ι1 → ι2 → ι3 → ι4 → ι5 → (Nat → Value) → List (Nat × Value)) {l1 : ι1 → ι2 → ι3 → ι4 → ι5 → (Nat → Value) → List Value} [∀ x1 x2 x3 x4 x5 uu, SetG l (mods x1 x2 x3 x4 x5 uu) (l1 x1 x2 x3 x4 x5 uu)] (bs1 : ι1 → ι2 → ι3 → ι4 → ι5 → List Item) (fs1 : ι1 → ι2 → ι3 → ι4 → ι5 → List (World → Prop)) (rel : ι1 → ι2 → ι3 → ι4 → ι5 → Prop)
    (hx : Wp P r x (Exit.then (fun a w => ∃ y1 y2 y3 y4 y5 vv, rel y1 y2 y3 y4 y5 ∧ St w0 M0 ds a w (l1 y1 y2 y3 y4 y5 vv) (bs1 y1 y2 y3 y4 y5) (fs1 y1 y2 y3 y4 y5)) Q) a w) (hy : ∀ x1 x2 x3 x4 x5 uu a w, rel x1 x2 x3 x4 x5 → St w0 M0 ds a w (l1 x1 x2 x3 x4 x5 uu) (bs1 x1 x2 x3 x4 x5) (fs1 x1 x2 x3 x4 x5) → Wp P r y Q a w) : Wp P r (.seq x y) Q a w :=
  c_merge _ hx fun a w h => by obtain ⟨y1, y2, y3, y4, y5, vv, h1, h2⟩ := h; exact hy y1 y2 y3 y4 y5 vv a w h1 h2
theorem c_drwe5 {id : Nat} {lo : List Oper} {ι1 : Type} {ι2 : Type} {ι3 : Type} {ι4 : Type} {ι5 : Type} (t : Tr) (S : St w0 M0 ds a w l bs fs) (mods : ι1 → ι2 → ι3 → ι4 → ι5 → (Nat → Value) → List (Nat × Value)) {l1 : ι1 → ι2 → ι3 → ι4 → ι5 → (Nat → Value) → List Value} [∀ x1 x2 x3 x4 x5 uu, SetG l (mods x1 x2 x3 x4 x5 uu) (l1 x1 x2 x3 x4 x5 uu)] (bs0 : List Item) (bs1 : ι1 → ι2 → ι3 → ι4 → ι5 → List Item) (fs1 : ι1 → ι2 → ι3 → ι4 → ι5 → List (World → Prop)) (rel : ι1 → ι2 → ι3 → ι4 → ι5 → Prop)
    (h : ∀ w, St w0 M0 ds a w l bs fs → AT P lo.toArray (fun w => Wd w0 M0 w bs0 fs) (fun a w => ∃ y1 y2 y3 y4 y5 vv, rel y1 y2 y3 y4 y5 ∧ St w0 M0 ds a w (l1 y1 y2 y3 y4 y5 vv) (bs1 y1 y2 y3 y4 y5) (fs1 y1 y2 y3 y4 y5)) t a w) (hK : ∀ x1 x2 x3 x4 x5 uu a w, rel x1 x2 x3 x4 x5 → St w0 M0 ds a w (l1 x1 x2 x3 x4 x5 uu) (bs1 x1 x2 x3 x4 x5) (fs1 x1 x2 x3 x4 x5) → Q .normal a w) (hm : P.follows .mixedOrders = true := by kernel_rfl)
    (hd : ((lo.all fun o => !isDefer o.op) && (Nat.beq t.len lo.length && (Region.noSelect lo.toArray && flowT lo.toArray t (Array.replicate lo.length false)))) = true := by kernel_rfl) : Wp P r (.region id lo.toArray true) Q a w :=
  c_drawT t bs0 S _ h (fun a w h => by obtain ⟨y1, y2, y3, y4, y5, vv, h1, h2⟩ := h; exact hK y1 y2 y3 y4 y5 vv a w h1 h2) hm hd
theorem c_forb5 {c : Code} {ι1 : Type} {ι2 : Type} {ι3 : Type} {ι4 : Type} {ι5 : Type} (_S : St w0 M0 ds a w l bs fs) (mods : ι1 → ι2 → ι3 → ι4 → ι5 → (Nat → Value) → List (Nat × Value)) {l1 : ι1 → ι2 → ι3 → ι4 → ι5 → (Nat → Value) → List Value} [∀ x1 x2 x3 x4 x5 uu, SetG l (mods x1 x2 x3 x4 x5 uu) (l1 x1 x2 x3 x4 x5 uu)]   (rel : ι1 → ι2 → ι3 → ι4 → ι5 → Prop) (μ : ι1 → ι2 → ι3 → ι4 → ι5 → Nat) (z1 : ι1) (z2 : ι2) (z3 : ι3) (z4 : ι4) (z5 : ι5) (h0 : rel z1 z2 z3 z4 z5) (uu0 : Nat → Value) (S0 : St w0 M0 ds a w (l1 z1 z2 z3 z4 z5 uu0) bs fs)
    (hr : ∀ x1 x2 x3 x4 x5 uu a w, rel x1 x2 x3 x4 x5 → St w0 M0 ds a w (l1 x1 x2 x3 x4 x5 uu) bs fs → Wp P r c (Exit.then (fun a w => ∃ y1 y2 y3 y4 y5 vv, rel y1 y2 y3 y4 y5 ∧ St w0 M0 ds a w (l1 y1 y2 y3 y4 y5 vv) bs fs ∧ μ y1 y2 y3 y4 y5 < μ x1 x2 x3 x4 x5) Q) a w) : Wp P r (.loop c) Q a w := by
  refine c_loop (ι := ι1 × ι2 × ι3 × ι4 × ι5) (fun p a w => rel (p.1) (p.2.1) (p.2.2.1) (p.2.2.2.1) (p.2.2.2.2) ∧ ∃ uu, St w0 M0 ds a w (l1 (p.1) (p.2.1) (p.2.2.1) (p.2.2.2.1) (p.2.2.2.2) uu) bs fs) (fun p => μ (p.1) (p.2.1) (p.2.2.1) (p.2.2.2.1) (p.2.2.2.2)) (z1, z2, z3, z4, z5) ⟨h0, uu0, S0⟩ ?_
  rintro p a w ⟨h1, uu, S1⟩
  refine wpIn_mono (hr (p.1) (p.2.1) (p.2.2.1) (p.2.2.2.1) (p.2.2.2.2) uu a w h1 S1) fun e a1 w1 hq => ?_
  cases e <;> first | exact hq | skip
  obtain ⟨y1, y2, y3, y4, y5, vv, h2, S2, hm⟩ := hq
  exact ⟨(y1, y2, y3, y4, y5), ⟨h2, vv, S2⟩, hm⟩
theorem c_mrgb5 {x y : Code} {ι1 : Type} {ι2 : Type} {ι3 : Type} {ι4 : Type} {ι5 : Type} (_S : St w0 M0 ds a w l bs fs) (mods : ι1 → ι2 → ι3 → ι4 → ι5 → (Nat → Value) → List (Nat × Value)) {l1 : ι1 → ι2 → ι3 → ι4 → ι5 → (Nat → Value) → List Value} [∀ x1 x2 x3 x4 x5 uu, SetG l (mods x1 x2 x3 x4 x5 uu) (l1 x1 x2 x3 x4 x5 uu)]   (rel : ι1 → ι2 → ι3 → ι4 → ι5 → Prop)
    (hx : Wp P r x (Exit.then (fun a w => ∃ y1 y2 y3 y4 y5 vv, rel y1 y2 y3 y4 y5 ∧ St w0 M0 ds a w (l1 y1 y2 y3 y4 y5 vv) bs fs) Q) a w) (hy : ∀ x1 x2 x3 x4 x5 uu a w, rel x1 x2 x3 x4 x5 → St w0 M0 ds a w (l1 x1 x2 x3 x4 x5 uu) bs fs → Wp P r y Q a w) : Wp P r (.seq x y) Q a w :=
  c_merge _ hx fun a w h => by obtain ⟨y1, y2, y3, y4, y5, vv, h1, h2⟩ := h; exact hy y1 y2 y3 y4 y5 vv a w h1 h2
theorem c_drwb5 {id : Nat} {lo : List Oper} {ι1 : Type} {ι2 : Type} {ι3 : Type} {ι4 : Type} {ι5 : Type} (t : Tr) (S : St w0 M0 ds a w l bs fs) (mods : ι1 → ι2 → ι3 → ι4 → ι5 → (Nat → Value) → List (Nat × Value)) {l1 : ι1 → ι2 → ι3 → ι4 → ι5 → (Nat → Value) → List Value} [∀ x1 x2 x3 x4 x5 uu, SetG l (mods x1 x2 x3 x4 x5 uu) (l1 x1 x2 x3 x4 x5 uu)] (bs0 : List Item)   (rel : ι1 → ι2 → ι3 → ι4 → ι5 → Prop)
    (h : ∀ w, St w0 M0 ds a w l bs fs → AT P lo.toArray (fun w => Wd w0 M0 w bs0 fs) (fun a w => ∃ y1 y2 y3 y4 y5 vv, rel y1 y2 y3 y4 y5 ∧ St w0 M0 ds a w (l1 y1 y2 y3 y4 y5 vv) bs fs) t a w) (hK : ∀ x1 x2 x3 x4 x5 uu a w, rel x1 x2 x3 x4 x5 → St w0 M0 ds a w (l1 x1 x2 x3 x4 x5 uu) bs fs → Q .normal a w) (hm : P.follows .mixedOrders = true := by kernel_rfl)
    (hd : ((lo.all fun o => !isDefer o.op) && (Nat.beq t.len lo.length && (Region.noSelect lo.toArray && flowT lo.toArray t (Array.replicate lo.length false)))) = true := by kernel_rfl) : Wp P r (.region id lo.toArray true) Q a w :=
  c_drawT t bs0 S _ h (fun a w h => by obtain ⟨y1, y2, y3, y4, y5, vv, h1, h2⟩ := h; exact hK y1 y2 y3 y4 y5 vv a w h1 h2) hm hd
theorem c_forf5 {c : Code} {ι1 : Type} {ι2 : Type} {ι3 : Type} {ι4 : Type} {ι5 : Type} (_S : St w0 M0 ds a w l bs fs) (mods : ι1 → ι2 → ι3 → ι4 → ι5 → (Nat → Value) → List (Nat × Value)) {l1 : ι1 → ι2 → ι3 → ι4 → ι5 → (Nat → Value) → List Value} [∀ x1 x2 x3 x4 x5 uu, SetG l (mods x1 x2 x3 x4 x5 uu) (l1 x1 x2 x3 x4 x5 uu)] (bs1 : ι1 → ι2 → ι3 → ι4 → ι5 → List Item)  (rel : ι1 → ι2 → ι3 → ι4 → ι5 → Prop) (μ : ι1 → ι2 → ι3 → ι4 → ι5 → Nat) (z1 : ι1) (z2 : ι2) (z3 : ι3) (z4 : ι4) (z5 : ι5) (h0 : rel z1 z2 z3 z4 z5) (uu0 : Nat → Value) (S0 : St w0 M0 ds a w (l1 z1 z2 z3 z4 z5 uu0) (bs1 z1 z2 z3 z4 z5) fs)
    (hr : ∀ x1 x2 x3 x4 x5 uu a w, rel x1 x2 x3 x4 x5 → St w0 M0 ds a w (l1 x1 x2 x3 x4 x5 uu) (bs1 x1 x2 x3 x4 x5) fs → Wp P r c (Exit.then (fun a w => ∃ y1 y2 y3 y4 y5 vv, rel y1 y2 y3 y4 y5 ∧ St w0 M0 ds a w (l1 y1 y2 y3 y4 y5 vv) (bs1 y1 y2 y3 y4 y5) fs ∧ μ y1 y2 y3 y4 y5 < μ x1 x2 x3 x4 x5) Q) a w) : Wp P r (.loop c) Q a w := by
  refine c_loop (ι := ι1 × ι2 × ι3 × ι4 × ι5) (fun p a w => rel (p.1) (p.2.1) (p.2.2.1) (p.2.2.2.1) (p.2.2.2.2) ∧ ∃ uu, St w0 M0 ds a w (l1 (p.1) (p.2.1) (p.2.2.1) (p.2.2.2.1) (p.2.2.2.2) uu) (bs1 (p.1) (p.2.1) (p.2.2.1) (p.2.2.2.1) (p.2.2.2.2)) fs) (fun p => μ (p.1) (p.2.1) (p.2.2.1) (p.2.2.2.1) (p.2.2.2.2)) (z1, z2, z3, z4, z5) ⟨h0, uu0, S0⟩ ?_
  rintro p a w ⟨h1, uu, S1⟩
  refine wpIn_mono (hr (p.1) (p.2.1) (p.2.2.1) (p.2.2.2.1) (p.2.2.2.2) uu a w h1 S1) fun e a1 w1 hq => ?_
  cases e <;> first | exact hq | skip
  obtain ⟨y1, y2, y3, y4, y5, vv, h2, S2, hm⟩ := hq
  exact ⟨(y1, y2, y3, y4, y5), ⟨h2, vv, S2⟩, hm⟩
theorem c_mrgf5 {x y : Code} {ι1 : Type} {ι2 : Type} {ι3 : Type} {ι4 : Type} {ι5 : Type} (_S : St w0 M0 ds a w l bs fs) (mods : ι1 → ι2 → ι3 → ι4 → ι5 → (Nat → Value) → List (Nat × Value)) {l1 : ι1 → ι2 → ι3 → ι4 → ι5 → (Nat → Value) → List Value} [∀ x1 x2 x3 x4 x5 uu, SetG l (mods x1 x2 x3 x4 x5 uu) (l1 x1 x2 x3 x4 x5 uu)] (bs1 : ι1 → ι2 → ι3 → ι4 → ι5 → List Item)  (rel : ι1 → ι2 → ι3 → ι4 → ι5 → Prop)
    (hx : Wp P r x (Exit.then (fun a w => ∃ y1 y2 y3 y4 y5 vv, rel y1 y2 y3 y4 y5 ∧ St w0 M0 ds a w (l1 y1 y2 y3 y4 y5 vv) (bs1 y1 y2 y3 y4 y5) fs) Q) a w) (hy : ∀ x1 x2 x3 x4 x5 uu a w, rel x1 x2 x3 x4 x5 → St w0 M0 ds a w (l1 x1 x2 x3 x4 x5 uu) (bs1 x1 x2 x3 x4 x5) fs → Wp P r y Q a w) : Wp P r (.seq x y) Q a w :=
  c_merge _ hx fun a w h => by obtain ⟨y1, y2, y3, y4, y5, vv, h1, h2⟩ := h; exact hy y1 y2 y3 y4 y5 vv a w h1 h2
theorem c_drwf5 {id : Nat} {lo : List Oper} {ι1 : Type} {ι2 : Type} {ι3 : Type} {ι4 : Type} {ι5 : Type} (t : Tr) (S : St w0 M0 ds a w l bs fs) (mods : ι1 → ι2 → ι3 → ι4 → ι5 → (Nat → Value) → List (Nat × Value)) {l1 : ι1 → ι2 → ι3 → ι4 → ι5 → (Nat → Value) → List Value} [∀ x1 x2 x3 x4 x5 uu, SetG l (mods x1 x2 x3 x4 x5 uu) (l1 x1 x2 x3 x4 x5 uu)] (bs0 : List Item) (bs1 : ι1 → ι2 → ι3 → ι4 → ι5 → List Item)  (rel : ι1 → ι2 → ι3 → ι4 → ι5 → Prop)
    (h : ∀ w, St w0 M0 ds a w l bs fs → AT P lo.toArray (fun w => Wd w0 M0 w bs0 fs) (fun a w => ∃ y1 y2 y3 y4 y5 vv, rel y1 y2 y3 y4 y5 ∧ St w0 M0 ds a w (l1 y1 y2 y3 y4 y5 vv) (bs1 y1 y2 y3 y4 y5) fs) t a w) (hK : ∀ x1 x2 x3 x4 x5 uu a w, rel x1 x2 x3 x4 x5 → St w0 M0 ds a w (l1 x1 x2 x3 x4 x5 uu) (bs1 x1 x2 x3 x4 x5) fs → Q .normal a w) (hm : P.follows .mixedOrders = true := by kernel_rfl)
    (hd : ((lo.all fun o => !isDefer o.op) && (Nat.beq t.len lo.length && (Region.noSelect lo.toArray && flowT lo.toArray t (Array.replicate lo.length false)))) = true := by kernel_rfl) : Wp P r (.region id lo.toArray true) Q a w :=
  c_drawT t bs0 S _ h (fun a w h => by obtain ⟨y1, y2, y3, y4, y5, vv, h1, h2⟩ := h; exact hK y1 y2 y3 y4 y5 vv a w h1 h2) hm hd
theorem c_fore6 {c : Code} {ι1 : Type} {ι2 : Type} {ι3 : Type} {ι4 : Type} {ι5 : Type} {ι6 : Type} (_S : St w0 M0 ds a w l bs fs) (mods : ι1 → ι2 → ι3 → ι4 → ι5 → ι6 → (Nat → Value) → List (Nat × Value)) {l1 : ι1 → ι2 → ι3 → ι4 → ι5 → ι6 → (Nat → Value) → List Value} [∀ x1 x2 x3 x4 x5 x6 uu, SetG l (mods x1 x2 x3 x4 x5 x6 uu) (l1 x1 x2 x3 x4 x5 x6 uu)] (bs1 : ι1 → ι2 → ι3 → ι4 → ι5 → ι6 → List Item) (fs1 : ι1 → ι2 → ι3 → ι4 → ι5 → ι6 → List (World → Prop)) (rel : ι1 → ι2 → ι3 → ι4 → ι5 → ι6 → Prop) (μ : ι1 → ι2 → ι3 → ι4 → ι5 → ι6 → Nat) (z1 : ι1) (z2 : ι2) (z3 : ι3) (z4 : ι4) (z5 : ι5) (z6 : ι6) (h0 : rel z1 z2 z3 z4 z5 z6) (uu0 : Nat → Value) (S0 : St w0 M0 ds a w (l1 z1 z2 z3 z4 z5 z6 uu0) (bs1 z1 z2 z3 z4 z5 z6) (fs1 z1 z2 z3 z4 z5 z6))
    (hr : ∀ x1 x2 x3 x4 x5 x6 uu a w, rel x1 x2 x3 x4 x5 x6 → St w0 M0 ds a w (l1 x1 x2 x3 x4 x5 x6 uu) (bs1 x1 x2 x3 x4 x5 x6) (fs1 x1 x2 x3 x4 x5 x6) → Wp P r c (Exit.then (fun a w => ∃ y1 y2 y3 y4 y5 y6 vv, rel y1 y2 y3 y4 y5 y6 ∧ St w0 M0 ds a w (l1 y1 y2 y3 y4 y5 y6 vv) (bs1 y1 y2 y3 y4 y5 y6) (fs1 y1 y2 y3 y4 y5 y6) ∧ μ y1 y2 y3 y4 y5 y6 < μ x1 x2 x3 x4 x5 x6) Q) a w) : Wp P r (.loop c) Q a w := by
  refine c_loop (ι := ι1 × ι2 × ι3 × ι4 × ι5 × ι6) (fun p a w => rel (p.1) (p.2.1) (p.2.2.1) (p.2.2.2.1) (p.2.2.2.2.1) (p.2.2.2.2.2) ∧ ∃ uu, St w0 M0 ds a w (l1 (p.1) (p.2.1) (p.2.2.1) (p.2.2.2.1) (p.2.2.2.2.1) (p.2.2.2.2.2) uu) (bs1 (p.1) (p.2.1) (p.2.2.1) (p.2.2.2.1) (p.2.2.2.2.1) (p.2.2.2.2.2)) (fs1 (p.1) (p.2.1) (p.2.2.1) (p.2.2.2.1) (p.2.2.2.2.1) (p.2.2.2.2.2))) (fun p => μ (p.1) (p.2.1) (p.2.2.1) (p.2.2.2.1) (p.2.2.2.2.1) (p.2.2.2.2.2)) (z1, z2, z3, z4, z5, z6) ⟨h0, uu0, S0⟩ ?_
  rintro p a w ⟨h1, uu, S1⟩
  refine wpIn_mono (hr (p.1) (p.2.1) (p.2.2.1) (p.2.2.2.1) (p.2.2.2.2.1) (p.2.2.2.2.2) uu a w h1 S1) fun e a1 w1 hq => ?_
  cases e <;> first | exact hq | skip
  obtain ⟨y1, y2, y3, y4, y5, y6, vv, h2, S2, hm⟩ := hq
  exact ⟨(y1, y2, y3, y4, y5, y6), ⟨h2, vv, S2⟩, hm⟩
theorem c_mrge6 {x y : Code} {ι1 : Type} {ι2 : Type} {ι3 : Type} {ι4 : Type} {ι5 : Type} {ι6 : Type} (_S : St w0 M0 ds a w l bs fs) (mods : ι1 → ι2 → ι3 → ι4 → ι5 → ι6 → (Nat → Value) → List (Nat × Value)) {l1 : ι1 → ι2 → ι3 → ι4 → ι5 → ι6 → (Nat → Value) → List Value} [∀ x1 x2 x3 x4 x5 x6 uu, SetG l (mods x1 x2 x3 x4 x5 x6 uu) (l1 x1 x2 x3 x4 x5 x6 uu)] (bs1 : ι1 → ι2 → ι3 → ι4 → ι5 → ι6 → List Item) (fs1 : ι1 → ι2 → ι3 → ι4 → ι5 → ι6 → List (World → Prop)) (rel : ι1 → ι2 → ι3 → ι4 → ι5 → ι6 → Prop)
    (hx : Wp P r x (Exit.then (fun a w => ∃ y1 y2 y3 y4 y5 y6 vv, rel y1 y2 y3 y4 y5 y6 ∧ St w0 M0 ds a w (l1 y1 y2 y3 y4 y5 y6 vv) (bs1 y1 y2 y3 y4 y5 y6) (fs1 y1 y2 y3 y4 y5 y6)) Q) a w) (hy : ∀ x1 x2 x3 x4 x5 x6 uu a w, rel x1 x2 x3 x4 x5 x6 → St w0 M0 ds a w (l1 x1 x2 x3 x4 x5 x6 uu) (bs1 x1 x2 x3 x4 x5 x6) (fs1 x1 x2 x3 x4 x5 x6) → Wp P r y Q a w) : Wp P r (.seq x y) Q a w :=
  c_merge _ hx fun a w h => by obtain ⟨y1, y2, y3, y4, y5, y6, vv, h1, h2⟩ := h; exact hy y1 y2 y3 y4 y5 y6 vv a w h1 h2
theorem c_drwe6 {id : Nat} {lo : List Oper} {ι1 : Type} {ι2 : Type} {ι3 : Type} {ι4 : Type} {ι5 : Type} {ι6 : Type} (t : Tr) (S : St w0 M0 ds a w l bs fs) (mods : ι1 → ι2 → ι3 → ι4 → ι5 → ι6 → (Nat → Value) → List (Nat × Value)) {l1 : ι1 → ι2 → ι3 → ι4 → ι5 → ι6 → (Nat → Value) → List Value} [∀ x1 x2 x3 x4 x5 x6 uu, SetG l (mods x1 x2 x3 x4 x5 x6 uu) (l1 x1 x2 x3 x4 x5 x6 uu)] (bs0 : List Item) (bs1 : ι1 → ι2 → ι3 → ι4 → ι5 → ι6 → List Item) (fs1 : ι1 → ι2 → ι3 → ι4 → ι5 → ι6 → List (World → Prop)) (rel : ι1 → ι2 → ι3 → ι4 → ι5 → ι6 → Prop)
    (h : ∀ w, St w0 M0 ds a w l bs fs → AT P lo.toArray (fun w => Wd w0 M0 w bs0 fs) (fun a w => ∃ y1 y2 y3 y4 y5 y6 vv, rel y1 y2 y3 y4 y5 y6 ∧ St w0 M0 ds a w (l1 y1 y2 y3 y4 y5 y6 vv) (bs1 y1 y2 y3 y4 y5 y6) (fs1 y1 y2 y3 y4 y5 y6)) t a w) (hK : ∀ x1 x2 x3 x4 x5 x6 uu a w, rel x1 x2 x3 x4 x5 x6 → St w0 M0 ds a w (l1 x1 x2 x3 x4 x5 x6 uu) (bs1 x1 x2 x3 x4 x5 x6) (fs1 x1 x2 x3 x4 x5 x6) → Q .normal a w) (hm : P.follows .mixedOrders = true := by kernel_rfl)
    (hd : ((lo.all fun o => !isDefer o.op) && (Nat.beq t.len lo.length && (Region.noSelect lo.toArray && flowT lo.toArray t (Array.replicate lo.length false)))) = true := by kernel_rfl) : Wp P r (.region id lo.toArray true) Q a w :=
  c_drawT t bs0 S _ h (fun a w h => by obtain ⟨y1, y2, y3, y4, y5, y6, vv, h1, h2⟩ := h; exact hK y1 y2 y3 y4 y5 y6 vv a w h1 h2) hm hd
theorem c_forb6 {c : Code} {ι1 : Type} {ι2 : Type} {ι3 : Type} {ι4 : Type} {ι5 : Type} {ι6 : Type} (_S : St w0 M0 ds a w l bs fs) (mods : ι1 → ι2 → ι3 → ι4 → ι5 → ι6 → (Nat → Value) → List (Nat × Value)) {l1 : ι1 → ι2 → ι3 → ι4 → ι5 → ι6 → (Nat → Value) → List Value} [∀ x1 x2 x3 x4 x5 x6 uu, SetG l (mods x1 x2 x3 x4 x5 x6 uu) (l1 x1 x2 x3 x4 x5 x6 uu)]   (rel : ι1 → ι2 → ι3 → ι4 → ι5 → ι6 → Prop) (μ : ι1 → ι2 → ι3 → ι4 → ι5 → ι6 → Nat) (z1 : ι1) (z2 : ι2) (z3 : ι3) (z4 : ι4) (z5 : ι5) (z6 : ι6) (h0 : rel z1 z2 z3 z4 z5 z6) (uu0 : Nat → Value) (S0 : St w0 M0 ds a w (l1 z1 z2 z3 z4 z5 z6 uu0) bs fs)
    (hr : ∀ x1 x2 x3 x4 x5 x6 uu a w, rel x1 x2 x3 x4 x5 x6 → St w0 M0 ds a w (l1 x1 x2 x3 x4 x5 x6 uu) bs fs → Wp P r c (Exit.then (fun a w => ∃ y1 y2 y3 y4 y5 y6 vv, rel y1 y2 y3 y4 y5 y6 ∧ St w0 M0 ds a w (l1 y1 y2 y3 y4 y5 y6 vv) bs fs ∧ μ y1 y2 y3 y4 y5 y6 < μ x1 x2 x3 x4 x5 x6) Q) a w) : Wp P r (.loop c) Q a w := by
  refine c_loop (ι := ι1 × ι2 × ι3 × ι4 × ι5 × ι6) (fun p a w => rel (p.1) (p.2.1) (p.2.2.1) (p.2.2.2.1) (p.2.2.2.2.1) (p.2.2.2.2.2) ∧ ∃ uu, St w0 M0 ds a w (l1 (p.1) (p.2.1) (p.2.2.1) (p.2.2.2.1) (p.2.2.2.2.1) (p.2.2.2.2.2) uu) bs fs) (fun p => μ (p.1) (p.2.1) (p.2.2.1) (p.2.2.2.1) (p.2.2.2.2.1) (p.2.2.2.2.2)) (z1, z2, z3, z4, z5, z6) ⟨h0, uu0, S0⟩ ?_
  rintro p a w ⟨h1, uu, S1⟩
  refine wpIn_mono (hr (p.1) (p.2.1) (p.2.2.1) (p.2.2.2.1) (p.2.2.2.2.1) (p.2.2.2.2.2) uu a w h1 S1) fun e a1 w1 hq => ?_
  cases e <;> first | exact hq | skip
  obtain ⟨y1, y2, y3, y4, y5, y6, vv, h2, S2, hm⟩ := hq
  exact ⟨(y1, y2, y3, y4, y5, y6), ⟨h2, vv, S2⟩, hm⟩
theorem c_mrgb6 {x y : Code} {ι1 : Type} {ι2 : Type} {ι3 : Type} {ι4 : Type} {ι5 : Type} {ι6 : Type} (_S : St w0 M0 ds a w l bs fs) (mods : ι1 → ι2 → ι3 → ι4 → ι5 → ι6 → (Nat → Value) → List (Nat × Value)) {l1 : ι1 → ι2 → ι3 → ι4 → ι5 → ι6 → (Nat → Value) → List Value} [∀ x1 x2 x3 x4 x5 x6 uu, SetG l (mods x1 x2 x3 x4 x5 x6 uu) (l1 x1 x2 x3 x4 x5 x6 uu)]   (rel : ι1 → ι2 → ι3 → ι4 → ι5 → ι6 → Prop)
    (hx : Wp P r x (Exit.then (fun a w => ∃ y1 y2 y3 y4 y5 y6 vv, rel y1 y2 y3 y4 y5 y6 ∧ St w0 M0 ds a w (l1 y1 y2 y3 y4 y5 y6 vv) bs fs) Q) a w) (hy : ∀ x1 x2 x3 x4 x5 x6 uu a w, rel x1 x2 x3 x4 x5 x6 → St w0 M0 ds a w (l1 x1 x2 x3 x4 x5 x6 uu) bs fs → Wp P r y Q a w) : Wp P r (.seq x y) Q a w :=
  c_merge _ hx fun a w h => by obtain ⟨y1, y2, y3, y4, y5, y6, vv, h1, h2⟩ := h; exact hy y1 y2 y3 y4 y5 y6 vv a w h1 h2
theorem c_drwb6 {id : Nat} {lo : List Oper} {ι1 : Type} {ι2 : Type} {ι3 : Type} {ι4 : Type} {ι5 : Type} {ι6 : Type} (t : Tr) (S : St w0 M0 ds a w l bs fs) (mods : ι1 → ι2 → ι3 → ι4 → ι5 → ι6 → (Nat → Value) → List (Nat × Value)) {l1 : ι1 → ι2 → ι3 → ι4 → ι5 → ι6 → (Nat → Value) → List Value} [∀ x1 x2 x3 x4 x5 x6 uu, SetG l (mods x1 x2 x3 x4 x5 x6 uu) (l1 x1 x2 x3 x4 x5 x6 uu)] (bs0 : List Item)   (rel : ι1 → ι2 → ι3 → ι4 → ι5 → ι6 → Prop)
    (h : ∀ w, St w0 M0 ds a w l bs fs → AT P lo.toArray (fun w => Wd w0 M0 w bs0 fs) (fun a w => ∃ y1 y2 y3 y4 y5 y6 vv, rel y1 y2 y3 y4 y5 y6 ∧ St w0 M0 ds a w (l1 y1 y2 y3 y4 y5 y6 vv) bs fs) t a w) (hK : ∀ x1 x2 x3 x4 x5 x6 uu a w, rel x1 x2 x3 x4 x5 x6 → St w0 M0 ds a w (l1 x1 x2 x3 x4 x5 x6 uu) bs fs → Q .normal a w) (hm : P.follows .mixedOrders = true := by kernel_rfl)
    (hd : ((lo.all fun o => !isDefer o.op) && (Nat.beq t.len lo.length && (Region.noSelect lo.toArray && flowT lo.toArray t (Array.replicate lo.length false)))) = true := by kernel_rfl) : Wp P r (.region id lo.toArray true) Q a w :=
  c_drawT t bs0 S _ h (fun a w h => by obtain ⟨y1, y2, y3, y4, y5, y6, vv, h1, h2⟩ := h; exact hK y1 y2 y3 y4 y5 y6 vv a w h1 h2) hm hd
theorem c_forf6 {c : Code} {ι1 : Type} {ι2 : Type} {ι3 : Type} {ι4 : Type} {ι5 : Type} {ι6 : Type} (_S : St w0 M0 ds a w l bs fs) (mods : ι1 → ι2 → ι3 → ι4 → ι5 → ι6 → (Nat → Value) → List (Nat × Value)) {l1 : ι1 → ι2 → ι3 → ι4 → ι5 → ι6 → (Nat → Value) → List Value} [∀ x1 x2 x3 x4 x5 x6 uu, SetG l (mods x1 x2 x3 x4 x5 x6 uu) (l1 x1 x2 x3 x4 x5 x6 uu)] (bs1 : ι1 → ι2 → ι3 → ι4 → ι5 → ι6 → List Item)  (rel : ι1 → ι2 → ι3 → ι4 → ι5 → ι6 → Prop) (μ : ι1 → ι2 → ι3 → ι4 → ι5 → ι6 → Nat) (z1 : ι1) (z2 : ι2) (z3 : ι3) (z4 : ι4) (z5 : ι5) (z6 : ι6) (h0 : rel z1 z2 z3 z4 z5 z6) (uu0 : Nat → Value) (S0 : St w0 M0 ds a w (l1 z1 z2 z3 z4 z5 z6 uu0) (bs1 z1 z2 z3 z4 z5 z6) fs)
    (hr : ∀ x1 x2 x3 x4 x5 x6 uu a w, rel x1 x2 x3 x4 x5 x6 → St w0 M0 ds a w (l1 x1 x2 x3 x4 x5 x6 uu) (bs1 x1 x2 x3 x4 x5 x6) fs → Wp P r c (Exit.then (fun a w => ∃ y1 y2 y3 y4 y5 y6 vv, rel y1 y2 y3 y4 y5 y6 ∧ St w0 M0 ds a w (l1 y1 y2 y3 y4 y5 y6 vv) (bs1 y1 y2 y3 y4 y5 y6) fs ∧ μ y1 y2 y3 y4 y5 y6 < μ x1 x2 x3 x4 x5 x6) Q) a w) : Wp P r (.loop c) Q a w := by
  refine c_loop (ι := ι1 × ι2 × ι3 × ι4 × ι5 × ι6) (fun p a w => rel (p.1) (p.2.1) (p.2.2.1) (p.2.2.2.1) (p.2.2.2.2.1) (p.2.2.2.2.2) ∧ ∃ uu, St w0 M0 ds a w (l1 (p.1) (p.2.1) (p.2.2.1) (p.2.2.2.1) (p.2.2.2.2.1) (p.2.2.2.2.2) uu) (bs1 (p.1) (p.2.1) (p.2.2.1) (p.2.2.2.1) (p.2.2.2.2.1) (p.2.2.2.2.2)) fs) (fun p => μ (p.1) (p.2.1) (p.2.2.1) (p.2.2.2.1) (p.2.2.2.2.1) (p.2.2.2.2.2)) (z1, z2, z3, z4, z5, z6) ⟨h0, uu0, S0⟩ ?_
  rintro p a w ⟨h1, uu, S1⟩
  refine wpIn_mono (hr (p.1) (p.2.1) (p.2.2.1) (p.2.2.2.1) (p.2.2.2.2.1) (p.2.2.2.2.2) uu a w h1 S1) fun e a1 w1 hq => ?_
  cases e <;> first | exact hq | skip
  obtain ⟨y1, y2, y3, y4, y5, y6, vv, h2, S2, hm⟩ := hq
  exact ⟨(y1, y2, y3, y4, y5, y6), ⟨h2, vv, S2⟩, hm⟩
theorem c_mrgf6 {x y : Code} {ι1 : Type} {ι2 : Type} {ι3 : Type} {ι4 : Type} {ι5 : Type} {ι6 : Type} (_S : St w0 M0 ds a w l bs fs) (mods : ι1 → ι2 → ι3 → ι4 → ι5 → ι6 → (Nat → Value) → List (Nat × Value)) {l1 : ι1 → ι2 → ι3 → ι4 → ι5 → ι6 → (Nat → Value) → List Value} [∀ x1 x2 x3 x4 x5 x6 uu, SetG l (mods x1 x2 x3 x4 x5 x6 uu) (l1 x1 x2 x3 x4 x5 x6 uu)] (bs1 : ι1 → ι2 → ι3 → ι4 → ι5 → ι6 → List Item)  (rel : ι1 → ι2 → ι3 → ι4 → ι5 → ι6 → Prop)
    (hx : Wp P r x (Exit.then (fun a w => ∃ y1 y2 y3 y4 y5 y6 vv, rel y1 y2 y3 y4 y5 y6 ∧ St w0 M0 ds a w (l1 y1 y2 y3 y4 y5 y6 vv) (bs1 y1 y2 y3 y4 y5 y6) fs) Q) a w) (hy : ∀ x1 x2 x3 x4 x5 x6 uu a w, rel x1 x2 x3 x4 x5 x6 → St w0 M0 ds a w (l1 x1 x2 x3 x4 x5 x6 uu) (bs1 x1 x2 x3 x4 x5 x6) fs → Wp P r y Q a w) : Wp P r (.seq x y) Q a w :=
  c_merge _ hx fun a w h => by obtain ⟨y1, y2, y3, y4, y5, y6, vv, h1, h2⟩ := h; exact hy y1 y2 y3 y4 y5 y6 vv a w h1 h2
theorem c_drwf6 {id : Nat} {lo : List Oper} {ι1 : Type} {ι2 : Type} {ι3 : Type} {ι4 : Type} {ι5 : Type} {ι6 : Type} (t : Tr) (S : St w0 M0 ds a w l bs fs) (mods : ι1 → ι2 → ι3 → ι4 → ι5 → ι6 → (Nat → Value) → List (Nat × Value)) {l1 : ι1 → ι2 → ι3 → ι4 → ι5 → ι6 → (Nat → Value) → List Value} [∀ x1 x2 x3 x4 x5 x6 uu, SetG l (mods x1 x2 x3 x4 x5 x6 uu) (l1 x1 x2 x3 x4 x5 x6 uu)] (bs0 : List Item) (bs1 : ι1 → ι2 → ι3 → ι4 → ι5 → ι6 → List Item)  (rel : ι1 → ι2 → ι3 → ι4 → ι5 → ι6 → Prop)
    (h : ∀ w, St w0 M0 ds a w l bs fs → AT P lo.toArray (fun w => Wd w0 M0 w bs0 fs) (fun a w => ∃ y1 y2 y3 y4 y5 y6 vv, rel y1 y2 y3 y4 y5 y6 ∧ St w0 M0 ds a w (l1 y1 y2 y3 y4 y5 y6 vv) (bs1 y1 y2 y3 y4 y5 y6) fs) t a w) (hK : ∀ x1 x2 x3 x4 x5 x6 uu a w, rel x1 x2 x3 x4 x5 x6 → St w0 M0 ds a w (l1 x1 x2 x3 x4 x5 x6 uu) (bs1 x1 x2 x3 x4 x5 x6) fs → Q .normal a w) (hm : P.follows .mixedOrders = true := by kernel_rfl)
    (hd : ((lo.all fun o => !isDefer o.op) && (Nat.beq t.len lo.length && (Region.noSelect lo.toArray && flowT lo.toArray t (Array.replicate lo.length false)))) = true := by kernel_rfl) : Wp P r (.region id lo.toArray true) Q a w :=
  c_drawT t bs0 S _ h (fun a w h => by obtain ⟨y1, y2, y3, y4, y5, y6, vv, h1, h2⟩ := h; exact hK y1 y2 y3 y4 y5 y6 vv a w h1 h2) hm hd
end
theorem Stable.tl {x : Item} {bs : List Item} {w : World} {Φ : World → Prop} (h : Stable (foots (x :: bs)) w Φ) : Stable (foots bs) w Φ := h.less fun _ _ ⟨it, hi, hk⟩ => ⟨it, List.mem_cons_of_mem _ hi, hk⟩

/-! items, whatever they are -/
class ItOk (x : Item) : Prop where
  loc : ∀ w1 w2 : World, (∀ k, x.foot k → w2.heap[k]? = w1.heap[k]?) → x.holds w1 → x.holds w2
  lt : ∀ w : World, x.holds w → ∀ k, x.foot k → k < w.heap.size
instance itBox {b : Nat} {t : TypeId} {cs : List Value} : ItOk (box b t cs) := ⟨box_loc b t cs, fun w h k hk => by simp only [box] at hk h; subst hk; exact (Array.getElem?_eq_some_iff.1 h).1⟩
instance itRow {e : TypeId} {sz : Nat} {p : Option Addr} {n c : Nat} {xs : List Value} : ItOk (row e sz p n c xs) := ⟨row_loc e sz p n c xs, fun _ h => row_foot_lt h⟩
instance itMp {b : Nat} {kv : List (List UInt8 × Value)} : ItOk (mp b kv) := ⟨mp_loc b kv, fun _ h => mp_lt h⟩
/-- two items taken for one. -/
def both (x y : Item) : Item where
  foot := fun k => x.foot k ∨ y.foot k
  holds := fun w => x.holds w ∧ y.holds w ∧ ∀ k, x.foot k → ¬ y.foot k
  own := x.own && y.own
instance itBoth {x y : Item} [hx : ItOk x] [hy : ItOk y] : ItOk (both x y) := ⟨fun w1 w2 h h1 => ⟨hx.loc w1 w2 (fun k hk => h k (.inl hk)) h1.1, hy.loc w1 w2 (fun k hk => h k (.inr hk)) h1.2.1, h1.2.2⟩, fun w h k hk => hk.elim (hx.lt w h.1 k) (hy.lt w h.2.1 k)⟩
theorem foots_both {x y : Item} {bs : List Item} : foots (both x y :: bs) = foots (x :: y :: bs) := by
  funext k
  simp only [foots, List.mem_cons, or_and_right, exists_or, exists_eq_left, both, or_assoc]
section
variable {w0 : World} {M0 : Nat → Prop} {ds : List Deferred} {a : Act} {w : World} {l : List Value} {bs bs' : List Item} {fs : List (World → Prop)} {x y : Item}
theorem Wd.toBoth [ox : ItOk x] [oy : ItOk y] (h : Wd w0 M0 w (x :: y :: bs) fs) (hx : x.own = true) (hy : y.own = true) : Wd w0 M0 w (both x y :: bs) fs := by
  have hp := List.pairwise_cons.1 h.apart
  have hp2 := List.pairwise_cons.1 hp.2
  have hap : ∀ k, x.foot k → ¬ y.foot k := hp.1 y (by simp)
  refine ⟨h.agree, ?_, ?_, ?_, ?_, ?_, ?_⟩
  · intro it hi
    rcases List.mem_cons.1 hi with rfl | hi
    · exact ⟨h.held x (by simp), h.held y (by simp), hap⟩
    · exact h.held it (by simp [hi])
  · intro it hi k hk
    rcases List.mem_cons.1 hi with rfl | hi
    · exact hk.elim (h.lt x (by simp) k) (h.lt y (by simp) k)
    · exact h.lt it (by simp [hi]) k hk
  · intro it hi ho k hk
    rcases List.mem_cons.1 hi with rfl | hi
    · exact hk.elim (h.own x (by simp) hx k) (h.own y (by simp) hy k)
    · exact h.own it (by simp [hi]) ho k hk
  · exact List.pairwise_cons.2 ⟨fun it hi k hk => hk.elim (hp.1 it (by simp [hi]) k) (hp2.1 it hi k), hp2.2⟩
  · intro Φ hΦ; rw [foots_both]; exact h.facts Φ hΦ
  · intro it hi
    rcases List.mem_cons.1 hi with rfl | hi
    · exact (itBoth (x := x) (y := y)).loc
    · exact h.loc it (by simp [hi])
theorem Wd.ofBoth [ox : ItOk x] [oy : ItOk y] (h : Wd w0 M0 w (both x y :: bs) fs) (hx : x.own = true) (hy : y.own = true) : Wd w0 M0 w (x :: y :: bs) fs := by
  have hb := h.held (both x y) (by simp)
  have hp := List.pairwise_cons.1 h.apart
  have hown := h.own (both x y) (by simp) (by simp [both, hx, hy])
  refine ⟨h.agree, ?_, ?_, ?_, ?_, ?_, ?_⟩
  · intro it hi
    rcases List.mem_cons.1 hi with rfl | hi
    · exact hb.1
    · rcases List.mem_cons.1 hi with rfl | hi
      · exact hb.2.1
      · exact h.held it (by simp [hi])
  · intro it hi k hk
    rcases List.mem_cons.1 hi with rfl | hi
    · exact h.lt (both it y) (by simp) k (.inl hk)
    · rcases List.mem_cons.1 hi with rfl | hi
      · exact h.lt (both x it) (by simp) k (.inr hk)
      · exact h.lt it (by simp [hi]) k hk
  · intro it hi ho k hk
    rcases List.mem_cons.1 hi with rfl | hi
    · exact hown k (.inl hk)
    · rcases List.mem_cons.1 hi with rfl | hi
      · exact hown k (.inr hk)
      · exact h.own it (by simp [hi]) ho k hk
  · refine List.pairwise_cons.2 ⟨fun it hi k hk => ?_, List.pairwise_cons.2 ⟨fun it hi k hk => hp.1 it hi k (.inr hk), hp.2⟩⟩
    rcases List.mem_cons.1 hi with rfl | hi
    · exact hb.2.2 k hk
    · exact hp.1 it hi k (.inl hk)
  · intro Φ hΦ; rw [← foots_both]; exact h.facts Φ hΦ
  · intro it hi
    rcases List.mem_cons.1 hi with rfl | hi
    · exact ox.loc
    · rcases List.mem_cons.1 hi with rfl | hi
      · exact oy.loc
      · exact h.loc it (by simp [hi])
/-- items in another order. -/
theorem St.perm (S : St w0 M0 ds a w l bs fs) (bs' : List Item) (hp : bs'.Perm bs) : St w0 M0 ds a w l bs' fs := ⟨S.slots, S.defers, S.wd.perm hp⟩
/-- an item is taken to the front. -/
theorem St.front (S : St w0 M0 ds a w l bs fs) (x : Item) [hd : DropI bs x bs'] : St w0 M0 ds a w l (x :: bs') fs := S.perm _ hd.perm
theorem St.toBoth [ItOk x] [ItOk y] (S : St w0 M0 ds a w l (x :: y :: bs) fs) (hx : x.own = true := by rfl) (hy : y.own = true := by rfl) : St w0 M0 ds a w l (both x y :: bs) fs := ⟨S.slots, S.defers, S.wd.toBoth hx hy⟩
theorem St.ofBoth [ItOk x] [ItOk y] (S : St w0 M0 ds a w l (both x y :: bs) fs) (hx : x.own = true := by rfl) (hy : y.own = true := by rfl) : St w0 M0 ds a w l (x :: y :: bs) fs := ⟨S.slots, S.defers, S.wd.ofBoth hx hy⟩
/-- what a function begins with that is lent an item. -/
theorem Wd.itLent {x : Item} [ox : ItOk x] (h : x.holds w) (hf : ∀ Φ ∈ fs, Stable x.foot w Φ) : Wd w x.foot w [x] fs := by
  refine ⟨Agree.refl _ _, ?_, ?_, ?_, by simp, ?_, ?_⟩
  · intro it hi; obtain rfl := List.mem_singleton.1 hi; exact h
  · intro it hi; obtain rfl := List.mem_singleton.1 hi; exact ox.lt w h
  · intro it hi _ k hk; obtain rfl := List.mem_singleton.1 hi; exact .inl hk
  · intro Φ hΦ
    refine (hf Φ hΦ).less fun k _ hk => ?_
    obtain ⟨it, hi, hk⟩ := hk
    obtain rfl := List.mem_singleton.1 hi; exact hk
  · intro it hi; obtain rfl := List.mem_singleton.1 hi; exact ox.loc
/-- likewise two items. -/
theorem Wd.it2Lent {x y : Item} [ox : ItOk x] [oy : ItOk y] (h : (both x y).holds w) (hx : x.own = true) (hy : y.own = true) (hf : ∀ Φ ∈ fs, Stable (both x y).foot w Φ) : Wd w (both x y).foot w [x, y] fs := (Wd.itLent h hf).ofBoth hx hy
class HasIt (bs : List Item) (x : Item) : Prop where mem : x ∈ bs
instance hit0 {x : Item} {bs : List Item} : HasIt (x :: bs) x := ⟨List.mem_cons_self ..⟩
instance (priority := 900) hit1 {x y : Item} {bs : List Item} [h : HasIt bs x] : HasIt (y :: bs) x := ⟨List.mem_cons_of_mem _ h.mem⟩
theorem St.it (S : St w0 M0 ds a w l bs fs) (x : Item) [h : HasIt bs x] : x.holds w := S.wd.held _ h.mem
/-- facts as a callee sees them to whom an item is lent. -/
theorem St.lend (_S : St w0 M0 ds a w l bs fs) (x : Item) [h : HasIt bs x] {Φ : World → Prop} (hΦ : Stable (foots bs) w Φ) : Stable x.foot w Φ := hΦ.less fun _ _ hk => ⟨_, h.mem, hk⟩
theorem St.itNew (S : St w0 M0 ds a w l bs fs) (x : Item) [h : HasIt bs x] (ho : x.own = true := by rfl) : ∀ k, x.foot k → M0 k ∨ w0.heap.size ≤ k := S.wd.own _ h.mem ho
end
section
variable {P : Program} {r : Option Nat} {ops : Array Oper} {Q : Exit → Act → World → Prop} {w0 : World} {M0 : Nat → Prop} {ds : List Deferred} {a : Act} {w : World} {l : List Value} {bs : List Item} {fs : List (World → Prop)}
  {d : Option Nat} {ty : TypeId} {pos : String} {af : Array Edge} {rest : List Oper} {f : Nat} {x : Operand} {ys : List Operand} {args : List Value} {ts : Array TypeId}
/-- a call that may write what one item holds. -/
theorem sit {l' : Value → List Value} (it : Item) [EntF P f] [CallTo ⟨[], l⟩ x ys f args] [hp : ∀ v, PutO l d v (l' v)] (S : St w0 M0 ds a w l bs fs) {R : Value → World → Prop} (hc : Ret P f args w it.foot R) (ho : it.own = true)
    (K : ∀ v a w', R v w' → (∀ (y : Item) {bs' : List Item} [ReplI bs it y bs'] [ItOk y], y.holds w' → (∀ k, y.foot k → it.foot k ∨ w.heap.size ≤ k) → St w0 M0 ds a w' (l' v) bs' fs) → WL P r ops Q rest a w') :
    WL P r ops Q (⟨d, .call { callee := .value x, args := ys.toArray, argTypes := ts }, ty, pos, af, none⟩ :: rest) a w :=
  sri it S hc ho fun v a w' hR hS => K v a w' hR fun y bs' hr oy h hf => hS y bs' hr h hf (oy.lt w' h) oy.loc
/-- a call that hands back something in new memory. -/
theorem snew {l' : Value → List Value} [EntF P f] [CallTo ⟨[], l⟩ x ys f args] [hp : ∀ v, PutO l d v (l' v)] (S : St w0 M0 ds a w l bs fs) {R : Value → World → Prop} (hc : Ret P f args w (fun _ => False) R)
    (K : ∀ v a w', w.heap.size ≤ w'.heap.size → R v w' → (∀ (y : Item) [ItOk y], y.holds w' → (∀ k, y.foot k → w.heap.size ≤ k) → St w0 M0 ds a w' (l' v) (y :: bs) fs) → St w0 M0 ds a w' (l' v) bs fs → WL P r ops Q rest a w') :
    WL P r ops Q (⟨d, .call { callee := .value x, args := ys.toArray, argTypes := ts }, ty, pos, af, none⟩ :: rest) a w := by
  refine cv_any S hc ?_
  rintro e w' ⟨v, rfl, ha, hR⟩
  have := hp v
  have S' := S.put (d := d) (v := v)
  exact ⟨v, rfl, K v _ w' ha.size hR (fun y oy hy hf => ⟨S'.slots, S'.defers, S'.wd.addItem ha hy hf (oy.lt w' hy) oy.loc⟩) ⟨S'.slots, S'.defers, S'.wd.step ha⟩⟩
end

/-! texts cut out of texts -/
instance : IsNat 6 6 := ⟨rfl⟩
instance : IsNat 7 7 := ⟨rfl⟩
instance : IsNat 8 8 := ⟨rfl⟩
instance : IsNat 9 9 := ⟨rfl⟩
instance : IsNat 10 10 := ⟨rfl⟩
instance : IsNat 11 11 := ⟨rfl⟩
instance : IsNat 12 12 := ⟨rfl⟩
instance : IsNat 13 13 := ⟨rfl⟩
instance : IsNat 14 14 := ⟨rfl⟩
instance : IsNat 15 15 := ⟨rfl⟩
instance : IsNat 16 16 := ⟨rfl⟩
instance : IsNat 17 17 := ⟨rfl⟩
instance : IsNat 18 18 := ⟨rfl⟩
instance : IsNat 19 19 := ⟨rfl⟩
instance : IsNat 20 20 := ⟨rfl⟩
instance : IsNat 21 21 := ⟨rfl⟩
instance : IsNat 22 22 := ⟨rfl⟩
instance : IsNat 23 23 := ⟨rfl⟩
instance : IsNat 24 24 := ⟨rfl⟩
instance : IsNat 25 25 := ⟨rfl⟩
instance : IsNat 26 26 := ⟨rfl⟩
instance : IsNat 27 27 := ⟨rfl⟩
instance : IsNat 28 28 := ⟨rfl⟩
instance : IsNat 29 29 := ⟨rfl⟩
instance : IsNat 30 30 := ⟨rfl⟩
instance : IsNat 31 31 := ⟨rfl⟩
instance : IsNat 32 32 := ⟨rfl⟩
instance : IsNat 33 33 := ⟨rfl⟩
instance : IsNat 34 34 := ⟨rfl⟩
instance : IsNat 35 35 := ⟨rfl⟩
instance : IsNat 36 36 := ⟨rfl⟩
instance : IsNat 37 37 := ⟨rfl⟩
instance : IsNat 38 38 := ⟨rfl⟩
instance : IsNat 39 39 := ⟨rfl⟩
instance : IsNat 40 40 := ⟨rfl⟩
instance : IsNat 41 41 := ⟨rfl⟩
instance : IsNat 42 42 := ⟨rfl⟩
instance : IsNat 43 43 := ⟨rfl⟩
instance : IsNat 44 44 := ⟨rfl⟩
instance : IsNat 45 45 := ⟨rfl⟩
instance : IsNat 46 46 := ⟨rfl⟩
instance : IsNat 47 47 := ⟨rfl⟩
instance : IsNat 48 48 := ⟨rfl⟩
instance : IsNat 49 49 := ⟨rfl⟩
instance : IsNat 50 50 := ⟨rfl⟩
instance : IsNat 51 51 := ⟨rfl⟩
instance : IsNat 52 52 := ⟨rfl⟩
instance : IsNat 53 53 := ⟨rfl⟩
instance : IsNat 54 54 := ⟨rfl⟩
instance : IsNat 55 55 := ⟨rfl⟩
instance : IsNat 56 56 := ⟨rfl⟩
instance : IsNat 57 57 := ⟨rfl⟩
instance : IsNat 58 58 := ⟨rfl⟩
instance : IsNat 59 59 := ⟨rfl⟩
instance : IsNat 60 60 := ⟨rfl⟩
instance : IsNat 61 61 := ⟨rfl⟩
instance : IsNat 62 62 := ⟨rfl⟩
instance : IsNat 63 63 := ⟨rfl⟩
instance : IsNat 64 64 := ⟨rfl⟩
instance : IsNat 65 65 := ⟨rfl⟩
instance : IsNat 66 66 := ⟨rfl⟩
instance : IsNat 67 67 := ⟨rfl⟩
instance : IsNat 68 68 := ⟨rfl⟩
instance : IsNat 69 69 := ⟨rfl⟩
instance : IsNat 70 70 := ⟨rfl⟩
instance : IsNat 71 71 := ⟨rfl⟩
instance : IsNat 72 72 := ⟨rfl⟩
instance : IsNat 73 73 := ⟨rfl⟩
instance : IsNat 74 74 := ⟨rfl⟩
instance : IsNat 75 75 := ⟨rfl⟩
instance : IsNat 76 76 := ⟨rfl⟩
instance : IsNat 77 77 := ⟨rfl⟩
instance : IsNat 78 78 := ⟨rfl⟩
instance : IsNat 79 79 := ⟨rfl⟩
instance : IsNat 80 80 := ⟨rfl⟩
instance : IsNat 81 81 := ⟨rfl⟩
instance : IsNat 82 82 := ⟨rfl⟩
instance : IsNat 83 83 := ⟨rfl⟩
instance : IsNat 84 84 := ⟨rfl⟩
instance : IsNat 85 85 := ⟨rfl⟩
instance : IsNat 86 86 := ⟨rfl⟩
instance : IsNat 87 87 := ⟨rfl⟩
instance : IsNat 88 88 := ⟨rfl⟩
instance : IsNat 89 89 := ⟨rfl⟩
instance : IsNat 90 90 := ⟨rfl⟩
instance : IsNat 91 91 := ⟨rfl⟩
instance : IsNat 92 92 := ⟨rfl⟩
instance : IsNat 93 93 := ⟨rfl⟩
instance : IsNat 94 94 := ⟨rfl⟩
instance : IsNat 95 95 := ⟨rfl⟩
instance : IsNat 96 96 := ⟨rfl⟩
instance : IsNat 97 97 := ⟨rfl⟩
instance : IsNat 98 98 := ⟨rfl⟩
instance : IsNat 99 99 := ⟨rfl⟩
instance : IsNat 100 100 := ⟨rfl⟩
instance : IsNat 101 101 := ⟨rfl⟩
instance : IsNat 102 102 := ⟨rfl⟩
instance : IsNat 103 103 := ⟨rfl⟩
instance : IsNat 104 104 := ⟨rfl⟩
instance : IsNat 105 105 := ⟨rfl⟩
instance : IsNat 106 106 := ⟨rfl⟩
instance : IsNat 107 107 := ⟨rfl⟩
instance : IsNat 108 108 := ⟨rfl⟩
instance : IsNat 109 109 := ⟨rfl⟩
instance : IsNat 110 110 := ⟨rfl⟩
instance : IsNat 111 111 := ⟨rfl⟩
instance : IsNat 112 112 := ⟨rfl⟩
instance : IsNat 113 113 := ⟨rfl⟩
instance : IsNat 114 114 := ⟨rfl⟩
instance : IsNat 115 115 := ⟨rfl⟩
instance : IsNat 116 116 := ⟨rfl⟩
instance : IsNat 117 117 := ⟨rfl⟩
instance : IsNat 118 118 := ⟨rfl⟩
instance : IsNat 119 119 := ⟨rfl⟩
instance : IsNat 120 120 := ⟨rfl⟩
instance : IsNat 121 121 := ⟨rfl⟩
instance : IsNat 122 122 := ⟨rfl⟩
instance : IsNat 123 123 := ⟨rfl⟩
instance : IsNat 124 124 := ⟨rfl⟩
instance : IsNat 125 125 := ⟨rfl⟩
instance : IsNat 126 126 := ⟨rfl⟩
instance : IsNat 127 127 := ⟨rfl⟩
instance : IsNat 128 128 := ⟨rfl⟩
instance : IsNat 129 129 := ⟨rfl⟩
instance : IsNat 130 130 := ⟨rfl⟩
instance : IsNat 200 200 := ⟨rfl⟩
instance : IsNat 250 250 := ⟨rfl⟩
instance : IsNat 255 255 := ⟨rfl⟩
instance : IsNat 256 256 := ⟨rfl⟩
instance : IsNat 300 300 := ⟨rfl⟩
instance : IsNat 400 400 := ⟨rfl⟩
instance : IsNat 430 430 := ⟨rfl⟩
instance : IsNat 500 500 := ⟨rfl⟩
instance : IsNat 501 501 := ⟨rfl⟩
instance : IsNat 512 512 := ⟨rfl⟩
instance : IsNat 600 600 := ⟨rfl⟩
instance : IsNat 1000 1000 := ⟨rfl⟩
instance : IsNat 1024 1024 := ⟨rfl⟩
instance : IsNat 1200 1200 := ⟨rfl⟩
instance : IsNat 1300 1300 := ⟨rfl⟩
instance : IsNat 2048 2048 := ⟨rfl⟩
instance : IsNat 4096 4096 := ⟨rfl⟩
instance : IsNat 9999 9999 := ⟨rfl⟩
instance : IsNat 20000 20000 := ⟨rfl⟩
instance : IsNat 40000 40000 := ⟨rfl⟩
instance : IsNat 65535 65535 := ⟨rfl⟩
instance : IsNat 65536 65536 := ⟨rfl⟩
instance : IsNat 262144 262144 := ⟨rfl⟩
instance isnatMin {a b : Int} {n m : Nat} [h : IsNat a n] [h' : IsNat b m] : IsNat (min a b) (min n m) := ⟨by rw [h.eq, h'.eq]; omega⟩
instance lecMin {a b : Nat} : LeC (min a b) a := ⟨Nat.min_le_left _ _⟩
instance (priority := 900) lecZ {a : Nat} : LeC 0 a := ⟨Nat.zero_le _⟩
theorem str_cut (s : List UInt8) (lo hi : Nat) : (⟨s.toArray⟩ : ByteArray).extract lo hi = ⟨((s.take hi).drop lo).toArray⟩ := by
  apply ByteArray.ext
  rw [ByteArray.data_extract]
  simp [List.extract_eq_take_drop, List.drop_take]
section
variable {P : Program} {l lc : Cx} {bs : List Item} {fs : List (World → Prop)} {x y : Operand} {p : Option Addr} {n c k : Nat} {t ty e : TypeId} {z : Value} {sz by_ : Nat} {ol oh om : Option Operand} {lo hi mx : Nat} {s : List UInt8}
instance opSliceStr [Ev lc x (str s)] [hl : EvB lc ol 0 lo] [hh : EvB lc oh s.length hi] [Und P t .string] [h1 : LeC hi s.length] [h2 : LeC lo hi] : OpQ P (.slice t x ol oh none) ty lc bs fs (str ((s.take hi).drop lo)) := ⟨fun ρ w hf _ => by
  have eX : ρ x = str s := hf.ev
  have hb : (Instr.sliceBounds false s.length s.length (ol.map ρ) (oh.map ρ) none).run P w = .ok (lo, hi, s.length) w := by
    rcases hh.eq with ⟨rfl, rfl⟩ | ⟨o2, kk2, rfl, h'⟩
    · rcases hl.eq with ⟨rfl, rfl⟩ | ⟨o3, kk3, rfl, h''⟩
      · simp [Instr.sliceBounds]
      · have e3 := hf.ev (x := o3) (v := .int kk3 (lo : Int))
        simp [Instr.sliceBounds, e3, run_sliceBound h2.le]
    · have e2 := hf.ev (x := o2) (v := .int kk2 (hi : Int))
      rcases hl.eq with ⟨rfl, rfl⟩ | ⟨o3, kk3, rfl, h''⟩
      · simp [Instr.sliceBounds, e2, run_sliceBound h1.le]
      · have e3 := hf.ev (x := o3) (v := .int kk3 (lo : Int))
        simp [Instr.sliceBounds, Sem.run_bind, e2, e3, run_sliceBound h1.le, run_sliceBound h2.le]
  have hsz : (⟨s.toArray⟩ : ByteArray).size = s.length := rfl
  simp [xop, execOp, eX, Instr.sliceAt, Instr.slice, Sem.run_bind, run_und, hsz, hb, str_cut]⟩
instance (priority := 710) opSliceQ0 [Ev lc x (.slice p n c)] [EvB lc oh n hi] [EvB lc om c mx] [Und P t (.slice e)] [TI P e z sz by_] [h1 : LeC mx c] [h2 : LeC hi mx] [h4 : HiOk om oh] :
    OpQ P (.slice t x none oh om) ty lc bs fs (.slice p hi mx) := ⟨fun ρ w h _ => by
  have := run_cut (P := P) (ρ := ρ) (lc := lc) (ol := none) (oh := oh) (om := om) (lo := 0) (hi := hi) (mx := mx) (t := t) (e := e) (z := z) (sz := sz) (by_ := by_) (x := x) (p := p) (n := n) (c := c) (ty := ty) h h1.le h2.le (Nat.zero_le _) h4.ok w
  rw [this]
  have e1 : (if mx = 0 then p else p.map (·.add (0 * sz))) = p := by
    split
    · rfl
    · cases p <;> simp [Addr.add]
  rw [e1]; simp⟩
end
/-- a list of terms that somebody has. -/
def IsLs (M : Nat → Prop) (w : World) (v : Value) (Ts : List Term) : Prop := ∃ (p : Option Addr) (c : Nat) (os : List LTerm), v = .slice p os.length c ∧ os.map LTerm.t = Ts ∧ os.length ≤ c ∧ c ≤ maxLen ∧ Stable M w (LsF p 0 os)

/-- what a function begins with that is lent an item; of the blocks Mr it knows nothing. -/
theorem Wd.itLentM {w : World} {fs : List (World → Prop)} {x : Item} {Mr : Nat → Prop} [ox : ItOk x] (h : x.holds w) (hM : ∀ k, Mr k → k < w.heap.size ∧ ¬ x.foot k) (hf : ∀ Φ ∈ fs, Stable (fun k => x.foot k ∨ Mr k) w Φ) : Wd w x.foot w [x, ext Mr] fs := by
  refine ⟨Agree.refl _ _, ?_, ?_, ?_, ?_, ?_, ?_⟩
  · intro it hi
    rcases List.mem_cons.1 hi with rfl | hi
    · exact h
    · obtain rfl := List.mem_singleton.1 hi; trivial
  · intro it hi k hk
    rcases List.mem_cons.1 hi with rfl | hi
    · exact ox.lt w h k hk
    · obtain rfl := List.mem_singleton.1 hi; exact (hM k hk).1
  · intro it hi ho k hk
    rcases List.mem_cons.1 hi with rfl | hi
    · exact .inl hk
    · obtain rfl := List.mem_singleton.1 hi; cases ho
  · refine List.pairwise_cons.2 ⟨fun it hi k hk hk' => ?_, by simp⟩
    obtain rfl := List.mem_singleton.1 hi; exact (hM k hk').2 hk
  · intro Φ hΦ
    refine (hf Φ hΦ).less fun k _ hk => ?_
    obtain ⟨it, hi, hk⟩ := hk
    rcases List.mem_cons.1 hi with rfl | hi
    · exact .inl hk
    · obtain rfl := List.mem_singleton.1 hi; exact .inr hk
  · intro it hi
    rcases List.mem_cons.1 hi with rfl | hi
    · exact ox.loc
    · obtain rfl := List.mem_singleton.1 hi; exact fun _ _ _ _ => trivial
theorem Wd.it2LentM {w : World} {fs : List (World → Prop)} {x y : Item} {Mr : Nat → Prop} [ox : ItOk x] [oy : ItOk y] (h : (both x y).holds w) (hx : x.own = true) (hy : y.own = true) (hM : ∀ k, Mr k → k < w.heap.size ∧ ¬ (both x y).foot k) (hf : ∀ Φ ∈ fs, Stable (fun k => (both x y).foot k ∨ Mr k) w Φ) : Wd w (both x y).foot w [x, y, ext Mr] fs := (Wd.itLentM h hM hf).ofBoth hx hy
/-- what else a caller holds. -/
def restOf (bs : List Item) (x : Item) : Nat → Prop := fun k => foots bs k ∧ ¬ x.foot k
theorem St.restOk {w0 : World} {M0 : Nat → Prop} {ds : List Deferred} {a : Act} {w : World} {l : List Value} {bs : List Item} {fs : List (World → Prop)} (S : St w0 M0 ds a w l bs fs) (x : Item) : ∀ k, restOf bs x k → k < w.heap.size ∧ ¬ x.foot k := fun k h => ⟨foots_lt S k h.1, h.2⟩
theorem Stable.split {bs : List Item} {w : World} {Φ : World → Prop} (x : Item) [hx : HasIt bs x] (h : Stable (foots bs) w Φ) : Stable (fun k => x.foot k ∨ restOf bs x k) w Φ := h.less fun _ _ hk => hk.elim (fun h => ⟨x, hx.mem, h⟩) (fun h => h.1)

section
variable {P : Program} {r : Option Nat} {ops : Array Oper} {Q : Exit → Act → World → Prop} {w0 : World} {M0 : Nat → Prop} {ds : List Deferred} {a : Act} {w : World} {l : List Value} {bs bs' : List Item} {fs : List (World → Prop)}
  {d : Option Nat} {ty : TypeId} {pos : String} {af : Array Edge} {rest : List Oper} {f : Nat} {x : Operand} {ys : List Operand} {args : List Value} {ts : Array TypeId}
theorem St.addAll (S : St w0 M0 ds a w l bs fs) : ∀ (fs2 : List (World → Prop)), (∀ Φ ∈ fs2, Stable (foots bs) w Φ) → St w0 M0 ds a w l bs (fs2 ++ fs)
  | [], _ => S
  | Φ :: fs2, h => (St.addAll S fs2 (fun Ψ hΨ => h Ψ (by simp [hΨ]))).add (h Φ (by simp))
/-- a call that may write what one item holds, and hands facts back. -/
theorem sitM {l' : Value → List Value} (it : Item) [EntF P f] [CallTo ⟨[], l⟩ x ys f args] [hp : ∀ v, PutO l d v (l' v)] (S : St w0 M0 ds a w l bs fs) {R : Value → World → Prop} (hc : Ret P f args w it.foot R) (ho : it.own = true)
    (K : ∀ v a w', R v w' → (∀ (y : Item) (fs2 : List (World → Prop)) {fs3 : List (World → Prop)} {bs' : List Item} [AppL fs2 fs fs3] [ReplI bs it y bs'] [ItOk y], y.holds w' → (∀ k, y.foot k → it.foot k ∨ w.heap.size ≤ k) → (∀ Φ ∈ fs2, Stable (fun k => y.foot k ∨ restOf bs it k) w' Φ) → St w0 M0 ds a w' (l' v) bs' fs3) → WL P r ops Q rest a w') :
    WL P r ops Q (⟨d, .call { callee := .value x, args := ys.toArray, argTypes := ts }, ty, pos, af, none⟩ :: rest) a w := by
  have hap := S.wd.apart
  refine sit it S hc ho fun v a w' hR hS => K v a w' hR fun y fs2 fs3 bs' happ hr oy hy hf hfs => ?_
  rw [← happ.eq]
  refine (hS y hy hf).addAll fs2 fun Φ hΦ => (hfs Φ hΦ).less fun k _ hk => ?_
  obtain ⟨pre, post, rfl, rfl⟩ := hr.ex
  obtain ⟨z, hz, hk⟩ := hk
  have hp := List.pairwise_append.1 hap
  rcases List.mem_append.1 hz with hz | hz
  · exact .inr ⟨⟨z, by simp [hz], hk⟩, hp.2.2 z hz it (by simp) k hk⟩
  · rcases List.mem_cons.1 hz with rfl | hz
    · exact .inl hk
    · exact .inr ⟨⟨z, by simp [hz], hk⟩, fun hx => (List.pairwise_cons.1 hp.2.1).1 z hz k hx hk⟩
/-- a variable of one's own that is only read from here on. -/
theorem St.boxToF (S : St w0 M0 ds a w l bs fs) (b : Nat) {t : TypeId} {cs : List Value} [_hb : HasBox bs b t cs] [hd : DropI bs (Wk.box b t cs) bs'] : St w0 M0 ds a w l bs' (BoxF b t cs :: fs) := by
  have S1 := S.perm _ hd.perm
  have hap := List.pairwise_cons.1 S1.wd.apart
  have hbx : BoxF b t cs w := S1.wd.held (Wk.box b t cs) (by simp)
  have S2 : St w0 M0 ds a w l bs' fs := ⟨S1.slots, S1.defers, S1.wd.sub (.cons _ (.refl _)) (.refl _)⟩
  exact S2.add (BoxF.stable hbx fun ⟨it, hi, hk⟩ => hap.1 it hi b rfl hk)
end

/-- one's own row of terms, wherever it stands, is somebody's list. -/
theorem St.frontLs {w0 : World} {M0 : Nat → Prop} {ds : List Deferred} {a : Act} {w : World} {l : List Value} {bs bs' : List Item} {fs : List (World → Prop)} (S : St w0 M0 ds a w l bs fs) (b : Nat) (ts : List LTerm) {T : TypeId} {cs : List Value} [_hb : HasBox bs b T cs] [hd : DropI bs (Wk.box b T cs) bs'] (hc : cs = ts.flatMap LTerm.cells) (h : ∀ t ∈ ts, Stable (foots bs) w (LtF t)) : St w0 M0 ds a w l bs' (LsF (some ⟨b, 0, none⟩) 0 ts :: fs) := by
  have S1 : St w0 M0 ds a w l (Wk.box b T cs :: bs') fs := S.perm _ hd.perm
  refine S1.boxLs ts hc fun t ht => (h t ht).less fun k _ ⟨it, hi, hk⟩ => ⟨it, (hd.perm.mem_iff).1 hi, hk⟩
theorem ltF_mk {M : Nat → Prop} {w : World} {k u n : Int} {s : List UInt8} {p : Option Addr} {c : Nat} {ks : List LTerm} (h1 : ks.length ≤ c) (h2 : c ≤ maxLen) (h : Stable M w (LsF p 0 ks)) : Stable M w (LtF (.mk k u n s p c ks)) := fun w' hw' => ⟨h1, h2, h w' hw'⟩

instance condsU {pol : Bool} : Conds undef pol [false] := ⟨by simp [undef]⟩
/-- an operation whose guard was itself passed over. -/
theorem gU {P : Program} {r : Option Nat} {ops : Array Oper} {Q : Exit → Act → World → Prop} {w0 : World} {M0 : Nat → Prop} {ds : List Deferred} {a : Act} {w : World} {l l' : List Value} {bs : List Item} {fs : List (World → Prop)} {d : Option Nat} {op : Op} {ty : TypeId} {pos : String} {af : Array Edge} {rest : List Oper} {j g : Nat} {pol : Bool}
    (S : St w0 M0 ds a w l bs fs) [hp : PutO l d undef l'] [hg : GSlot ops j g] [hn : Nth l g undef] (h : ∀ a, St w0 M0 ds a w l' bs fs → WL P r ops Q rest a w) : WL P r ops Q (⟨d, op, ty, pos, af, some (j, pol)⟩ :: rest) a w :=
  wl_guard (fun ht => by
    have := (wanted_iff (ops := ops) (d := d) (op := op) (ty := ty) (pos := pos) (af := af) (pol := pol) S hg.eq).1 ht
    simp at this) fun _ => h _ S.put
theorem lsBox {w : World} {b : Nat} {T : TypeId} {ts : List LTerm} (hb : w.heap[b]? = some (.cells (ts.flatMap LTerm.cells).toArray T (0, 0))) (h : ∀ t ∈ ts, Stable (fun _ => False) w (LtF t)) : Stable (fun _ => False) w (LsF (some ⟨b, 0, none⟩) 0 ts) := fun w' hw' =>
  LsIn.of_block ts (by rw [hw'.blk (Array.getElem?_eq_some_iff.1 hb).1 id]; exact hb) fun t ht => h t ht w' hw'

/-! a byte of a text -/
section
variable {P : Program} {l : Cx} {bs : List Item} {fs : List (World → Prop)} {x y : Operand} {k : Nat} {kk : IntKind} {m : Int} {t ty : TypeId} {s : List UInt8}
instance opIndexStr [Ev l x (str s)] [Ev l y (.int kk m)] [Und P t .string] [hm : IsNat m k] [hk : KLt k s.length] : OpQ P (.index t x y) ty l bs fs (.int .u8 ((nthG s k).toNat : Int)) := ⟨fun ρ w h _ => by
  have h2 := hm.eq
  subst h2
  have hlt := hk.lt
  have hsz : k < (⟨s.toArray⟩ : ByteArray).size := hlt
  have hb : (⟨s.toArray⟩ : ByteArray)[k]? = some (nthG s k) := by
    rw [getElem?_pos (⟨s.toArray⟩ : ByteArray) k hsz]
    have : (⟨s.toArray⟩ : ByteArray)[k] = s[k] := rfl
    rw [this]
    have := nthG_get hlt
    rw [List.getElem?_eq_getElem hlt] at this
    exact this
  simp [xop, execOp, h.ev (x := x) (v := str s), h.ev (x := y) (v := .int kk (k : Int)), Instr.index, asIntOf, Sem.run_bind, run_und, hb]⟩
end
/-! the first of those for which something holds -/
def idxG {α : Type} (q : α → Bool) : List α → Int → Int
  | [], _ => -1
  | x :: xs, i => if q x then i else idxG q xs (i + 1)
theorem idxG_any {α : Type} (q : α → Bool) : ∀ (xs : List α) (i : Int), 0 ≤ i → (decide (0 ≤ idxG q xs i) = xs.any q)
  | [], i, h => by simp [idxG]
  | x :: xs, i, h => by
    rw [idxG, List.any_cons]
    cases hq : q x with
    | true => simp [h]
    | false => simpa using idxG_any q xs (i + 1) (by omega)
theorem idxG_cases {α : Type} [Lay α] (q : α → Bool) : ∀ (xs : List α) (o : Nat), (idxG q xs o = -1 ∧ ∀ x ∈ xs, q x = false) ∨ ∃ i, idxG q xs o = ((o + i : Nat) : Int) ∧ i < xs.length ∧ q (nthG xs i) = true ∧ ∀ x ∈ xs.take i, q x = false
  | [], o => .inl ⟨rfl, by simp⟩
  | x :: xs, o => by
    rw [idxG]
    cases hq : q x with
    | true => exact .inr ⟨0, by simp, by simp, by simpa [nthG] using hq, by simp⟩
    | false =>
      rcases idxG_cases q xs (o + 1) with ⟨h1, h2⟩ | ⟨i, h1, h2, h3, h4⟩
      · refine .inl ⟨by simpa using h1, fun y hy => ?_⟩
        rcases List.mem_cons.1 hy with rfl | hy
        · exact hq
        · exact h2 y hy
      · refine .inr ⟨i + 1, ?_, by simp; omega, by simpa [nthG] using h3, fun y hy => ?_⟩
        · have : ((o : Int) + 1) = ((o + 1 : Nat) : Int) := by omega
          simp only [Bool.false_eq_true, if_false]
          rw [this, h1]; omega
        · rw [List.take_succ_cons] at hy
          rcases List.mem_cons.1 hy with rfl | hy
          · exact hq
          · exact h4 y hy
theorem encL_takeG {α : Type} [Enc α] (xs : List α) (m : Nat) : encL (xs.take m) = (encL xs).take (m * Enc.sz α) := (encL_take xs m).symm
theorem GlF.take {α : Type} [Lay α] {p : Option Addr} {xs : List α} {w : World} (m : Nat) (h : GlF p xs w) : GlF p (xs.take m) w := by
  refine ⟨⟨fun hp => by rw [encL_takeG, h.1.1 hp]; simp, fun ad hp j u hj => h.1.2 ad hp j u ?_⟩, fun x hx => h.2 x (List.mem_of_mem_take hx)⟩
  rw [encL_takeG, List.getElem?_take] at hj
  split at hj
  · exact hj
  · cases hj
/-- what these things have below them lies where they say. -/
def AllI {α : Type} [Lay α] (L : List α) : World → Prop := fun w => ∀ x ∈ L, Lay.inn w x
theorem AllI.nil {α : Type} [Lay α] {M : Nat → Prop} {w : World} : Stable M w (AllI (α := α) []) := fun _ _ _ h => by cases h
theorem AllI.get {α : Type} [Lay α] {M : Nat → Prop} {w : World} {L : List α} (h : Stable M w (AllI L)) {x : α} (hx : x ∈ L) : Stable M w (InF x) := fun w' hw => h w' hw x hx
theorem AllI.snoc {α : Type} [Lay α] {M : Nat → Prop} {w : World} {L : List α} {r : α} (h : Stable M w (AllI L)) (hr : Stable M w (InF r)) : Stable M w (AllI (L ++ [r])) := fun w' hw x hx => by
  rcases List.mem_append.1 hx with hx | hx
  · exact h w' hw x hx
  · rw [List.mem_singleton.1 hx]; exact hr w' hw
theorem gl_own {α : Type} [Lay α] {M : Nat → Prop} {w : World} {e : TypeId} {p : Option Addr} {n c sz : Nat} {xs : List α} (h : w.ownsRow 0 e sz (.slice p n c) n (encL xs)) (hk : Stable M w (AllI xs)) (hM : ∀ ad, p = some ad → ¬ M ad.block) : Stable M w (GlF p xs) := gl_of_own h (fun _ hx => AllI.get hk hx) hM
end Go.Wk

/- Package octet: numbers of four and of eight bytes. -/
namespace Go.Proofs.Ythffheckghdelaa
open Go Go.Wk
set_option synthInstance.maxSize 100000
set_option synthInstance.maxHeartbeats 400000
set_option maxRecDepth 100000

theorem be_len (k : Nat) (v : Int) : (be k v).length = k := by simp [be]
theorem be_take (W k : Nat) (v : Int) (h : k < W) : (be W v).take (k + 1) = (be W v).take k ++ [Wk.u8 (v.fdiv (2 ^ (8 * (W - 1 - k))))] := by
  rw [List.take_add_one]
  congr 1
  simp [be, h]
theorem lay32_c (p : Option Addr) (n c : Nat) (b : List UInt8) (v : Int) (w0 : World) (hn : b.length = n) (hb : n ≤ 1073741824) (hv : 0 ≤ v) (hv' : v ≤ 4294967295) (hs : Stable (fun _ => False) w0 (SlF p (encL b))) :
    Ret Try.prog 84 [.slice p n c, .int .u32 v, .int .i64 4] w0 (fun _ => False) fun r w' => ∃ g, r = .slice (some ⟨g, 0, none⟩) (n + 4) (n + 4) ∧ w0.heap.size ≤ g ∧ w'.ownsRow 0 5 1 (.slice (some ⟨g, 0, none⟩) (n + 4) (n + 4)) (n + 4) (encL (b ++ be 4 v)) := by
  have hln : LenN b n := ⟨hn⟩
  refine enter Try.func84 rfl rfl (Wd.begin (fs := [SlF p (encL b)]) (by simpa using hs)) (fun a S => ?_)
  simp only [Try.ntmps84, List.length_cons, List.length_nil, Nat.reduceAdd, Nat.reduceSub, List.replicate_succ, List.replicate_zero, List.cons_append, List.nil_append] at S
  refine c_seq ?_
  refine c_region ?_
  refine sq S ?_; clear S; intro a S
  refine wl_nil ?_
  refine xtn ?_
  refine c_seq ?_
  refine c_region ?_
  iterate 4 (refine sq S ?_; clear S; intro a S)
  rw [w64 ((n : Int) + 4) (by omega) (by omega)] at S
  refine smk (n + 4) S (by omega) (by omega) (by omega) (by simp only [maxLen]; omega) ?_; clear S; intro g a w S
  refine sq S ?_; clear S; intro a S
  refine wl_nil ?_
  refine xtn ?_
  refine c_seq ?_
  refine c_region ?_
  iterate 2 (refine sq S ?_; clear S; intro a S)
  refine scp S (by omega) ?_; clear S; intro a w S
  rw [drop_rep] at S
  refine wl_nil ?_
  refine xtn ?_
  iterate 2 (refine c_seq ?_)
  refine c_region ?_
  iterate 2 (refine sq S ?_; clear S; intro a S)
  refine wl_nil ?_
  refine xtn ?_
  refine c_block ?_
  rw [show encL b ++ List.replicate 4 (Value.int .u8 0) = encL (b ++ ((be 4 v).take 0 ++ List.replicate (4 - 0) 0)) from by rw [encL_append]; rfl] at S
  refine c_fore1 S (fun (k : Nat) uu => [(8, uu 8), (9, .int .i64 (k : Nat)), (0, uu 19), (0, uu 20), (0, uu 21), (0, uu 22), (0, uu 23), (0, uu 24), (0, uu 25), (0, uu 26), (0, uu 27), (0, uu 28), (0, uu 29), (0, uu 30), (0, uu 31), (0, uu 32), (0, uu 33), (0, uu 34), (0, uu 35), (0, uu 36)]) (fun (k : Nat) => [Wk.row 5 1 (some ⟨g, 0, none⟩) (n + 4) (n + 4) (encL (b ++ ((be 4 v).take k ++ List.replicate (4 - k) 0)))]) (fun (k : Nat) => []) (fun (k : Nat) => k ≤ 4) (fun (k : Nat) => 4 - k) (0) ?_ S.uu ?_ ?_
  · exact Nat.zero_le _
  · first | exact S | exact S.sub _ _
  · clear S; rintro k uu a w hk S
    refine c_seq ?_
    refine c_region ?_
    refine sq S ?_; clear S; intro a S
    refine wl_nil ?_
    refine xtn ?_
    refine c_seq ?_
    refine c_cond S (fun h4 => ?_) (fun h4 => ?_)
    · refine c_skip ?_
      refine xtn ?_
      refine c_seq ?_
      refine c_block ?_
      refine c_seq ?_
      refine c_region ?_
      iterate 2 (refine sq S ?_; clear S; intro a S)
      refine wl_nil ?_
      refine xtn ?_
      refine c_region ?_
      iterate 4 (refine sq S ?_; clear S; intro a S)
      have hk2 : k < 4 := by simp at h4; omega
      refine sq S ?_; clear S; intro a S
      rw [w64 ((n : Int) + (k : Int)) (by omega) (by omega), show (n : Int) + (k : Int) = ((n + k : Nat) : Int) from by omega] at S
      iterate 2 (refine sq S ?_; clear S; intro a S)
      rw [wu64 v (by omega) (by omega)] at S
      iterate 2 (refine sq S ?_; clear S; intro a S)
      rw [show IntKind.i64.wrap (4 - 1) = (4 - 1 : Int) from rfl] at S
      iterate 2 (refine sq S ?_; clear S; intro a S)
      rw [w64 ((4 - 1 : Int) - (k : Int)) (by omega) (by omega)] at S
      refine sq S ?_; clear S; intro a S
      rw [w64 (8 * ((4 - 1 : Int) - (k : Int))) (by omega) (by omega), show 8 * ((4 - 1 : Int) - (k : Int)) = ((8 * (4 - 1 - k) : Nat) : Int) from by omega] at S
      refine sq S ?_; clear S; intro a S
      rw [show min (8 * (4 - 1 - k)) IntKind.u64.bits = 8 * (4 - 1 - k) from Nat.min_eq_left (by simp only [IntKind.bits]; omega)] at S
      refine sq S ?_; clear S; intro a S
      rw [u8_wrap] at S
      have hK : KLt (n + k) (n + 4) := ⟨by omega⟩
      refine sq S ?_; clear S; intro a S
      rw [show (⟨g, n + k, none⟩ : Addr) = rAddr (some ⟨g, 0, none⟩) (n + k) from by rw [rAddr, Option.getD_some, add_lit]] at S
      refine sws S (n + 4) (by omega) (by omega) ?_; clear S; intro a w S
      refine wl_nil ?_
      refine xbn ?_
      refine xtn ?_
      refine c_region ?_
      iterate 2 (refine sq S ?_; clear S; intro a S)
      refine wl_nil ?_
      refine xtn ?_
      rw [w64 ((k : Int) + 1) (by omega) (by omega)] at S
      have e : encL (b ++ ((be 4 v).take (k + 1) ++ List.replicate (4 - (k + 1)) 0)) = (encL (b ++ ((be 4 v).take k ++ List.replicate (4 - k) 0))).take (n + k) ++ [.int .u8 ((Wk.u8 (v.fdiv (2 ^ (8 * (4 - 1 - k))))).toNat : Int)] ++ (encL (b ++ ((be 4 v).take k ++ List.replicate (4 - k) 0))).drop (n + k + 1) := by
        have h1 := enc_set1 (b ++ (be 4 v).take k) (List.replicate (4 - (k + 1)) 0) 0 (Wk.u8 (v.fdiv (2 ^ (8 * (4 - 1 - k)))))
        have h2 : (b ++ (be 4 v).take k).length = n + k := by rw [List.length_append, List.length_take, be_len, hn]; omega
        have h3 : List.replicate (4 - k) (0 : UInt8) = 0 :: List.replicate (4 - (k + 1)) 0 := by rw [show 4 - k = (4 - (k + 1)) + 1 from by omega, List.replicate_succ]
        rw [h2] at h1
        rw [h3, be_take 4 k v hk2]
        simp only [List.append_assoc, List.cons_append, List.nil_append] at h1 ⊢
        exact h1.symm
      rw [List.length_singleton, ← e] at S
      exact ⟨k + 1, S.uu, by omega, S.sub _ _, by omega⟩
    · refine c_exit ?_
      iterate 2 (refine xte ?_)
      refine xbe ?_
      refine xtn ?_
      refine c_seq ?_
      refine c_region ?_
      iterate 2 (refine sq S ?_; clear S; intro a S)
      refine wl_nil ?_
      refine xtn ?_
      refine c_ret ?_
      have hk2 : k = 4 := by simp at h4; omega
      subst hk2
      have hrow := S.row (some ⟨g, 0, none⟩) (n + 4)
      have hnew := S.rowNew (some ⟨g, 0, none⟩) (n + 4)
      refine end1 S (fun _ => ⟨g, rfl, ?_, ?_⟩)
      · exact (hnew _ rfl).elim (fun h => h.elim) id
      · rw [List.take_of_length_le (by rw [be_len]; exact Nat.le_refl _), show List.replicate (4 - 4) (0 : UInt8) = [] from rfl, List.append_nil] at hrow
        exact hrow
theorem put32_c (p : Option Addr) (n c : Nat) (b : List UInt8) (v : Int) (w0 : World) (hn : b.length = n) (hb : n ≤ 1073741824) (hv : 0 ≤ v) (hv' : v ≤ 4294967295) (hs : Stable (fun _ => False) w0 (SlF p (encL b))) :
    Ret Try.prog 75 [.slice p n c, .int .u32 v] w0 (fun _ => False) fun r w' => ∃ g, r = .slice (some ⟨g, 0, none⟩) (n + 4) (n + 4) ∧ w0.heap.size ≤ g ∧ w'.ownsRow 0 5 1 (.slice (some ⟨g, 0, none⟩) (n + 4) (n + 4)) (n + 4) (encL (b ++ be 4 v)) := by
  refine enter Try.func75 rfl rfl (Wd.begin (fs := [SlF p (encL b)]) (by simpa using hs)) (fun a S => ?_)
  simp only [Try.ntmps75, List.length_cons, List.length_nil, Nat.reduceAdd, Nat.reduceSub, List.replicate_succ, List.replicate_zero, List.cons_append, List.nil_append] at S
  refine c_seq ?_
  refine c_region ?_
  refine sq S ?_; clear S; intro a S
  refine wl_nil ?_
  refine xtn ?_
  refine c_seq ?_
  refine c_region ?_
  iterate 2 (refine sq S ?_; clear S; intro a S)
  refine srn S (lay32_c p n c b v _ hn hb hv hv' ((S.fact (Φ := SlF p (encL b)) (by simp)).less fun _ _ h => h.elim)) ?_; clear S; rintro _ a w1 ⟨g, rfl, hg, hown⟩ - S
  refine sq S ?_; clear S; intro a S
  refine wl_nil ?_
  refine xtn ?_
  refine c_ret ?_
  exact end1 S (fun _ => ⟨g, rfl, hg, hown⟩)
theorem lay64_c (p : Option Addr) (n c : Nat) (b : List UInt8) (v : Int) (w0 : World) (hn : b.length = n) (hb : n ≤ 1073741824) (_hv : 0 ≤ v) (_hv' : v ≤ 18446744073709551615) (hs : Stable (fun _ => False) w0 (SlF p (encL b))) :
    Ret Try.prog 99 [.slice p n c, .int .u64 v, .int .i64 8] w0 (fun _ => False) fun r w' => ∃ g, r = .slice (some ⟨g, 0, none⟩) (n + 8) (n + 8) ∧ w0.heap.size ≤ g ∧ w'.ownsRow 0 5 1 (.slice (some ⟨g, 0, none⟩) (n + 8) (n + 8)) (n + 8) (encL (b ++ be 8 v)) := by
  have hln : LenN b n := ⟨hn⟩
  refine enter Try.func99 rfl rfl (Wd.begin (fs := [SlF p (encL b)]) (by simpa using hs)) (fun a S => ?_)
  simp only [Try.ntmps99, List.length_cons, List.length_nil, Nat.reduceAdd, Nat.reduceSub, List.replicate_succ, List.replicate_zero, List.cons_append, List.nil_append] at S
  refine c_seq ?_
  refine c_region ?_
  refine sq S ?_; clear S; intro a S
  refine wl_nil ?_
  refine xtn ?_
  refine c_seq ?_
  refine c_region ?_
  iterate 4 (refine sq S ?_; clear S; intro a S)
  rw [w64 ((n : Int) + 8) (by omega) (by omega)] at S
  refine smk (n + 8) S (by omega) (by omega) (by omega) (by simp only [maxLen]; omega) ?_; clear S; intro g a w S
  refine sq S ?_; clear S; intro a S
  refine wl_nil ?_
  refine xtn ?_
  refine c_seq ?_
  refine c_region ?_
  iterate 2 (refine sq S ?_; clear S; intro a S)
  refine scp S (by omega) ?_; clear S; intro a w S
  rw [drop_rep] at S
  refine wl_nil ?_
  refine xtn ?_
  iterate 2 (refine c_seq ?_)
  refine c_region ?_
  iterate 2 (refine sq S ?_; clear S; intro a S)
  refine wl_nil ?_
  refine xtn ?_
  refine c_block ?_
  rw [show encL b ++ List.replicate 8 (Value.int .u8 0) = encL (b ++ ((be 8 v).take 0 ++ List.replicate (8 - 0) 0)) from by rw [encL_append]; rfl] at S
  refine c_fore1 S (fun (k : Nat) uu => [(8, uu 8), (9, .int .i64 (k : Nat)), (0, uu 19), (0, uu 20), (0, uu 21), (0, uu 22), (0, uu 23), (0, uu 24), (0, uu 25), (0, uu 26), (0, uu 27), (0, uu 28), (0, uu 29), (0, uu 30), (0, uu 31), (0, uu 32), (0, uu 33), (0, uu 34), (0, uu 35)]) (fun (k : Nat) => [Wk.row 5 1 (some ⟨g, 0, none⟩) (n + 8) (n + 8) (encL (b ++ ((be 8 v).take k ++ List.replicate (8 - k) 0)))]) (fun (k : Nat) => []) (fun (k : Nat) => k ≤ 8) (fun (k : Nat) => 8 - k) (0) ?_ S.uu ?_ ?_
  · exact Nat.zero_le _
  · first | exact S | exact S.sub _ _
  · clear S; rintro k uu a w hk S
    refine c_seq ?_
    refine c_region ?_
    refine sq S ?_; clear S; intro a S
    refine wl_nil ?_
    refine xtn ?_
    refine c_seq ?_
    refine c_cond S (fun h4 => ?_) (fun h4 => ?_)
    · refine c_skip ?_
      refine xtn ?_
      refine c_seq ?_
      refine c_block ?_
      refine c_seq ?_
      refine c_region ?_
      iterate 2 (refine sq S ?_; clear S; intro a S)
      refine wl_nil ?_
      refine xtn ?_
      refine c_region ?_
      iterate 4 (refine sq S ?_; clear S; intro a S)
      have hk2 : k < 8 := by simp at h4; omega
      refine sq S ?_; clear S; intro a S
      rw [w64 ((n : Int) + (k : Int)) (by omega) (by omega), show (n : Int) + (k : Int) = ((n + k : Nat) : Int) from by omega] at S
      iterate 3 (refine sq S ?_; clear S; intro a S)
      rw [show IntKind.i64.wrap (8 - 1) = (8 - 1 : Int) from rfl] at S
      iterate 2 (refine sq S ?_; clear S; intro a S)
      rw [w64 ((8 - 1 : Int) - (k : Int)) (by omega) (by omega)] at S
      refine sq S ?_; clear S; intro a S
      rw [w64 (8 * ((8 - 1 : Int) - (k : Int))) (by omega) (by omega), show 8 * ((8 - 1 : Int) - (k : Int)) = ((8 * (8 - 1 - k) : Nat) : Int) from by omega] at S
      refine sq S ?_; clear S; intro a S
      rw [show min (8 * (8 - 1 - k)) IntKind.u64.bits = 8 * (8 - 1 - k) from Nat.min_eq_left (by simp only [IntKind.bits]; omega)] at S
      refine sq S ?_; clear S; intro a S
      rw [u8_wrap] at S
      have hK : KLt (n + k) (n + 8) := ⟨by omega⟩
      refine sq S ?_; clear S; intro a S
      rw [show (⟨g, n + k, none⟩ : Addr) = rAddr (some ⟨g, 0, none⟩) (n + k) from by rw [rAddr, Option.getD_some, add_lit]] at S
      refine sws S (n + 8) (by omega) (by omega) ?_; clear S; intro a w S
      refine wl_nil ?_
      refine xbn ?_
      refine xtn ?_
      refine c_region ?_
      iterate 2 (refine sq S ?_; clear S; intro a S)
      refine wl_nil ?_
      refine xtn ?_
      rw [w64 ((k : Int) + 1) (by omega) (by omega)] at S
      have e : encL (b ++ ((be 8 v).take (k + 1) ++ List.replicate (8 - (k + 1)) 0)) = (encL (b ++ ((be 8 v).take k ++ List.replicate (8 - k) 0))).take (n + k) ++ [.int .u8 ((Wk.u8 (v.fdiv (2 ^ (8 * (8 - 1 - k))))).toNat : Int)] ++ (encL (b ++ ((be 8 v).take k ++ List.replicate (8 - k) 0))).drop (n + k + 1) := by
        have h1 := enc_set1 (b ++ (be 8 v).take k) (List.replicate (8 - (k + 1)) 0) 0 (Wk.u8 (v.fdiv (2 ^ (8 * (8 - 1 - k)))))
        have h2 : (b ++ (be 8 v).take k).length = n + k := by rw [List.length_append, List.length_take, be_len, hn]; omega
        have h3 : List.replicate (8 - k) (0 : UInt8) = 0 :: List.replicate (8 - (k + 1)) 0 := by rw [show 8 - k = (8 - (k + 1)) + 1 from by omega, List.replicate_succ]
        rw [h2] at h1
        rw [h3, be_take 8 k v hk2]
        simp only [List.append_assoc, List.cons_append, List.nil_append] at h1 ⊢
        exact h1.symm
      rw [List.length_singleton, ← e] at S
      exact ⟨k + 1, S.uu, by omega, S.sub _ _, by omega⟩
    · refine c_exit ?_
      iterate 2 (refine xte ?_)
      refine xbe ?_
      refine xtn ?_
      refine c_seq ?_
      refine c_region ?_
      iterate 2 (refine sq S ?_; clear S; intro a S)
      refine wl_nil ?_
      refine xtn ?_
      refine c_ret ?_
      have hk2 : k = 8 := by simp at h4; omega
      subst hk2
      have hrow := S.row (some ⟨g, 0, none⟩) (n + 8)
      have hnew := S.rowNew (some ⟨g, 0, none⟩) (n + 8)
      refine end1 S (fun _ => ⟨g, rfl, ?_, ?_⟩)
      · exact (hnew _ rfl).elim (fun h => h.elim) id
      · rw [List.take_of_length_le (by rw [be_len]; exact Nat.le_refl _), show List.replicate (8 - 8) (0 : UInt8) = [] from rfl, List.append_nil] at hrow
        exact hrow
theorem put64_c (p : Option Addr) (n c : Nat) (b : List UInt8) (v : Int) (w0 : World) (hn : b.length = n) (hb : n ≤ 1073741824) (hv : 0 ≤ v) (hv' : v ≤ 18446744073709551615) (hs : Stable (fun _ => False) w0 (SlF p (encL b))) :
    Ret Try.prog 93 [.slice p n c, .int .u64 v] w0 (fun _ => False) fun r w' => ∃ g, r = .slice (some ⟨g, 0, none⟩) (n + 8) (n + 8) ∧ w0.heap.size ≤ g ∧ w'.ownsRow 0 5 1 (.slice (some ⟨g, 0, none⟩) (n + 8) (n + 8)) (n + 8) (encL (b ++ be 8 v)) := by
  refine enter Try.func93 rfl rfl (Wd.begin (fs := [SlF p (encL b)]) (by simpa using hs)) (fun a S => ?_)
  simp only [Try.ntmps93, List.length_cons, List.length_nil, Nat.reduceAdd, Nat.reduceSub, List.replicate_succ, List.replicate_zero, List.cons_append, List.nil_append] at S
  refine c_seq ?_
  refine c_region ?_
  refine sq S ?_; clear S; intro a S
  refine wl_nil ?_
  refine xtn ?_
  refine c_seq ?_
  refine c_region ?_
  iterate 2 (refine sq S ?_; clear S; intro a S)
  refine srn S (lay64_c p n c b v _ hn hb hv hv' ((S.fact (Φ := SlF p (encL b)) (by simp)).less fun _ _ h => h.elim)) ?_; clear S; rintro _ a w1 ⟨g, rfl, hg, hown⟩ - S
  refine sq S ?_; clear S; intro a S
  refine wl_nil ?_
  refine xtn ?_
  refine c_ret ?_
  exact end1 S (fun _ => ⟨g, rfl, hg, hown⟩)
theorem lay16b_c (p : Option Addr) (n c : Nat) (b : List UInt8) (v : Int) (w0 : World) (hn : b.length = n) (hb : n ≤ 1073741824) (hv : 0 ≤ v) (hv' : v ≤ 65535) (hs : Stable (fun _ => False) w0 (SlF p (encL b))) :
    Ret Try.prog 85 [.slice p n c, .int .u16 v, .int .i64 2] w0 (fun _ => False) fun r w' => ∃ g, r = .slice (some ⟨g, 0, none⟩) (n + 2) (n + 2) ∧ w0.heap.size ≤ g ∧ w'.ownsRow 0 5 1 (.slice (some ⟨g, 0, none⟩) (n + 2) (n + 2)) (n + 2) (encL (b ++ be 2 v)) := by
  have hln : LenN b n := ⟨hn⟩
  refine enter Try.func85 rfl rfl (Wd.begin (fs := [SlF p (encL b)]) (by simpa using hs)) (fun a S => ?_)
  simp only [Try.ntmps85, List.length_cons, List.length_nil, Nat.reduceAdd, Nat.reduceSub, List.replicate_succ, List.replicate_zero, List.cons_append, List.nil_append] at S
  refine c_seq ?_
  refine c_region ?_
  refine sq S ?_; clear S; intro a S
  refine wl_nil ?_
  refine xtn ?_
  refine c_seq ?_
  refine c_region ?_
  iterate 4 (refine sq S ?_; clear S; intro a S)
  rw [w64 ((n : Int) + 2) (by omega) (by omega)] at S
  refine smk (n + 2) S (by omega) (by omega) (by omega) (by simp only [maxLen]; omega) ?_; clear S; intro g a w S
  refine sq S ?_; clear S; intro a S
  refine wl_nil ?_
  refine xtn ?_
  refine c_seq ?_
  refine c_region ?_
  iterate 2 (refine sq S ?_; clear S; intro a S)
  refine scp S (by omega) ?_; clear S; intro a w S
  rw [drop_rep] at S
  refine wl_nil ?_
  refine xtn ?_
  iterate 2 (refine c_seq ?_)
  refine c_region ?_
  iterate 2 (refine sq S ?_; clear S; intro a S)
  refine wl_nil ?_
  refine xtn ?_
  refine c_block ?_
  rw [show encL b ++ List.replicate 2 (Value.int .u8 0) = encL (b ++ ((be 2 v).take 0 ++ List.replicate (2 - 0) 0)) from by rw [encL_append]; rfl] at S
  refine c_fore1 S (fun (k : Nat) uu => [(8, uu 8), (9, .int .i64 (k : Nat)), (0, uu 19), (0, uu 20), (0, uu 21), (0, uu 22), (0, uu 23), (0, uu 24), (0, uu 25), (0, uu 26), (0, uu 27), (0, uu 28), (0, uu 29), (0, uu 30), (0, uu 31), (0, uu 32), (0, uu 33), (0, uu 34), (0, uu 35), (0, uu 36)]) (fun (k : Nat) => [Wk.row 5 1 (some ⟨g, 0, none⟩) (n + 2) (n + 2) (encL (b ++ ((be 2 v).take k ++ List.replicate (2 - k) 0)))]) (fun (k : Nat) => []) (fun (k : Nat) => k ≤ 2) (fun (k : Nat) => 2 - k) (0) ?_ S.uu ?_ ?_
  · exact Nat.zero_le _
  · first | exact S | exact S.sub _ _
  · clear S; rintro k uu a w hk S
    refine c_seq ?_
    refine c_region ?_
    refine sq S ?_; clear S; intro a S
    refine wl_nil ?_
    refine xtn ?_
    refine c_seq ?_
    refine c_cond S (fun h4 => ?_) (fun h4 => ?_)
    · refine c_skip ?_
      refine xtn ?_
      refine c_seq ?_
      refine c_block ?_
      refine c_seq ?_
      refine c_region ?_
      iterate 2 (refine sq S ?_; clear S; intro a S)
      refine wl_nil ?_
      refine xtn ?_
      refine c_region ?_
      iterate 4 (refine sq S ?_; clear S; intro a S)
      have hk2 : k < 2 := by simp at h4; omega
      refine sq S ?_; clear S; intro a S
      rw [w64 ((n : Int) + (k : Int)) (by omega) (by omega), show (n : Int) + (k : Int) = ((n + k : Nat) : Int) from by omega] at S
      iterate 2 (refine sq S ?_; clear S; intro a S)
      rw [wu64 v (by omega) (by omega)] at S
      iterate 2 (refine sq S ?_; clear S; intro a S)
      rw [show IntKind.i64.wrap (2 - 1) = (2 - 1 : Int) from rfl] at S
      iterate 2 (refine sq S ?_; clear S; intro a S)
      rw [w64 ((2 - 1 : Int) - (k : Int)) (by omega) (by omega)] at S
      refine sq S ?_; clear S; intro a S
      rw [w64 (8 * ((2 - 1 : Int) - (k : Int))) (by omega) (by omega), show 8 * ((2 - 1 : Int) - (k : Int)) = ((8 * (2 - 1 - k) : Nat) : Int) from by omega] at S
      refine sq S ?_; clear S; intro a S
      rw [show min (8 * (2 - 1 - k)) IntKind.u64.bits = 8 * (2 - 1 - k) from Nat.min_eq_left (by simp only [IntKind.bits]; omega)] at S
      refine sq S ?_; clear S; intro a S
      rw [u8_wrap] at S
      have hK : KLt (n + k) (n + 2) := ⟨by omega⟩
      refine sq S ?_; clear S; intro a S
      rw [show (⟨g, n + k, none⟩ : Addr) = rAddr (some ⟨g, 0, none⟩) (n + k) from by rw [rAddr, Option.getD_some, add_lit]] at S
      refine sws S (n + 2) (by omega) (by omega) ?_; clear S; intro a w S
      refine wl_nil ?_
      refine xbn ?_
      refine xtn ?_
      refine c_region ?_
      iterate 2 (refine sq S ?_; clear S; intro a S)
      refine wl_nil ?_
      refine xtn ?_
      rw [w64 ((k : Int) + 1) (by omega) (by omega)] at S
      have e : encL (b ++ ((be 2 v).take (k + 1) ++ List.replicate (2 - (k + 1)) 0)) = (encL (b ++ ((be 2 v).take k ++ List.replicate (2 - k) 0))).take (n + k) ++ [.int .u8 ((Wk.u8 (v.fdiv (2 ^ (8 * (2 - 1 - k))))).toNat : Int)] ++ (encL (b ++ ((be 2 v).take k ++ List.replicate (2 - k) 0))).drop (n + k + 1) := by
        have h1 := enc_set1 (b ++ (be 2 v).take k) (List.replicate (2 - (k + 1)) 0) 0 (Wk.u8 (v.fdiv (2 ^ (8 * (2 - 1 - k)))))
        have h2 : (b ++ (be 2 v).take k).length = n + k := by rw [List.length_append, List.length_take, be_len, hn]; omega
        have h3 : List.replicate (2 - k) (0 : UInt8) = 0 :: List.replicate (2 - (k + 1)) 0 := by rw [show 2 - k = (2 - (k + 1)) + 1 from by omega, List.replicate_succ]
        rw [h2] at h1
        rw [h3, be_take 2 k v hk2]
        simp only [List.append_assoc, List.cons_append, List.nil_append] at h1 ⊢
        exact h1.symm
      rw [List.length_singleton, ← e] at S
      exact ⟨k + 1, S.uu, by omega, S.sub _ _, by omega⟩
    · refine c_exit ?_
      iterate 2 (refine xte ?_)
      refine xbe ?_
      refine xtn ?_
      refine c_seq ?_
      refine c_region ?_
      iterate 2 (refine sq S ?_; clear S; intro a S)
      refine wl_nil ?_
      refine xtn ?_
      refine c_ret ?_
      have hk2 : k = 2 := by simp at h4; omega
      subst hk2
      have hrow := S.row (some ⟨g, 0, none⟩) (n + 2)
      have hnew := S.rowNew (some ⟨g, 0, none⟩) (n + 2)
      refine end1 S (fun _ => ⟨g, rfl, ?_, ?_⟩)
      · exact (hnew _ rfl).elim (fun h => h.elim) id
      · rw [List.take_of_length_le (by rw [be_len]; exact Nat.le_refl _), show List.replicate (2 - 2) (0 : UInt8) = [] from rfl, List.append_nil] at hrow
        exact hrow
theorem put16b_c (p : Option Addr) (n c : Nat) (b : List UInt8) (v : Int) (w0 : World) (hn : b.length = n) (hb : n ≤ 1073741824) (hv : 0 ≤ v) (hv' : v ≤ 65535) (hs : Stable (fun _ => False) w0 (SlF p (encL b))) :
    Ret Try.prog 76 [.slice p n c, .int .u16 v] w0 (fun _ => False) fun r w' => ∃ g, r = .slice (some ⟨g, 0, none⟩) (n + 2) (n + 2) ∧ w0.heap.size ≤ g ∧ w'.ownsRow 0 5 1 (.slice (some ⟨g, 0, none⟩) (n + 2) (n + 2)) (n + 2) (encL (b ++ be 2 v)) := by
  refine enter Try.func76 rfl rfl (Wd.begin (fs := [SlF p (encL b)]) (by simpa using hs)) (fun a S => ?_)
  simp only [Try.ntmps76, List.length_cons, List.length_nil, Nat.reduceAdd, Nat.reduceSub, List.replicate_succ, List.replicate_zero, List.cons_append, List.nil_append] at S
  refine c_seq ?_
  refine c_region ?_
  refine sq S ?_; clear S; intro a S
  refine wl_nil ?_
  refine xtn ?_
  refine c_seq ?_
  refine c_region ?_
  iterate 2 (refine sq S ?_; clear S; intro a S)
  refine srn S (lay16b_c p n c b v _ hn hb hv hv' ((S.fact (Φ := SlF p (encL b)) (by simp)).less fun _ _ h => h.elim)) ?_; clear S; rintro _ a w1 ⟨g, rfl, hg, hown⟩ - S
  refine sq S ?_; clear S; intro a S
  refine wl_nil ?_
  refine xtn ?_
  refine c_ret ?_
  exact end1 S (fun _ => ⟨g, rfl, hg, hown⟩)
end Go.Proofs.Ythffheckghdelaa

/- The frame of the rows. -/
namespace Go.Proofs.Ythffheckghdelaa
open Go Go.Wk
open Go.ChangeShapes Go.WideShapes Go.ChangeAt Go.RowKit
set_option maxRecDepth 100000

theorem own : ownKnob Try.prog.godebug = none := by kernel_rfl
theorem laidOut : laidOutB Try.prog = true := by kernel_rfl
end Go.Proofs.Ythffheckghdelaa

namespace Go.Wk
open Go

/-! texts: put together, held against one another -/
theorem bl_irrefl : ∀ s : List UInt8, Op.bytesLess s s = false
  | [] => rfl
  | a :: s => by simp [Op.bytesLess, bl_irrefl s]
theorem bl_tri : ∀ s u : List UInt8, Op.bytesLess s u = true ∨ s = u ∨ Op.bytesLess u s = true
  | [], [] => .inr (.inl rfl)
  | [], _ :: _ => .inl rfl
  | _ :: _, [] => .inr (.inr rfl)
  | a :: s, b :: u => by
    simp only [Op.bytesLess, Bool.or_eq_true, Bool.and_eq_true, decide_eq_true_eq, beq_iff_eq, List.cons.injEq]
    rcases UInt8.lt_or_lt_of_ne (a := a) (b := b) |> fun h => (Classical.em (a = b)).imp id h with rfl | h
    · rcases bl_tri s u with h | h | h
      · exact .inl (.inr ⟨rfl, h⟩)
      · exact .inr (.inl ⟨rfl, h⟩)
      · exact .inr (.inr (.inr ⟨rfl, h⟩))
    · rcases h with h | h
      · exact .inl (.inl h)
      · exact .inr (.inr (.inl h))
theorem bl_asymm : ∀ s u : List UInt8, Op.bytesLess s u = true → Op.bytesLess u s = false
  | [], [], h => by cases h
  | [], _ :: _, _ => rfl
  | _ :: _, [], h => by simp [Op.bytesLess] at h
  | a :: s, b :: u, h => by
    simp only [Op.bytesLess, Bool.or_eq_true, Bool.and_eq_true, decide_eq_true_eq, beq_iff_eq] at h
    rcases h with h | ⟨rfl, h⟩
    · have h1 : ¬ b < a := by intro h2; exact absurd (UInt8.lt_trans h h2) (UInt8.lt_irrefl _)
      have h2 : b ≠ a := by rintro rfl; exact absurd h (UInt8.lt_irrefl _)
      simp [Op.bytesLess, h1, h2]
    · simp [Op.bytesLess, bl_asymm s u h]
theorem bl_trans : ∀ s u v : List UInt8, Op.bytesLess s u = true → Op.bytesLess u v = true → Op.bytesLess s v = true
  | _, [], _, h, _ => by cases ‹List UInt8› <;> simp [Op.bytesLess] at h
  | _, _ :: _, [], _, h => by simp [Op.bytesLess] at h
  | [], _ :: _, _ :: _, _, _ => rfl
  | a :: s, b :: u, c :: v, h, h' => by
    simp only [Op.bytesLess, Bool.or_eq_true, Bool.and_eq_true, decide_eq_true_eq, beq_iff_eq] at h h' ⊢
    rcases h with h | ⟨rfl, h⟩ <;> rcases h' with h' | ⟨rfl, h'⟩
    · exact .inl (UInt8.lt_trans h h')
    · exact .inl h
    · exact .inl h'
    · exact .inr ⟨rfl, bl_trans s u v h h'⟩
theorem bl_gt (s u : List UInt8) : (!(Op.bytesLess s u || (s == u))) = Op.bytesLess u s := by
  rcases bl_tri s u with h | rfl | h
  · rw [h, bl_asymm _ _ h]; rfl
  · rw [bl_irrefl]; simp
  · rw [bl_asymm _ _ h, h]
    have : s ≠ u := by rintro rfl; rw [bl_irrefl] at h; cases h
    simp [this]
theorem bl_ge (s u : List UInt8) : (!Op.bytesLess s u) = (Op.bytesLess u s || decide (u = s)) := by
  rcases bl_tri s u with h | rfl | h
  · rw [h, bl_asymm _ _ h]
    have : u ≠ s := by rintro rfl; rw [bl_irrefl] at h; cases h
    simp [this]
  · rw [bl_irrefl]; simp
  · rw [bl_asymm _ _ h, h]; rfl
class Ascii (m : Int) : Prop where
  lo : 0 ≤ m
  hi : m < 128
section
variable {P : Program} {l : Cx} {bs : List Item} {fs : List (World → Prop)} {x y : Operand} {t t' ty : TypeId} {s u : List UInt8} {m : Int} {k : IntKind}
instance opSLss [Ev l x (str s)] [Ev l y (str u)] : OpQ P (.binOp .lss t x y t') ty l bs fs (.bool (Op.bytesLess s u)) := ⟨fun ρ w h _ => by
  simp [xop, execOp, h.ev (x := x) (v := str s), h.ev (x := y) (v := str u), eqGuard, binOp, Op.stringOp]⟩
instance opSGtr [Ev l x (str s)] [Ev l y (str u)] : OpQ P (.binOp .gtr t x y t') ty l bs fs (.bool (Op.bytesLess u s)) := ⟨fun ρ w h _ => by
  have := bl_gt s u
  simp [xop, execOp, h.ev (x := x) (v := str s), h.ev (x := y) (v := str u), eqGuard, binOp, Op.stringOp]
  rw [← this]; simp⟩
instance opSGeq [Ev l x (str s)] [Ev l y (str u)] : OpQ P (.binOp .geq t x y t') ty l bs fs (.bool (!Op.bytesLess s u)) := ⟨fun ρ w h _ => by
  simp [xop, execOp, h.ev (x := x) (v := str s), h.ev (x := y) (v := str u), eqGuard, binOp, Op.stringOp]⟩
instance opSLeq [Ev l x (str s)] [Ev l y (str u)] : OpQ P (.binOp .leq t x y t') ty l bs fs (.bool (!Op.bytesLess u s)) := ⟨fun ρ w h _ => by
  have := bl_gt s u
  simp [xop, execOp, h.ev (x := x) (v := str s), h.ev (x := y) (v := str u), eqGuard, binOp, Op.stringOp]
  rw [← this]; simp⟩
instance opSAdd [Ev l x (str s)] [Ev l y (str u)] [hb : LeC (s.length + u.length) 4611686018427387904] : OpQ P (.binOp .add t x y t') ty l bs fs (str (s ++ u)) := ⟨fun ρ w h _ => by
  have h1 : ¬ (((⟨s.toArray⟩ : ByteArray).size + (⟨u.toArray⟩ : ByteArray).size : Nat) : Int) > IntKind.i64.max := by
    have := hb.le
    have e1 : (⟨s.toArray⟩ : ByteArray).size = s.length := rfl
    have e2 : (⟨u.toArray⟩ : ByteArray).size = u.length := rfl
    rw [e1, e2]
    simp only [IntKind.max, IntKind.bits, IntKind.signed]
    simp; omega
  have h2 : (⟨s.toArray⟩ : ByteArray) ++ ⟨u.toArray⟩ = ⟨(s ++ u).toArray⟩ := by
    apply ByteArray.ext; simp
  simp only [xop, execOp, h.ev (x := x) (v := str s), h.ev (x := y) (v := str u), eqGuard, binOp, Op.stringOp]
  rw [if_neg h1, h2]
  simp⟩
theorem utf8_ascii {m : Int} (h0 : 0 ≤ m) (h1 : m < 128) : Utf8.encode m = ⟨[u8 m].toArray⟩ := by
  obtain ⟨n, rfl⟩ := Int.eq_ofNat_of_zero_le h0
  have hn : n < 128 := by omega
  have : ∀ n : Nat, n < 128 → Utf8.encode (n : Int) = ⟨[u8 (n : Int)].toArray⟩ := by decide +kernel
  exact this n hn
instance opConvRune [Ev l x (.int k m)] [Und P t (.int k)] [Und P t' .string] [ha : Ascii m] : OpQ P (.convert t t' x) ty l bs fs (str [u8 m]) := ⟨fun ρ w h _ => by
  have := utf8_ascii ha.lo ha.hi
  simp [xop, execOp, h.ev (x := x) (v := .int k m), convert, Sem.run_bind, run_und, Conv.intToString, this]⟩
end
end Go.Wk

namespace Go.Wk
open Go Go.Deep Go.ChangeShapes Go.WideShapes Go.ChangeAt Go.RowKit
section
variable {w0 : World} {M0 : Nat → Prop} {ds : List Deferred} {a : Act} {w : World} {l : List Value} {bs bs' : List Item} {fs : List (World → Prop)}
/-- a row of one's own that is only read from here on. -/
theorem St.rowToGl {α : Type} [Lay α] (S : St w0 M0 ds a w l bs fs) (p : Option Addr) (xs : List α) {e : TypeId} {sz n c : Nat} [hd : DropI bs (Wk.row e sz p n c (encL xs)) bs'] (h : Stable (foots bs) w (AllI xs)) : St w0 M0 ds a w l bs' (GlF p xs :: fs) := by
  have S1 := S.perm _ hd.perm
  have hap := List.pairwise_cons.1 S1.wd.apart
  have hr : (Wk.row e sz p n c (encL xs)).holds w := S1.wd.held _ (by simp)
  have S2 : St w0 M0 ds a w l bs' fs := ⟨S1.slots, S1.defers, S1.wd.sub (.cons _ (.refl _)) (.refl _)⟩
  refine S2.add fun w' hw' => ⟨SlF.stable (own_sl hr) (fun ad hp ⟨it, hi, hk⟩ => hap.1 it hi ad.block ⟨ad, hp, rfl⟩ hk) w' hw', ?_⟩
  exact (h.less fun k _ ⟨it, hi, hk⟩ => ⟨it, (hd.perm.mem_iff).1 (List.mem_cons_of_mem _ hi), hk⟩) w' hw'
end
instance (priority := 650) hasls_t {fs : List (World → Prop)} {t : LTerm} [h : HasT fs t] : HasLs fs t.p t.kids := ⟨fun M w hf => ls_of_lt (h.of M w hf)⟩
instance (priority := 650) haslx_t {fs : List (World → Prop)} {t : LTerm} [h : HasT fs t] : HasLx fs t.kids := ⟨fun M w hf => ⟨t.p, ls_of_lt (h.of M w hf)⟩⟩
section
variable {P : Program} {l : Cx} {bs : List Item} {fs : List (World → Prop)} {x y : Operand} {p : Option Addr} {n c k sz off : Nat} {kk : IntKind} {m : Int} {t ty e : TypeId} {z v : Value} {by_ : Nat}
/-- a field of a kid. -/
instance (priority := 875) opFieldEl [Ev l x (.pointer (some (elAddr p k)))] {s f ft : Nat} [hf : Fld P s f off ft] : OpQ P (.fieldAddr s x f) ty l bs fs (.pointer (some (gAddr p k 5 off))) := ⟨fun ρ w h _ => by
  have e : elAddr p k = gAddr p k 5 0 := rfl
  simp [xop, execOp, h.ev (x := x) (v := .pointer (some (elAddr p k))), run_fieldAt (P := P) (s := s) (f := f) (off := off) (ft := ft), e, gAddr_add]⟩
instance (priority := 770) opLoadL1 {xs : List LTerm} [Ev l x (.pointer (some (gAddr p k 5 off)))] [ha : AggT P t false] [hl : HasLs fs p xs] [hk : KLt k xs.length] [hn : Nth (nthL xs k).cells off v] :
    OpQ P (.load t x) ty l bs fs v := ⟨fun ρ w h mm => by
  have h1 := gl_cells (xs := xs) (k := k) (sz := 5) (ls_gl (hl.of _ _ mm.facts).now) hk.lt (hc := ⟨rfl⟩) hn.eq
  simp [xop, execOp, Instr.loadAt, h.ev (x := x) (v := .pointer (some (gAddr p k 5 off))), Instr.sureAddr, loadVar, Sem.run_bind, ha.run, load, Sem.run, h1]⟩
/-- under a guard: less than. -/
class CLt (cs : List Bool) (k n : Nat) : Prop where lt : (∀ c ∈ cs, c = true) → k < n
instance clt1 {cs : List Bool} {k n : Nat} [h : KLt k n] : CLt cs k n := ⟨fun _ => h.lt⟩
instance (priority := 900) cltS {c : Bool} {cs : List Bool} {k n : Nat} [h : CLt cs k n] : CLt (c :: cs) k n := ⟨fun hc => h.lt fun c hm => hc c (by simp [hm])⟩
instance (priority := 1100) cltD {cs : List Bool} {k n : Nat} : CLt (decide ((k : Int) < (n : Int)) :: cs) k n := ⟨fun h => by have := h (decide ((k : Int) < (n : Int))) (by simp); simp at this; omega⟩
section
variable {cs : List Bool} {ls : List Value} {α : Type} {i : Lay α} {xs : List α}
instance (priority := 820) opIdxGC [Ev ⟨cs, ls⟩ x (.slice p n c)] [Ev ⟨cs, ls⟩ y (.int kk m)] [Und P t (.slice e)] [TI P e z sz by_] [hm : IsNat m k] [hl : HasG fs p α i xs] [hs : SzE α sz] [hk : CLt cs k n] [hk' : CLt cs k xs.length] :
    OpQ P (.indexAddr t x y) ty ⟨cs, ls⟩ bs fs (.pointer (some (gAddr p k sz 0))) := ⟨fun ρ w h mm => by
  have hlt := hk.lt h.1
  obtain ⟨ad, rfl⟩ := gl_some (hl.of _ _ mm.facts).now (hk'.lt h.1) (by rw [hs.eq]; exact hs.pos)
  have h2 := hm.eq
  subst h2
  simp [xop, execOp, h.ev (x := x) (v := .slice (some ad) n c), h.ev (x := y) (v := .int kk (k : Int))]
  simp [run_indexAt (P := P) (t := t) (e := e) (z := z) (sz := sz) (by_ := by_) (Int.natCast_nonneg k) (Int.ofNat_lt.2 hlt), gAddr]⟩
instance (priority := 760) opLoadG1C {ds : List Value} [Ev ⟨cs, ls⟩ x (.pointer (some (gAddr p k sz off)))] [ha : AggT P t false] [hl : HasG fs p α i xs] [hs : SzE α sz] [hk : CLt cs k xs.length] [hc : CellsOf (nthG xs k) ds] [hn : Nth ds off v] :
    OpQ P (.load t x) ty ⟨cs, ls⟩ bs fs v := ⟨fun ρ w h mm => by
  have h1 := gl_cells (hl.of _ _ mm.facts).now (hk.lt h.1) hn.eq
  simp [xop, execOp, Instr.loadAt, h.ev (x := x) (v := .pointer (some (gAddr p k sz off))), Instr.sureAddr, loadVar, Sem.run_bind, ha.run, load, Sem.run, h1]⟩
instance (priority := 760) opLoadGAC {ds vs : List Value} [Ev ⟨cs, ls⟩ x (.pointer (some (gAddr p k sz off)))] [ha : AggT P t true] [TI P t z n by_] [hl : HasG fs p α i xs] [hs : SzE α sz] [hk : CLt cs k xs.length] [hc : CellsOf (nthG xs k) ds] [hn : Seg ds off n vs] :
    OpQ P (.load t x) ty ⟨cs, ls⟩ bs fs (.agg ⟨vs⟩) := ⟨fun ρ w h mm => by
  have hlc := run_loadCells_list (P := P) w (gAddr p k sz off) vs (fun j v hj => by
    have hjn : j < n := by rw [← hn.eq.1]; exact (List.getElem?_eq_some_iff.1 hj).1
    rw [gAddr_add]
    exact gl_cells (hl.of _ _ mm.facts).now (hk.lt h.1) ((hn.eq.2 j hjn).trans hj))
  rw [hn.eq.1] at hlc
  simp [xop, execOp, Instr.loadAt, h.ev (x := x) (v := .pointer (some (gAddr p k sz off))), Instr.sureAddr, loadVar, Sem.run_bind, ha.run, run_size, hlc]⟩
end
end
/-- nothing but memory outside these has been written since. -/
def AgF (M : Nat → Prop) (w : World) : World → Prop := fun w' => Agree M w w'
theorem AgF.stable {M : Nat → Prop} {w : World} : Stable M w (AgF M w) := fun _ h => h
section
variable {w0 : World} {M0 : Nat → Prop} {ds : List Deferred} {a : Act} {w : World} {l : List Value} {bs bs' : List Item} {fs : List (World → Prop)}
/-- a row of one's own is read for a while. -/
theorem St.borrow {α : Type} [Lay α] (S : St w0 M0 ds a w l bs fs) (p : Option Addr) (xs : List α) {e : TypeId} {sz n c : Nat} [hd : DropI bs (Wk.row e sz p n c (encL xs)) bs'] (h : Stable (foots bs) w (AllI xs)) :
    St w0 M0 ds a w l bs' (GlF p xs :: AgF (foots bs') w :: fs) ∧ ∀ a' w' l' fs', St w0 M0 ds a' w' l' bs' fs' → AgF (foots bs') w ∈ fs' → St w0 M0 ds a' w' l' bs fs := by
  have S1 := S.perm _ hd.perm
  have hap := List.pairwise_cons.1 S1.wd.apart
  have hr : (Wk.row e sz p n c (encL xs)).holds w := S1.wd.held _ (by simp)
  have hsub : ∀ k, foots bs' k → foots bs k := fun k ⟨it, hi, hk⟩ => ⟨it, (hd.perm.mem_iff).1 (List.mem_cons_of_mem _ hi), hk⟩
  have hfr : ∀ k, (Wk.row e sz p n c (encL xs)).foot k → ¬ foots bs' k := fun k hk ⟨it, hi, hk'⟩ => hap.1 it hi k hk hk'
  constructor
  · have S2 : St w0 M0 ds a w l bs' fs := ⟨S1.slots, S1.defers, S1.wd.sub (.cons _ (.refl _)) (.refl _)⟩
    refine (S2.add (Φ := AgF (foots bs') w) AgF.stable).add fun w' hw' => ⟨SlF.stable (own_sl hr) (fun ad hp => hfr _ ⟨ad, hp, rfl⟩) w' hw', ?_⟩
    exact (h.less fun k _ hk => hsub k hk) w' hw'
  · intro a' w' l' fs' S' hm
    have hag : Agree (foots bs') w w' := (S'.wd.facts _ hm).now
    refine St.perm ?_ _ hd.perm.symm
    have hlt := row_foot_lt hr
    refine ⟨S'.slots, S'.defers, ?_⟩
    refine ⟨S'.wd.agree, fun it hi => ?_, fun it hi => ?_, fun it hi => ?_, ?_, fun Φ hΦ => ?_, fun it hi => ?_⟩
    · rcases List.mem_cons.1 hi with rfl | hi
      · exact row_loc _ _ _ _ _ _ w w' (fun k hk => hag.blk (hlt k hk) (hfr k hk)) hr
      · exact S'.wd.held it hi
    · rcases List.mem_cons.1 hi with rfl | hi
      · exact fun k hk => Nat.lt_of_lt_of_le (hlt k hk) hag.size
      · exact S'.wd.lt it hi
    · rcases List.mem_cons.1 hi with rfl | hi
      · exact S1.wd.own _ (by simp)
      · exact S'.wd.own it hi
    · exact S1.wd.apart
    · have h1 := S1.wd.facts Φ hΦ
      exact fun w2 hw2 => h1 w2 ((hag.mono fun k _ ⟨it, hi, hk⟩ => ⟨it, List.mem_cons_of_mem _ hi, hk⟩).trans hw2)
    · rcases List.mem_cons.1 hi with rfl | hi
      · exact row_loc _ _ _ _ _ _
      · exact S'.wd.loc it hi
end
theorem encL_dropG {α : Type} [Enc α] (xs : List α) (m : Nat) : encL (xs.drop m) = (encL xs).drop (m * Enc.sz α) := by
  induction m generalizing xs with
  | zero => simp
  | succ m ih =>
    cases xs with
    | nil => simp [encL]
    | cons x xs =>
      rw [List.drop_succ_cons, ih, encL_cons, show (m + 1) * Enc.sz α = (Enc.cells x).length + m * Enc.sz α from by rw [Enc.len, Nat.add_mul]; omega, ← List.drop_drop, List.drop_left]
/-- the rest of a row. -/
theorem GlF.drop {α : Type} [Lay α] {sz : Nat} [hs : SzE α sz] {p : Option Addr} {xs : List α} {w : World} {c : Nat} (m : Nat) (h : GlF p xs w) (hc : xs.length ≤ c) : GlF (if c = m then p else p.map (·.add (m * sz))) (xs.drop m) w := by
  split
  · rename_i he
    rw [List.drop_of_length_le (by omega)]; exact gl_nil
  · refine ⟨⟨fun hp => ?_, fun ad hp j u hj => ?_⟩, fun x hx => h.2 x (List.drop_subset _ _ hx)⟩
    · have : p = none := by cases p with
        | none => rfl
        | some a => cases hp
      rw [encL_dropG, h.1.1 this, List.drop_nil]
    · cases p with
      | none => cases hp
      | some a =>
        obtain rfl : a.add (m * sz) = ad := by simpa using hp
        rw [encL_dropG, List.getElem?_drop, hs.eq] at hj
        rw [Go.Deep.add_add]
        exact h.1.2 a rfl _ _ hj
/-- this points somewhere. -/
class PS (p : Option Addr) : Prop where ex : ∃ ad, p = some ad
theorem PS.of {w : World} {e : TypeId} {sz : Nat} {p : Option Addr} {n c : Nat} {xs : List Value} (h : w.ownsRow 0 e sz (.slice p n c) n xs) (hn : 0 < n) : PS p := by
  obtain ⟨g, cur, rfl, _⟩ := own_cells h hn
  exact ⟨_, rfl⟩
section
variable {P : Program} {lc : Cx} {bs : List Item} {fs : List (World → Prop)} {x y : Operand} {p : Option Addr} {n c k sz o : Nat} {kk : IntKind} {m : Int} {t ty e : TypeId} {z : Value} {by_ : Nat}
instance (priority := 955) opIdxP [Ev lc x (.slice p n c)] [Ev lc y (.int kk m)] [Und P t (.slice e)] [TI P e z sz by_] [hm : IsNat m k] [hp : PS p] [hk : KLt k n] [hmul : MulN k sz o] :
    OpQ P (.indexAddr t x y) ty lc bs fs (.pointer (some (rAddr p o))) := ⟨fun ρ w h mm => by
  have hlt := hk.lt
  obtain ⟨ad, rfl⟩ := hp.ex
  have h2 := hm.eq
  subst h2
  have e3 := hmul.eq
  simp [xop, execOp, h.ev (x := x) (v := .slice (some ad) n c), h.ev (x := y) (v := .int kk (k : Int))]
  simp [run_indexAt (P := P) (t := t) (e := e) (z := z) (sz := sz) (by_ := by_) (Int.natCast_nonneg k) (Int.ofNat_lt.2 hlt), rAddr, e3]⟩
end
/-- a type of values with methods. -/
class IfT (P : Program) (t : TypeId) : Prop where eq : P.underlying t = some (.interface (P.methodsAt t))
/-- an error, or none. -/
def errV (b : Bool) (te : TypeId) (pe : Value) : Value := if b then .nilIface else .iface te pe
instance opErr {P : Program} {l : Cx} {bs : List Item} {fs : List (World → Prop)} {x : Operand} {t t' ty : TypeId} {b : Bool} {te : TypeId} {pe : Value} [Ev l x (errV b te pe)] [hi : IfT P t] : OpQ P (.binOp .eql t x (.const .nilIface) t') ty l bs fs (.bool b) := ⟨fun ρ w h _ => by
  have e2 : ρ (.const .nilIface) = .nilIface := h.ev (x := .const .nilIface) (v := .nilIface)
  cases b <;> simp [xop, execOp, h.ev (x := x) (v := errV _ te pe), e2, errV, eqGuard, binOp, run_equal_held_nil w t te pe hi.eq, run_equal_nil_nil w t hi.eq]⟩
theorem Agree.ofBelow {w w' : World} (h : Below w.heap.size w w') : Agree (fun _ => False) w w' := ⟨h.os, h.tape, h.output, h.size, fun k hk _ => h.block k hk⟩
end Go.Wk
