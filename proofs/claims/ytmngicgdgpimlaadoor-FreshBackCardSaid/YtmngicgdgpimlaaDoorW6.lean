import Derived.Test.YtmngicgdgpimlaaDoorW5
namespace Go.Wk
open Go

/-! texts: put together, held against one another -/
theorem bl_irrefl : ∀ s : List UInt8, Op.bytesLess s s = false
  | [] => rfl
  | a :: s => by simp [Op.bytesLess, bl_irrefl s]
theorem bl_tri : ∀ s u : List UInt8, Op.bytesLess s u = true ∨ s = u ∨ Op.bytesLess u s = true
  | [], [] => .inr (.inl rfl)
  | [], _ :: _ => .inl rfl
  | _ :: _, [] => .inr (.inr rfl)
  | a :: s, b :: u => by
    simp only [Op.bytesLess, Bool.or_eq_true, Bool.and_eq_true, decide_eq_true_eq, beq_iff_eq, List.cons.injEq]
    rcases UInt8.lt_or_lt_of_ne (a := a) (b := b) |> fun h => (Classical.em (a = b)).imp id h with rfl | h
    · rcases bl_tri s u with h | h | h
      · exact .inl (.inr ⟨rfl, h⟩)
      · exact .inr (.inl ⟨rfl, h⟩)
      · exact .inr (.inr (.inr ⟨rfl, h⟩))
    · rcases h with h | h
      · exact .inl (.inl h)
      · exact .inr (.inr (.inl h))
theorem bl_asymm : ∀ s u : List UInt8, Op.bytesLess s u = true → Op.bytesLess u s = false
  | [], [], h => by cases h
  | [], _ :: _, _ => rfl
  | _ :: _, [], h => by simp [Op.bytesLess] at h
  | a :: s, b :: u, h => by
    simp only [Op.bytesLess, Bool.or_eq_true, Bool.and_eq_true, decide_eq_true_eq, beq_iff_eq] at h
    rcases h with h | ⟨rfl, h⟩
    · have h1 : ¬ b < a := by intro h2; exact absurd (UInt8.lt_trans h h2) (UInt8.lt_irrefl _)
      have h2 : b ≠ a := by rintro rfl; exact absurd h (UInt8.lt_irrefl _)
      simp [Op.bytesLess, h1, h2]
    · simp [Op.bytesLess, bl_asymm s u h]
theorem bl_trans : ∀ s u v : List UInt8, Op.bytesLess s u = true → Op.bytesLess u v = true → Op.bytesLess s v = true
  | _, [], _, h, _ => by cases ‹List UInt8› <;> simp [Op.bytesLess] at h
  | _, _ :: _, [], _, h => by simp [Op.bytesLess] at h
  | [], _ :: _, _ :: _, _, _ => rfl
  | a :: s, b :: u, c :: v, h, h' => by
    simp only [Op.bytesLess, Bool.or_eq_true, Bool.and_eq_true, decide_eq_true_eq, beq_iff_eq] at h h' ⊢
    rcases h with h | ⟨rfl, h⟩ <;> rcases h' with h' | ⟨rfl, h'⟩
    · exact .inl (UInt8.lt_trans h h')
    · exact .inl h
    · exact .inl h'
    · exact .inr ⟨rfl, bl_trans s u v h h'⟩
theorem bl_gt (s u : List UInt8) : (!(Op.bytesLess s u || (s == u))) = Op.bytesLess u s := by
  rcases bl_tri s u with h | rfl | h
  · rw [h, bl_asymm _ _ h]; rfl
  · rw [bl_irrefl]; simp
  · rw [bl_asymm _ _ h, h]
    have : s ≠ u := by rintro rfl; rw [bl_irrefl] at h; cases h
    simp [this]
theorem bl_ge (s u : List UInt8) : (!Op.bytesLess s u) = (Op.bytesLess u s || decide (u = s)) := by
  rcases bl_tri s u with h | rfl | h
  · rw [h, bl_asymm _ _ h]
    have : u ≠ s := by rintro rfl; rw [bl_irrefl] at h; cases h
    simp [this]
  · rw [bl_irrefl]; simp
  · rw [bl_asymm _ _ h, h]; rfl
class Ascii (m : Int) : Prop where
  lo : 0 ≤ m
  hi : m < 128
section
variable {P : Program} {l : Cx} {bs : List Item} {fs : List (World → Prop)} {x y : Operand} {t t' ty : TypeId} {s u : List UInt8} {m : Int} {k : IntKind}
instance opSLss [Ev l x (str s)] [Ev l y (str u)] : OpQ P (.binOp .lss t x y t') ty l bs fs (.bool (Op.bytesLess s u)) := ⟨fun ρ w h _ => by
  simp [xop, execOp, h.ev (x := x) (v := str s), h.ev (x := y) (v := str u), eqGuard, binOp, Op.stringOp]⟩
instance opSGtr [Ev l x (str s)] [Ev l y (str u)] : OpQ P (.binOp .gtr t x y t') ty l bs fs (.bool (Op.bytesLess u s)) := ⟨fun ρ w h _ => by
  have := bl_gt s u
  simp [xop, execOp, h.ev (x := x) (v := str s), h.ev (x := y) (v := str u), eqGuard, binOp, Op.stringOp]
  rw [← this]; simp⟩
instance opSGeq [Ev l x (str s)] [Ev l y (str u)] : OpQ P (.binOp .geq t x y t') ty l bs fs (.bool (!Op.bytesLess s u)) := ⟨fun ρ w h _ => by
  simp [xop, execOp, h.ev (x := x) (v := str s), h.ev (x := y) (v := str u), eqGuard, binOp, Op.stringOp]⟩
instance opSLeq [Ev l x (str s)] [Ev l y (str u)] : OpQ P (.binOp .leq t x y t') ty l bs fs (.bool (!Op.bytesLess u s)) := ⟨fun ρ w h _ => by
  have := bl_gt s u
  simp [xop, execOp, h.ev (x := x) (v := str s), h.ev (x := y) (v := str u), eqGuard, binOp, Op.stringOp]
  rw [← this]; simp⟩
instance opSAdd [Ev l x (str s)] [Ev l y (str u)] [hb : LeC (s.length + u.length) 4611686018427387904] : OpQ P (.binOp .add t x y t') ty l bs fs (str (s ++ u)) := ⟨fun ρ w h _ => by
  have h1 : ¬ (((⟨s.toArray⟩ : ByteArray).size + (⟨u.toArray⟩ : ByteArray).size : Nat) : Int) > IntKind.i64.max := by
    have := hb.le
    have e1 : (⟨s.toArray⟩ : ByteArray).size = s.length := rfl
    have e2 : (⟨u.toArray⟩ : ByteArray).size = u.length := rfl
    rw [e1, e2]
    simp only [IntKind.max, IntKind.bits, IntKind.signed]
    simp; omega
  have h2 : (⟨s.toArray⟩ : ByteArray) ++ ⟨u.toArray⟩ = ⟨(s ++ u).toArray⟩ := by
    apply ByteArray.ext; simp
  simp only [xop, execOp, h.ev (x := x) (v := str s), h.ev (x := y) (v := str u), eqGuard, binOp, Op.stringOp]
  rw [if_neg h1, h2]
  simp⟩
theorem utf8_ascii {m : Int} (h0 : 0 ≤ m) (h1 : m < 128) : Utf8.encode m = ⟨[u8 m].toArray⟩ := by
  obtain ⟨n, rfl⟩ := Int.eq_ofNat_of_zero_le h0
  have hn : n < 128 := by omega
  have : ∀ n : Nat, n < 128 → Utf8.encode (n : Int) = ⟨[u8 (n : Int)].toArray⟩ := by decide +kernel
  exact this n hn
instance opConvRune [Ev l x (.int k m)] [Und P t (.int k)] [Und P t' .string] [ha : Ascii m] : OpQ P (.convert t t' x) ty l bs fs (str [u8 m]) := ⟨fun ρ w h _ => by
  have := utf8_ascii ha.lo ha.hi
  simp [xop, execOp, h.ev (x := x) (v := .int k m), convert, Sem.run_bind, run_und, Conv.intToString, this]⟩
end
end Go.Wk

namespace Go.Wk
open Go Go.Deep Go.ChangeShapes Go.WideShapes Go.ChangeAt Go.RowKit
section
variable {w0 : World} {M0 : Nat → Prop} {ds : List Deferred} {a : Act} {w : World} {l : List Value} {bs bs' : List Item} {fs : List (World → Prop)}
/-- a row of one's own that is only read from here on. -/
theorem St.rowToGl {α : Type} [Lay α] (S : St w0 M0 ds a w l bs fs) (p : Option Addr) (xs : List α) {e : TypeId} {sz n c : Nat} [hd : DropI bs (Wk.row e sz p n c (encL xs)) bs'] (h : Stable (foots bs) w (AllI xs)) : St w0 M0 ds a w l bs' (GlF p xs :: fs) := by
  have S1 := S.perm _ hd.perm
  have hap := List.pairwise_cons.1 S1.wd.apart
  have hr : (Wk.row e sz p n c (encL xs)).holds w := S1.wd.held _ (by simp)
  have S2 : St w0 M0 ds a w l bs' fs := ⟨S1.slots, S1.defers, S1.wd.sub (.cons _ (.refl _)) (.refl _)⟩
  refine S2.add fun w' hw' => ⟨SlF.stable (own_sl hr) (fun ad hp ⟨it, hi, hk⟩ => hap.1 it hi ad.block ⟨ad, hp, rfl⟩ hk) w' hw', ?_⟩
  exact (h.less fun k _ ⟨it, hi, hk⟩ => ⟨it, (hd.perm.mem_iff).1 (List.mem_cons_of_mem _ hi), hk⟩) w' hw'
end
instance (priority := 650) hasls_t {fs : List (World → Prop)} {t : LTerm} [h : HasT fs t] : HasLs fs t.p t.kids := ⟨fun M w hf => ls_of_lt (h.of M w hf)⟩
instance (priority := 650) haslx_t {fs : List (World → Prop)} {t : LTerm} [h : HasT fs t] : HasLx fs t.kids := ⟨fun M w hf => ⟨t.p, ls_of_lt (h.of M w hf)⟩⟩
section
variable {P : Program} {l : Cx} {bs : List Item} {fs : List (World → Prop)} {x y : Operand} {p : Option Addr} {n c k sz off : Nat} {kk : IntKind} {m : Int} {t ty e : TypeId} {z v : Value} {by_ : Nat}
/-- a field of a kid. -/
instance (priority := 875) opFieldEl [Ev l x (.pointer (some (elAddr p k)))] {s f ft : Nat} [hf : Fld P s f off ft] : OpQ P (.fieldAddr s x f) ty l bs fs (.pointer (some (gAddr p k 5 off))) := ⟨fun ρ w h _ => by
  have e : elAddr p k = gAddr p k 5 0 := rfl
  simp [xop, execOp, h.ev (x := x) (v := .pointer (some (elAddr p k))), run_fieldAt (P := P) (s := s) (f := f) (off := off) (ft := ft), e, gAddr_add]⟩
instance (priority := 770) opLoadL1 {xs : List LTerm} [Ev l x (.pointer (some (gAddr p k 5 off)))] [ha : AggT P t false] [hl : HasLs fs p xs] [hk : KLt k xs.length] [hn : Nth (nthL xs k).cells off v] :
    OpQ P (.load t x) ty l bs fs v := ⟨fun ρ w h mm => by
  have h1 := gl_cells (xs := xs) (k := k) (sz := 5) (ls_gl (hl.of _ _ mm.facts).now) hk.lt (hc := ⟨rfl⟩) hn.eq
  simp [xop, execOp, Instr.loadAt, h.ev (x := x) (v := .pointer (some (gAddr p k 5 off))), Instr.sureAddr, loadVar, Sem.run_bind, ha.run, load, Sem.run, h1]⟩
/-- under a guard: less than. -/
class CLt (cs : List Bool) (k n : Nat) : Prop where lt : (∀ c ∈ cs, c = true) → k < n
instance clt1 {cs : List Bool} {k n : Nat} [h : KLt k n] : CLt cs k n := ⟨fun _ => h.lt⟩
instance (priority := 900) cltS {c : Bool} {cs : List Bool} {k n : Nat} [h : CLt cs k n] : CLt (c :: cs) k n := ⟨fun hc => h.lt fun c hm => hc c (by simp [hm])⟩
instance (priority := 1100) cltD {cs : List Bool} {k n : Nat} : CLt (decide ((k : Int) < (n : Int)) :: cs) k n := ⟨fun h => by have := h (decide ((k : Int) < (n : Int))) (by simp); simp at this; omega⟩
section
variable {cs : List Bool} {ls : List Value} {α : Type} {i : Lay α} {xs : List α}
instance (priority := 820) opIdxGC [Ev ⟨cs, ls⟩ x (.slice p n c)] [Ev ⟨cs, ls⟩ y (.int kk m)] [Und P t (.slice e)] [TI P e z sz by_] [hm : IsNat m k] [hl : HasG fs p α i xs] [hs : SzE α sz] [hk : CLt cs k n] [hk' : CLt cs k xs.length] :
    OpQ P (.indexAddr t x y) ty ⟨cs, ls⟩ bs fs (.pointer (some (gAddr p k sz 0))) := ⟨fun ρ w h mm => by
  have hlt := hk.lt h.1
  obtain ⟨ad, rfl⟩ := gl_some (hl.of _ _ mm.facts).now (hk'.lt h.1) (by rw [hs.eq]; exact hs.pos)
  have h2 := hm.eq
  subst h2
  simp [xop, execOp, h.ev (x := x) (v := .slice (some ad) n c), h.ev (x := y) (v := .int kk (k : Int))]
  simp [run_indexAt (P := P) (t := t) (e := e) (z := z) (sz := sz) (by_ := by_) (Int.natCast_nonneg k) (Int.ofNat_lt.2 hlt), gAddr]⟩
instance (priority := 760) opLoadG1C {ds : List Value} [Ev ⟨cs, ls⟩ x (.pointer (some (gAddr p k sz off)))] [ha : AggT P t false] [hl : HasG fs p α i xs] [hs : SzE α sz] [hk : CLt cs k xs.length] [hc : CellsOf (nthG xs k) ds] [hn : Nth ds off v] :
    OpQ P (.load t x) ty ⟨cs, ls⟩ bs fs v := ⟨fun ρ w h mm => by
  have h1 := gl_cells (hl.of _ _ mm.facts).now (hk.lt h.1) hn.eq
  simp [xop, execOp, Instr.loadAt, h.ev (x := x) (v := .pointer (some (gAddr p k sz off))), Instr.sureAddr, loadVar, Sem.run_bind, ha.run, load, Sem.run, h1]⟩
instance (priority := 760) opLoadGAC {ds vs : List Value} [Ev ⟨cs, ls⟩ x (.pointer (some (gAddr p k sz off)))] [ha : AggT P t true] [TI P t z n by_] [hl : HasG fs p α i xs] [hs : SzE α sz] [hk : CLt cs k xs.length] [hc : CellsOf (nthG xs k) ds] [hn : Seg ds off n vs] :
    OpQ P (.load t x) ty ⟨cs, ls⟩ bs fs (.agg ⟨vs⟩) := ⟨fun ρ w h mm => by
  have hlc := run_loadCells_list (P := P) w (gAddr p k sz off) vs (fun j v hj => by
    have hjn : j < n := by rw [← hn.eq.1]; exact (List.getElem?_eq_some_iff.1 hj).1
    rw [gAddr_add]
    exact gl_cells (hl.of _ _ mm.facts).now (hk.lt h.1) ((hn.eq.2 j hjn).trans hj))
  rw [hn.eq.1] at hlc
  simp [xop, execOp, Instr.loadAt, h.ev (x := x) (v := .pointer (some (gAddr p k sz off))), Instr.sureAddr, loadVar, Sem.run_bind, ha.run, run_size, hlc]⟩
end
end
/-- nothing but memory outside these has been written since. -/
def AgF (M : Nat → Prop) (w : World) : World → Prop := fun w' => Agree M w w'
theorem AgF.stable {M : Nat → Prop} {w : World} : Stable M w (AgF M w) := fun _ h => h
section
variable {w0 : World} {M0 : Nat → Prop} {ds : List Deferred} {a : Act} {w : World} {l : List Value} {bs bs' : List Item} {fs : List (World → Prop)}
/-- a row of one's own is read for a while. -/
theorem St.borrow {α : Type} [Lay α] (S : St w0 M0 ds a w l bs fs) (p : Option Addr) (xs : List α) {e : TypeId} {sz n c : Nat} [hd : DropI bs (Wk.row e sz p n c (encL xs)) bs'] (h : Stable (foots bs) w (AllI xs)) :
    St w0 M0 ds a w l bs' (GlF p xs :: AgF (foots bs') w :: fs) ∧ ∀ a' w' l' fs', St w0 M0 ds a' w' l' bs' fs' → AgF (foots bs') w ∈ fs' → St w0 M0 ds a' w' l' bs fs := by
  have S1 := S.perm _ hd.perm
  have hap := List.pairwise_cons.1 S1.wd.apart
  have hr : (Wk.row e sz p n c (encL xs)).holds w := S1.wd.held _ (by simp)
  have hsub : ∀ k, foots bs' k → foots bs k := fun k ⟨it, hi, hk⟩ => ⟨it, (hd.perm.mem_iff).1 (List.mem_cons_of_mem _ hi), hk⟩
  have hfr : ∀ k, (Wk.row e sz p n c (encL xs)).foot k → ¬ foots bs' k := fun k hk ⟨it, hi, hk'⟩ => hap.1 it hi k hk hk'
  constructor
  · have S2 : St w0 M0 ds a w l bs' fs := ⟨S1.slots, S1.defers, S1.wd.sub (.cons _ (.refl _)) (.refl _)⟩
    refine (S2.add (Φ := AgF (foots bs') w) AgF.stable).add fun w' hw' => ⟨SlF.stable (own_sl hr) (fun ad hp => hfr _ ⟨ad, hp, rfl⟩) w' hw', ?_⟩
    exact (h.less fun k _ hk => hsub k hk) w' hw'
  · intro a' w' l' fs' S' hm
    have hag : Agree (foots bs') w w' := (S'.wd.facts _ hm).now
    refine St.perm ?_ _ hd.perm.symm
    have hlt := row_foot_lt hr
    refine ⟨S'.slots, S'.defers, ?_⟩
    refine ⟨S'.wd.agree, fun it hi => ?_, fun it hi => ?_, fun it hi => ?_, ?_, fun Φ hΦ => ?_, fun it hi => ?_⟩
    · rcases List.mem_cons.1 hi with rfl | hi
      · exact row_loc _ _ _ _ _ _ w w' (fun k hk => hag.blk (hlt k hk) (hfr k hk)) hr
      · exact S'.wd.held it hi
    · rcases List.mem_cons.1 hi with rfl | hi
      · exact fun k hk => Nat.lt_of_lt_of_le (hlt k hk) hag.size
      · exact S'.wd.lt it hi
    · rcases List.mem_cons.1 hi with rfl | hi
      · exact S1.wd.own _ (by simp)
      · exact S'.wd.own it hi
    · exact S1.wd.apart
    · have h1 := S1.wd.facts Φ hΦ
      exact fun w2 hw2 => h1 w2 ((hag.mono fun k _ ⟨it, hi, hk⟩ => ⟨it, List.mem_cons_of_mem _ hi, hk⟩).trans hw2)
    · rcases List.mem_cons.1 hi with rfl | hi
      · exact row_loc _ _ _ _ _ _
      · exact S'.wd.loc it hi
end
theorem encL_dropG {α : Type} [Enc α] (xs : List α) (m : Nat) : encL (xs.drop m) = (encL xs).drop (m * Enc.sz α) := by
  induction m generalizing xs with
  | zero => simp
  | succ m ih =>
    cases xs with
    | nil => simp [encL]
    | cons x xs =>
      rw [List.drop_succ_cons, ih, encL_cons, show (m + 1) * Enc.sz α = (Enc.cells x).length + m * Enc.sz α from by rw [Enc.len, Nat.add_mul]; omega, ← List.drop_drop, List.drop_left]
/-- the rest of a row. -/
theorem GlF.drop {α : Type} [Lay α] {sz : Nat} [hs : SzE α sz] {p : Option Addr} {xs : List α} {w : World} {c : Nat} (m : Nat) (h : GlF p xs w) (hc : xs.length ≤ c) : GlF (if c = m then p else p.map (·.add (m * sz))) (xs.drop m) w := by
  split
  · rename_i he
    rw [List.drop_of_length_le (by omega)]; exact gl_nil
  · refine ⟨⟨fun hp => ?_, fun ad hp j u hj => ?_⟩, fun x hx => h.2 x (List.drop_subset _ _ hx)⟩
    · have : p = none := by cases p with
        | none => rfl
        | some a => cases hp
      rw [encL_dropG, h.1.1 this, List.drop_nil]
    · cases p with
      | none => cases hp
      | some a =>
        obtain rfl : a.add (m * sz) = ad := by simpa using hp
        rw [encL_dropG, List.getElem?_drop, hs.eq] at hj
        rw [Go.Deep.add_add]
        exact h.1.2 a rfl _ _ hj
/-- this points somewhere. -/
class PS (p : Option Addr) : Prop where ex : ∃ ad, p = some ad
theorem PS.of {w : World} {e : TypeId} {sz : Nat} {p : Option Addr} {n c : Nat} {xs : List Value} (h : w.ownsRow 0 e sz (.slice p n c) n xs) (hn : 0 < n) : PS p := by
  obtain ⟨g, cur, rfl, _⟩ := own_cells h hn
  exact ⟨_, rfl⟩
section
variable {P : Program} {lc : Cx} {bs : List Item} {fs : List (World → Prop)} {x y : Operand} {p : Option Addr} {n c k sz o : Nat} {kk : IntKind} {m : Int} {t ty e : TypeId} {z : Value} {by_ : Nat}
instance (priority := 955) opIdxP [Ev lc x (.slice p n c)] [Ev lc y (.int kk m)] [Und P t (.slice e)] [TI P e z sz by_] [hm : IsNat m k] [hp : PS p] [hk : KLt k n] [hmul : MulN k sz o] :
    OpQ P (.indexAddr t x y) ty lc bs fs (.pointer (some (rAddr p o))) := ⟨fun ρ w h mm => by
  have hlt := hk.lt
  obtain ⟨ad, rfl⟩ := hp.ex
  have h2 := hm.eq
  subst h2
  have e3 := hmul.eq
  simp [xop, execOp, h.ev (x := x) (v := .slice (some ad) n c), h.ev (x := y) (v := .int kk (k : Int))]
  simp [run_indexAt (P := P) (t := t) (e := e) (z := z) (sz := sz) (by_ := by_) (Int.natCast_nonneg k) (Int.ofNat_lt.2 hlt), rAddr, e3]⟩
end
/-- a type of values with methods. -/
class IfT (P : Program) (t : TypeId) : Prop where eq : P.underlying t = some (.interface (P.methodsAt t))
/-- an error, or none. -/
def errV (b : Bool) (te : TypeId) (pe : Value) : Value := if b then .nilIface else .iface te pe
instance opErr {P : Program} {l : Cx} {bs : List Item} {fs : List (World → Prop)} {x : Operand} {t t' ty : TypeId} {b : Bool} {te : TypeId} {pe : Value} [Ev l x (errV b te pe)] [hi : IfT P t] : OpQ P (.binOp .eql t x (.const .nilIface) t') ty l bs fs (.bool b) := ⟨fun ρ w h _ => by
  have e2 : ρ (.const .nilIface) = .nilIface := h.ev (x := .const .nilIface) (v := .nilIface)
  cases b <;> simp [xop, execOp, h.ev (x := x) (v := errV _ te pe), e2, errV, eqGuard, binOp, Sem.run_bind, run_equal_held_nil w t te pe hi.eq, run_equal_nil_nil w t hi.eq]⟩
theorem Agree.ofBelow {w w' : World} (h : Below w.heap.size w w') : Agree (fun _ => False) w w' := ⟨h.os, h.tape, h.output, h.size, fun k hk _ => h.block k hk⟩
end Go.Wk
